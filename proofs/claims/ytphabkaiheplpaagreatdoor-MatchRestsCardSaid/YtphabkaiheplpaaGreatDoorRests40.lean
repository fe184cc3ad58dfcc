/- Joined texts of this proof: RsQ. -/
import Derived.Test.YtphabkaiheplpaaGreatDoorRests39
/- RestI under Cancel; how often a side stands in the lists. -/
set_option linter.unusedVariables false
set_option linter.unusedSimpArgs false
set_option maxRecDepth 100000
namespace Go.Proofs.YtphabkaiheplpaaGreatDoor
open Go.RowKit Go.Shelf Go.Maps

theorem set_prD {ps : List Pr} {d k : Nat} (hd : d < ps.length) (q : Pr) : (ps.set d q).getD k pr0 = if d = k then q else ps.getD k pr0 := by
  rw [List.getD_eq_getElem?_getD, List.getD_eq_getElem?_getD]
  by_cases h : d = k
  · subst h; rw [if_pos rfl, List.getElem?_set_self hd]; rfl
  · rw [if_neg h, List.getElem?_set_ne h]
/-- Sides that part in 'asked' alone. -/
theorem RestI.same {zs : List ByteArray} {tol : Int} {es es' : List Ent} {ps : List Pr} (h : RestI zs tol es ps) (hl : es'.length = es.length) (hs : ∀ k, (es'.getD k ent0).p = (es.getD k ent0).p ∧ (es'.getD k ent0).x = (es.getD k ent0).x ∧ (es'.getD k ent0).pair = (es.getD k ent0).pair ∧ (es'.getD k ent0).gone = (es.getD k ent0).gone) : RestI zs tol es' ps := by
  have hf : ∀ i j, fitAt zs tol (es'.getD i ent0) (es'.getD j ent0) = fitAt zs tol (es.getD i ent0) (es.getD j ent0) := fun i j => by
    unfold fitAt
    rw [(hs i).1, (hs i).2.1, (hs j).1, (hs j).2.1]
  have ho : ∀ i, openB (es'.getD i ent0) = openB (es.getD i ent0) := fun i => by
    unfold openB
    rw [(hs i).2.2.1, (hs i).2.2.2]
  refine ⟨fun i j hi hj hoi hoj => ?_, fun m hm hg => ?_, fun m hm => ?_, fun k hk hp hg => ?_⟩
  · rw [hf]; exact h.nofit i j (by omega) (by omega) (by rw [← ho]; exact hoi) (by rw [← ho]; exact hoj)
  · rw [(hs _).2.2.1, (hs _).2.2.1, (hs _).2.2.2, (hs _).2.2.2, hf]; exact h.std m hm hg
  · rw [(hs _).2.2.1, (hs _).2.2.1]; exact h.pin m hm
  · rw [(hs _).2.2.1] at hp ⊢
    rw [(hs _).2.2.2] at hg
    exact h.ent k (by omega) hp hg
theorem RestI.shut_open {zs : List ByteArray} {tol : Int} {es : List Ent} {ps : List Pr} (h : RestI zs tol es ps) {i : Nat} (hi : i < es.length) (hp : (es.getD i ent0).pair < 0) : RestI zs tol (es.set i { es.getD i ent0 with gone := true }) ps := by
  have hne : ∀ k, i ≠ k → (es.set i { es.getD i ent0 with gone := true }).getD k ent0 = es.getD k ent0 := fun k hk => getD_set_ne2 hk _
  have hpr : ∀ k, ((es.set i { es.getD i ent0 with gone := true }).getD k ent0).pair = (es.getD k ent0).pair := fun k => by
    rw [set_getD hi]
    split
    · rename_i h1; subst h1; rfl
    · rfl
  refine ⟨fun k j hk hj hok hoj => ?_, fun m hm hg => ?_, fun m hm => ?_, fun k hk hp' hg => ?_⟩
  · rw [List.length_set] at hk hj
    have nk : i ≠ k := fun e => by subst e; rw [getD_set_eq hi] at hok; simp [openB] at hok
    have nj : i ≠ j := fun e => by subst e; rw [getD_set_eq hi] at hoj; simp [openB] at hoj
    rw [hne k nk] at hok ⊢
    rw [hne j nj] at hoj ⊢
    exact h.nofit k j hk hj hok hoj
  · have hs := h.std m hm hg
    have nd : i ≠ (ps.getD m pr0).d := fun e => by rw [← e] at hs; omega
    have nr : i ≠ (ps.getD m pr0).r := fun e => by rw [← e] at hs; omega
    rw [hne _ nd, hne _ nr]
    exact hs
  · rw [hpr, hpr]; exact h.pin m hm
  · rw [List.length_set] at hk
    rw [hpr] at hp' ⊢
    have nk : i ≠ k := fun e => by subst e; omega
    rw [hne k nk] at hg
    exact h.ent k hk hp' hg
theorem RestI.shut_pair {zs : List ByteArray} {tol : Int} {es : List Ent} {ps : List Pr} (h : RestI zs tol es ps) {m : Nat} (hm : m < ps.length) (hg : (ps.getD m pr0).gone = false) (hd : (ps.getD m pr0).d < es.length) (hr : (ps.getD m pr0).r < es.length) :
    RestI zs tol ((es.set (ps.getD m pr0).d { es.getD (ps.getD m pr0).d ent0 with gone := true }).set (ps.getD m pr0).r { (es.set (ps.getD m pr0).d { es.getD (ps.getD m pr0).d ent0 with gone := true }).getD (ps.getD m pr0).r ent0 with gone := true }) (ps.set m { ps.getD m pr0 with gone := true }) := by
  have hsm := h.std m hm hg
  have hent := h.ent
  generalize hq : ps.getD m pr0 = q at *
  obtain ⟨e3, hE⟩ : ∃ e3, e3 = (es.set q.d { es.getD q.d ent0 with gone := true }).set q.r { (es.set q.d { es.getD q.d ent0 with gone := true }).getD q.r ent0 with gone := true } := ⟨_, rfl⟩
  have hl3 : e3.length = es.length := by rw [hE]; simp
  have e3at : ∀ k, e3.getD k ent0 = if q.d = k ∨ q.r = k then { es.getD k ent0 with gone := true } else es.getD k ent0 := fun k => by
    rw [hE, set_getD (by simpa using hr)]
    by_cases h2 : q.r = k
    · subst h2
      rw [if_pos rfl, if_pos (.inr rfl), set_getD hd]
      by_cases h1 : q.d = q.r
      · rw [if_pos h1, h1]
      · rw [if_neg h1]
    · rw [if_neg h2, set_getD hd]
      by_cases h1 : q.d = k
      · subst h1; rw [if_pos rfl, if_pos (.inl rfl)]
      · rw [if_neg h1, if_neg (by rintro (h | h) <;> contradiction)]
  rw [← hE]
  clear hE
  have hpr : ∀ k, (e3.getD k ent0).pair = (es.getD k ent0).pair := fun k => by rw [e3at]; split <;> rfl
  have hin : ∀ k, (q.d = k ∨ q.r = k) → (es.getD k ent0).pair = (m : Int) := fun k hk => by
    rcases hk with rfl | rfl
    · exact hsm.1
    · exact hsm.2.1
  have hother : ∀ k, (es.getD k ent0).pair ≠ (m : Int) → e3.getD k ent0 = es.getD k ent0 := fun k hk => by
    rw [e3at, if_neg (fun h1 => hk (hin k h1))]
  refine ⟨fun i j hi hj hoi hoj => ?_, fun m' hm' hg' => ?_, fun m' hm' => ?_, fun k hk hp hgk => ?_⟩
  · have cl : ∀ j, openB (e3.getD j ent0) = true → (es.getD j ent0).pair ≠ (m : Int) := fun j hj e1 => by
      unfold openB at hj
      rw [Bool.and_eq_true, decide_eq_true_eq, hpr, e1] at hj
      omega
    have ei := hother i (cl i hoi)
    have ej := hother j (cl j hoj)
    rw [ei] at hoi
    rw [ej] at hoj
    rw [ei, ej]
    exact h.nofit i j (by omega) (by omega) hoi hoj
  · rw [List.length_set] at hm'
    rw [set_prD hm] at hg' ⊢
    by_cases hmm : m = m'
    · rw [if_pos hmm] at hg'; cases hg'
    · rw [if_neg hmm] at hg' ⊢
      have hs := h.std m' hm' hg'
      have nd : (es.getD (ps.getD m' pr0).d ent0).pair ≠ (m : Int) := by rw [hs.1]; omega
      have nr : (es.getD (ps.getD m' pr0).r ent0).pair ≠ (m : Int) := by rw [hs.2.1]; omega
      rw [hother _ nd, hother _ nr]
      exact hs
  · rw [List.length_set] at hm'
    rw [set_prD hm, hpr, hpr]
    have := h.pin m' hm'
    split
    · rename_i e1; subst e1; rw [hq] at this; exact this
    · exact this
  · rw [hpr] at hp ⊢
    have nk : ¬ (q.d = k ∨ q.r = k) := fun h1 => by rw [e3at, if_pos h1] at hgk; cases hgk
    rw [e3at, if_neg nk] at hgk
    have he := h.ent k (by omega) hp hgk
    have hne : m ≠ (es.getD k ent0).pair.toNat := fun e1 => by
      rw [← e1, hq] at he
      exact nk he.2
    rw [set_prD hm, if_neg hne]
    exact he
/-- What stands is what stood, under Cancel. -/
theorem RestI.cancel {zs : List ByteArray} {tol : Int} {es : List Ent} {ps : List Pr} (h : RestI zs tol es ps) (HS : StOk zs es ps) {i : Nat} (hi : i < es.length) : RestI zs tol (cancelAt es ps i).2.2.1 (cancelAt es ps i).2.2.2 := by
  by_cases hg : (es.getD i ent0).gone = true
  · unfold cancelAt; rw [if_pos hg]; exact h
  · have hg : (es.getD i ent0).gone = false := by simpa using hg
    by_cases hp : (es.getD i ent0).pair < 0
    · unfold cancelAt; rw [if_neg (by rw [hg]; decide), if_pos hp]; exact h.shut_open hi hp
    · obtain ⟨m, hm⟩ : ∃ m : Nat, (es.getD i ent0).pair = (m : Int) := ⟨(es.getD i ent0).pair.toNat, by omega⟩
      have hmp : m < ps.length := by
        have := (HS.ent _ (getD_mem hi)).2.2.2.2.2.1
        omega
      have he := h.ent i hi (by omega) hg
      rw [hm, Int.toNat_natCast] at he
      have hq := HS.prs _ (pr_mem hmp)
      obtain ⟨e1, hE⟩ : ∃ e1, e1 = es.set i { es.getD i ent0 with asked := true } := ⟨_, rfl⟩
      have hl1 : e1.length = es.length := by rw [hE]; simp
      have h1 : RestI zs tol e1 ps := h.same hl1 (fun k => by
        rw [hE, set_getD hi]
        split
        · rename_i e; subst e; exact ⟨rfl, rfl, rfl, rfl⟩
        · exact ⟨rfl, rfl, rfl, rfl⟩)
      have hc : cancelAt es ps i = if ((e1.getD (ps.getD m pr0).d ent0).asked && (e1.getD (ps.getD m pr0).r ent0).asked) = true then (0, true, (e1.set (ps.getD m pr0).d { e1.getD (ps.getD m pr0).d ent0 with gone := true }).set (ps.getD m pr0).r { (e1.set (ps.getD m pr0).d { e1.getD (ps.getD m pr0).d ent0 with gone := true }).getD (ps.getD m pr0).r ent0 with gone := true }, ps.set m { ps.getD m pr0 with gone := true }) else (0, false, e1, ps) := by
        subst hE
        unfold cancelAt
        rw [if_neg (by rw [hg]; decide), if_neg hp, hm, Int.toNat_natCast]
      rw [hc]
      split
      · exact h1.shut_pair hmp he.1 (by rw [hl1]; exact hq.1) (by rw [hl1]; exact hq.2.1)
      · exact h1
end Go.Proofs.YtphabkaiheplpaaGreatDoor
