/- Joined texts of this proof: RsC. -/
import Derived.Test.YtphabkaiheplpaaGreatDoorRests40
/- How often a side stands among the open ones and in the standing pairs. -/
set_option linter.unusedVariables false
set_option linter.unusedSimpArgs false
set_option maxRecDepth 100000
namespace Go.Proofs.YtphabkaiheplpaaGreatDoor
open Go.RowKit Go.Shelf Go.Maps

def cntL (L : List Nat) (Q : List Pr) (k : Nat) : Nat := L.count k + Q.countP (fun q => q.d == k) + Q.countP (fun q => q.r == k)
def inL (L : List Nat) (Q : List Pr) (k : Nat) : Bool := L.contains k || Q.any (fun q => q.d == k || q.r == k)
theorem openL_mem {es : List Ent} {k : Nat} : k ∈ openL es ↔ k < es.length ∧ openB (es.getD k ent0) = true := by
  unfold openL openTo
  rw [List.mem_filter, List.mem_range]
theorem openL_sorted (es : List Ent) : (openL es).Pairwise (· < ·) := by
  unfold openL openTo
  exact List.Pairwise.sublist List.filter_sublist List.pairwise_lt_range
theorem openL_nodup (es : List Ent) : (openL es).Nodup := by
  unfold openL openTo
  exact List.nodup_range.sublist List.filter_sublist
theorem openL_le (es : List Ent) : (openL es).length ≤ es.length := openTo_le es es.length
theorem stand_mem {ps : List Pr} {q : Pr} (h : q ∈ stand ps) : ∃ m, m < ps.length ∧ ps.getD m pr0 = q ∧ q.gone = false := by
  unfold stand at h
  rw [List.mem_filter] at h
  obtain ⟨m, hm, e⟩ := List.getElem_of_mem h.1
  exact ⟨m, hm, by rw [List.getD_eq_getElem?_getD, List.getElem?_eq_getElem hm, e]; rfl, by simpa using h.2⟩
theorem stand_le (ps : List Pr) : (stand ps).length ≤ ps.length := by
  unfold stand; exact List.length_filter_le _ _
theorem countP_none {ps : List Pr} {p : Pr → Bool} (h : ∀ j, j < ps.length → p (ps.getD j pr0) = false) : ps.countP p = 0 := by
  rw [List.countP_eq_zero]
  intro q hq
  obtain ⟨m, hm, e⟩ := List.getElem_of_mem hq
  have := h m hm
  rw [List.getD_eq_getElem?_getD, List.getElem?_eq_getElem hm, Option.getD_some, e] at this
  rw [this]
  decide
theorem countP_one : ∀ {ps : List Pr} {p : Pr → Bool} {m : Nat}, m < ps.length → p (ps.getD m pr0) = true → (∀ j, j < ps.length → j ≠ m → p (ps.getD j pr0) = false) → ps.countP p = 1
  | [], _, _, h, _, _ => absurd h (Nat.not_lt_zero _)
  | q :: r, p, 0, _, h1, h2 => by
    have h1' : p q = true := h1
    rw [List.countP_cons_of_pos h1', countP_none (fun j hj => by have := h2 (j + 1) (by simp; omega) (by omega); exact this)]
  | q :: r, p, m + 1, hm, h1, h2 => by
    have h0 : p q = false := h2 0 (by simp) (by omega)
    rw [List.countP_cons_of_neg (by rw [h0]; decide)]
    exact countP_one (by simpa using hm) h1 (fun j hj hne => h2 (j + 1) (by simp; omega) (by omega))
theorem stand_countP (ps : List Pr) (p : Pr → Bool) : (stand ps).countP p = ps.countP (fun q => p q && !q.gone) := by
  unfold stand
  rw [List.countP_filter]
theorem count_one : ∀ {l : List Nat} {k : Nat}, l.Nodup → k ∈ l → l.count k = 1
  | [], _, _, h => by cases h
  | a :: r, k, hn, h => by
    obtain ⟨h1, h2⟩ := List.nodup_cons.1 hn
    by_cases e : a = k
    · subst e
      rw [List.count_cons_self, List.count_eq_zero.2 h1]
    · rw [List.count_cons_of_ne (by simpa using e), count_one h2 (by
        rcases List.mem_cons.1 h with h | h
        · exact absurd h.symm e
        · exact h)]
/-- A side stands once if it is not gone, else never. -/
theorem rest_count {zs : List ByteArray} {tol : Int} {es : List Ent} {ps : List Pr} (h : RestI zs tol es ps) (HS : StOk zs es ps) {k : Nat} (hk : k < es.length) : cntL (openL es) (stand ps) k = if (es.getD k ent0).gone then 0 else 1 := by
  unfold cntL
  rw [stand_countP, stand_countP]
  have ps_pair : ∀ j, j < ps.length → (ps.getD j pr0).gone = false → ((ps.getD j pr0).d = k ∨ (ps.getD j pr0).r = k) → (es.getD k ent0).pair = (j : Int) ∧ (es.getD k ent0).gone = false := fun j hj hg hd => by
    have hs := h.std j hj hg
    rcases hd with hd | hd
    · rw [hd] at hs; exact ⟨hs.1, hs.2.2.1⟩
    · rw [hd] at hs; exact ⟨hs.2.1, hs.2.2.2.1⟩
  have none_d : (∀ j, j < ps.length → (ps.getD j pr0).gone = false → ¬ ((ps.getD j pr0).d = k ∨ (ps.getD j pr0).r = k)) → ps.countP (fun q => q.d == k && !q.gone) = 0 ∧ ps.countP (fun q => q.r == k && !q.gone) = 0 := fun hn => by
    refine ⟨countP_none (fun j hj => ?_), countP_none (fun j hj => ?_)⟩
    · cases hg : (ps.getD j pr0).gone
      · have := hn j hj hg
        have hne : ((ps.getD j pr0).d == k) = false := beq_false_of_ne (by omega)
        rw [hne]; rfl
      · simp
    · cases hg : (ps.getD j pr0).gone
      · have := hn j hj hg
        have hne : ((ps.getD j pr0).r == k) = false := beq_false_of_ne (by omega)
        rw [hne]; rfl
      · simp
  by_cases hg : (es.getD k ent0).gone = true
  · rw [if_pos hg]
    have h0 : (openL es).count k = 0 := List.count_eq_zero.2 (fun hm => by
      have := (openL_mem.1 hm).2
      unfold openB at this
      rw [hg] at this
      simp at this)
    have hn := none_d (fun j hj hgj hd => by
      have := (ps_pair j hj hgj hd).2
      rw [hg] at this
      cases this)
    rw [h0, hn.1, hn.2]
  · have hg : (es.getD k ent0).gone = false := by simpa using hg
    rw [hg, if_neg (by decide)]
    by_cases hp : (es.getD k ent0).pair < 0
    · have h1 : (openL es).count k = 1 := count_one (openL_nodup es) (openL_mem.2 ⟨hk, by unfold openB; rw [hg]; simpa using hp⟩)
      have hn := none_d (fun j hj hgj hd => by
        have := (ps_pair j hj hgj hd).1
        omega)
      rw [h1, hn.1, hn.2]
    · have h0 : (openL es).count k = 0 := List.count_eq_zero.2 (fun hm => by
        have := (openL_mem.1 hm).2
        rw [openB_pair hp] at this
        cases this)
      rw [h0]
      obtain ⟨m, hm⟩ : ∃ m : Nat, (es.getD k ent0).pair = (m : Int) := ⟨(es.getD k ent0).pair.toNat, by omega⟩
      have hmp : m < ps.length := by
        have := (HS.ent _ (getD_mem hk)).2.2.2.2.2.1
        omega
      have he := h.ent k hk (by omega) hg
      rw [hm, Int.toNat_natCast] at he
      have hs := h.std m hmp he.1
      have hne : (ps.getD m pr0).d ≠ (ps.getD m pr0).r := fun e => by
        have := dr_ne hs.2.2.2.2
        rw [e] at this
        exact this rfl
      have only : ∀ j, j < ps.length → j ≠ m → (ps.getD j pr0).gone = false → ¬ ((ps.getD j pr0).d = k ∨ (ps.getD j pr0).r = k) := fun j hj hjm hgj hd => by
        have := (ps_pair j hj hgj hd).1
        omega
      have off : ∀ (f : Pr → Nat), (f = (·.d) ∨ f = (·.r)) → ∀ j, j < ps.length → j ≠ m → (f (ps.getD j pr0) == k && !(ps.getD j pr0).gone) = false := fun f hf j hj hjm => by
        cases hgj : (ps.getD j pr0).gone
        · have := only j hj hjm hgj
          have hne2 : (f (ps.getD j pr0) == k) = false := beq_false_of_ne (fun e => this (by
            rcases hf with rfl | rfl
            · exact .inl e
            · exact .inr e))
          rw [hne2]; rfl
        · simp
      rcases he.2 with hd | hr
      · have c1 : ps.countP (fun q => q.d == k && !q.gone) = 1 := countP_one hmp (by rw [hd, he.1]; simp) (off (·.d) (.inl rfl))
        have c2 : ps.countP (fun q => q.r == k && !q.gone) = 0 := countP_none (fun j hj => by
          by_cases hjm : j = m
          · subst hjm
            have hne2 : ((ps.getD j pr0).r == k) = false := beq_false_of_ne (by omega)
            rw [hne2]; rfl
          · exact off (·.r) (.inr rfl) j hj hjm)
        rw [c1, c2]
      · have c1 : ps.countP (fun q => q.r == k && !q.gone) = 1 := countP_one hmp (by rw [hr, he.1]; simp) (off (·.r) (.inr rfl))
        have c2 : ps.countP (fun q => q.d == k && !q.gone) = 0 := countP_none (fun j hj => by
          by_cases hjm : j = m
          · subst hjm
            have hne2 : ((ps.getD j pr0).d == k) = false := beq_false_of_ne (by omega)
            rw [hne2]; rfl
          · exact off (·.d) (.inl rfl) j hj hjm)
        rw [c1, c2]
theorem cnt_in (L : List Nat) (Q : List Pr) (k : Nat) : inL L Q k = decide (0 < cntL L Q k) := by
  rw [Bool.eq_iff_iff, decide_eq_true_eq]
  unfold inL cntL
  rw [Bool.or_eq_true, List.contains_iff_mem, List.any_eq_true]
  constructor
  · rintro (h | ⟨q, hq, h⟩)
    · have := List.count_pos_iff.2 h; omega
    · rw [Bool.or_eq_true] at h
      rcases h with h | h
      · have := List.countP_pos_iff (p := fun q : Pr => q.d == k).2 ⟨q, hq, h⟩; omega
      · have := List.countP_pos_iff (p := fun q : Pr => q.r == k).2 ⟨q, hq, h⟩; omega
  · intro h
    by_cases h1 : 0 < L.count k
    · exact .inl (List.count_pos_iff.1 h1)
    · by_cases h2 : 0 < Q.countP (fun q => q.d == k)
      · obtain ⟨q, hq, hp⟩ := List.countP_pos_iff.1 h2
        exact .inr ⟨q, hq, by rw [hp]; rfl⟩
      · have h3 : 0 < Q.countP (fun q => q.r == k) := by omega
        obtain ⟨q, hq, hp⟩ := List.countP_pos_iff.1 h3
        exact .inr ⟨q, hq, by rw [hp, Bool.or_true]⟩
/-- A side that stands nowhere is gone. -/
theorem rest_in {zs : List ByteArray} {tol : Int} {es : List Ent} {ps : List Pr} (h : RestI zs tol es ps) (HS : StOk zs es ps) {k : Nat} (hk : k < es.length) : inL (openL es) (stand ps) k = !(es.getD k ent0).gone := by
  rw [cnt_in, rest_count h HS hk]
  cases (es.getD k ent0).gone <;> rfl
theorem gone_mono {zs : List ByteArray} {tol : Int} {es : List Ent} {ps : List Pr} (HS : StOk zs es ps) {i : Nat} (hi : i < es.length) (k : Nat) (h : (es.getD k ent0).gone = true) : ((cancelAt es ps i).2.2.1.getD k ent0).gone = true := by
  have key : ∀ (es : List Ent) (d : Nat) (e : Ent), (e.gone = true ∨ e.gone = (es.getD d ent0).gone) → d < es.length → (es.getD k ent0).gone = true → ((es.set d e).getD k ent0).gone = true := fun es d e he hd hk => by
    rw [set_getD hd]
    split
    · rename_i h1
      subst h1
      rcases he with he | he
      · exact he
      · rw [he]; exact hk
    · exact hk
  by_cases hg : (es.getD i ent0).gone = true
  · unfold cancelAt; rw [if_pos hg]; exact h
  · have hg : (es.getD i ent0).gone = false := by simpa using hg
    by_cases hp : (es.getD i ent0).pair < 0
    · unfold cancelAt; rw [if_neg (by rw [hg]; decide), if_pos hp]; exact key es i _ (.inl rfl) hi h
    · obtain ⟨m, hm⟩ : ∃ m : Nat, (es.getD i ent0).pair = (m : Int) := ⟨(es.getD i ent0).pair.toNat, by omega⟩
      have hmp : m < ps.length := by
        have := (HS.ent _ (getD_mem hi)).2.2.2.2.2.1
        omega
      have hq := HS.prs _ (pr_mem hmp)
      have h1 := key es i { es.getD i ent0 with asked := true } (.inr rfl) hi h
      have hl : (es.set i { es.getD i ent0 with asked := true }).length = es.length := by simp
      unfold cancelAt
      rw [if_neg (by rw [hg]; decide), if_neg hp, hm, Int.toNat_natCast]
      show (((if _ then _ else _ : Int × Bool × List Ent × List Pr)).2.2.1.getD k ent0).gone = true
      split
      · exact key _ _ _ (.inl rfl) (by rw [List.length_set, hl]; exact hq.2.1) (key _ _ _ (.inl rfl) (by rw [hl]; exact hq.1) h1)
      · exact h1
end Go.Proofs.YtphabkaiheplpaaGreatDoor
