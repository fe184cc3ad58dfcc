/- Joined texts of this proof: BkAny. -/
import Derived.Test.YtphabkaiheplpaaGreatDoorRests23
/- (*match.Book).Add by a contract over books. -/
set_option linter.unusedVariables false
set_option linter.unusedSimpArgs false
set_option maxRecDepth 100000
namespace Go.Proofs.YtphabkaiheplpaaGreatDoor
open Go.RowKit Go.Shelf Go.Maps

theorem getD_set_eq {es : List Ent} {d : Nat} (h : d < es.length) (e : Ent) : (es.set d e).getD d ent0 = e := by
  rw [List.getD_eq_getElem?_getD, List.getElem?_set_self h]; rfl
theorem getD_set_ne2 {es : List Ent} {d k : Nat} (h : d ≠ k) (e : Ent) : (es.set d e).getD k ent0 = es.getD k ent0 := by
  rw [List.getD_eq_getElem?_getD, List.getElem?_set_ne h, ← List.getD_eq_getElem?_getD]
theorem nmOf_set {es : List Ent} {d : Nat} (hd : d < es.length) (e : Ent) (hp : e.p = (es.getD d ent0).p) (hx : e.x = (es.getD d ent0).x) : nmOf (es.set d e) = nmOf es := by
  apply List.ext_getElem?
  intro i
  by_cases hi : i < es.length
  · rw [nmOf_at (by simpa using hi), nmOf_at hi]
    by_cases h : d = i
    · subst h
      rw [getD_set_eq hd, hp, hx]
    · rw [getD_set_ne2 h]
  · rw [List.getElem?_eq_none (by rw [nmOf_length]; simp; omega), List.getElem?_eq_none (by rw [nmOf_length]; omega)]
theorem nmOf_paired {es : List Ent} {d r : Nat} (hd : d < es.length) (hr : r < es.length) (m : Int) : nmOf (paired es d r m) = nmOf es := by
  unfold paired
  exact (nmOf_set (by simpa using hr) _ (by rfl) (by rfl)).trans (nmOf_set hd _ (by rfl) (by rfl))
theorem wl_paired {zs : List ByteArray} {es : List Ent} {d r : Nat} (hd : d < es.length) (hr : r < es.length) (m : Int) (hm : 0 ≤ m) (f : Fc) : wl zs (paired es d r m) f = ((wl zs es f).filter (· != d)).filter (· != r) := by
  have ho : ∀ e : Ent, openB { e with pair := m } = false := fun e => by simp [openB]; omega
  unfold paired
  rw [wl_shut zs _ r _ f (ho _) (by simpa using hr), wl_shut zs es d _ f (ho _) hd]
theorem dr_cases (e : Ent) (n k : Nat) : (drOf e n k = (n, k)) ∨ (drOf e n k = (k, n)) := by
  unfold drOf
  cases e.x.receive <;> simp
theorem wl_matched {zs : List ByteArray} {es : List Ent} {e : Ent} {k : Nat} (hk : k < es.length) (m : Int) (hm : 0 ≤ m) (f : Fc) : wl zs (paired (es ++ [e]) (drOf e es.length k).1 (drOf e es.length k).2 m) f = (wl zs es f).filter (· != k) := by
  have hlt := drOf_lt e hk
  rw [wl_paired hlt.1 hlt.2 m hm, wl_snoc, List.filter_filter]
  have hsnoc : ∀ c : Bool, (wl zs es f ++ (if c then [es.length] else [])).filter (fun a => (a != es.length && a != k)) = (wl zs es f).filter (· != k) := fun c => by
    rw [List.filter_append]
    have h2 : (if c then [es.length] else ([] : List Nat)).filter (fun a => (a != es.length && a != k)) = [] := by cases c <;> simp
    rw [h2, List.append_nil]
    apply List.filter_congr
    intro a ha
    have := (wl_lt ha).1
    have hne : (a != es.length) = true := by simp; omega
    rw [hne, Bool.true_and]
  rcases dr_cases e es.length k with h | h
  · rw [h]
    rw [← hsnoc (openB e && sameFace (faceE e.p e.x zs) f)]
    apply List.filter_congr
    intro a _
    rw [Bool.and_comm]
  · rw [h]
    exact hsnoc _
theorem paired_ent {es : List Ent} {d r : Nat} (hd : d < es.length) (hr : r < es.length) (m : Int) {e : Ent} (he : e ∈ paired es d r m) : ∃ e0 ∈ es, e.p = e0.p ∧ e.x = e0.x ∧ e.lx = e0.lx ∧ (e.pair = e0.pair ∨ e.pair = m) := by
  have step : ∀ (l : List Ent) (d : Nat), d < l.length → ∀ e ∈ l.set d { l.getD d ent0 with pair := m }, ∃ e0 ∈ l, e.p = e0.p ∧ e.x = e0.x ∧ e.lx = e0.lx ∧ (e.pair = e0.pair ∨ e.pair = m) := fun l d hd e he => by
    rcases List.mem_or_eq_of_mem_set he with h | h
    · exact ⟨e, h, rfl, rfl, rfl, .inl rfl⟩
    · subst h
      exact ⟨l.getD d ent0, getD_mem hd, rfl, rfl, rfl, .inr rfl⟩
  obtain ⟨e1, h1, a1, a2, a3, a4⟩ := step _ r (by simpa using hr) e he
  obtain ⟨e2, h2, b1, b2, b3, b4⟩ := step es d hd e1 h1
  refine ⟨e2, h2, a1.trans b1, a2.trans b2, a3.trans b3, ?_⟩
  rcases a4 with h | h
  · rw [h]; exact b4
  · exact .inr h
theorem fitK_range {zs : List ByteArray} {tol : Int} {n k : Ent} (hn : n.x.wf) (hk : k.x.wf) : I64 (fitK zs tol n k).1 := by
  have h0 : I64 0 := by unfold I64; omega
  have h : ∀ p q x y, (Nt.wf x) → I64 (fitE p q x y zs tol).1 := fun p q x y hx => by
    unfold fitE
    repeat' split
    all_goals first | exact h0 | exact hx.amount
  unfold fitK
  split
  · exact h _ _ _ _ hk
  · exact h _ _ _ _ hn
theorem StOk.add {zs : List ByteArray} {es : List Ent} {ps : List Pr} (h : StOk zs es ps) {p : Int} {x : Nt} {lx : List Lk} (la : Option Addr) (lc : Nat) (hx : x.wf) (hp : I64 p) (hp0 : 0 ≤ p) (hp1 : p < zs.length) (hok : OkL lx) (hln : x.ln * 24 ≤ 140737488351232) (htw : twiceB es p x.ref = false) : StOk zs (es ++ [entN p x lx la lc]) ps := by
  refine ⟨fun e he => ?_, fun q hq => ?_, ?_⟩
  · rcases List.mem_append.1 he with he | he
    · exact h.ent e he
    · obtain rfl := List.mem_singleton.1 he
      exact ⟨⟨hx.ref, hx.prev, hx.priority, hx.trade, hx.settle, hx.code, hx.qty, hx.account, hx.agent, hx.other, hx.amount, hx.currency⟩, hp, hp0, hp1, by show (-1 : Int) ≤ -1; omega, by show (-1 : Int) < _; omega, hok, hln⟩
  · have := h.prs q hq
    have hl : (es ++ [entN p x lx la lc]).length = es.length + 1 := by simp
    exact ⟨by rw [hl]; have := this.1; omega, by rw [hl]; have := this.2.1; omega, this.2.2⟩
  · rw [List.pairwise_append]
    refine ⟨h.nodup, by simp, fun a ha b hb => ?_⟩
    obtain rfl := List.mem_singleton.1 hb
    unfold twiceB at htw
    rw [List.any_eq_false] at htw
    intro hab
    exact htw a ha (by
      have h1 : a.p = p := hab.1
      have h2 : a.x.ref = x.ref := hab.2
      simp [h1, h2])
theorem StOk.paired_ {zs : List ByteArray} {es : List Ent} {ps : List Pr} (h : StOk zs es ps) {d r : Nat} (hd : d < es.length) (hr : r < es.length) {am : Int} (ha : I64 am) : StOk zs (paired es d r ps.length) (ps ++ [Pr.mk d r am false]) := by
  refine ⟨fun e he => ?_, fun q hq => ?_, ?_⟩
  · obtain ⟨e0, h0, a1, a2, a3, a4⟩ := paired_ent hd hr _ he
    have b := h.ent e0 h0
    rw [a1, a2, a3]
    refine ⟨b.1, b.2.1, b.2.2.1, b.2.2.2.1, ?_, ?_, b.2.2.2.2.2.2⟩
    · rcases a4 with a4 | a4 <;> rw [a4]
      · exact b.2.2.2.2.1
      · omega
    · rw [List.length_append, List.length_singleton]
      rcases a4 with a4 | a4 <;> rw [a4]
      · have := b.2.2.2.2.2.1
        omega
      · omega
  · rw [paired_length]
    rcases List.mem_append.1 hq with hq | hq
    · exact h.prs q hq
    · obtain rfl := List.mem_singleton.1 hq
      exact ⟨hd, hr, ha⟩
  · rw [List.pairwise_iff_getElem]
    have hn := List.pairwise_iff_getElem.1 h.nodup
    have key : ∀ i, i < es.length → ((paired es d r ps.length).getD i ent0).p = (es.getD i ent0).p ∧ ((paired es d r ps.length).getD i ent0).x = (es.getD i ent0).x := fun i hi => by
      have h1 := nmOf_paired hd hr (es := es) (ps.length : Int)
      have step : ∀ (l : List Ent) (d : Nat) (m : Int), d < l.length → ((l.set d { l.getD d ent0 with pair := m }).getD i ent0).p = (l.getD i ent0).p ∧ ((l.set d { l.getD d ent0 with pair := m }).getD i ent0).x = (l.getD i ent0).x := fun l d m hd => by
        by_cases h : d = i
        · subst h
          rw [getD_set_eq hd]
          exact ⟨rfl, rfl⟩
        · rw [getD_set_ne2 h]
          exact ⟨rfl, rfl⟩
      have s1 := step es d ps.length hd
      have s2 := step (es.set d { es.getD d ent0 with pair := (ps.length : Int) }) r ps.length (by simpa using hr)
      exact ⟨s2.1.trans s1.1, s2.2.trans s1.2⟩
    intro i j hi hj hij
    have hi2 : i < es.length := by rwa [paired_length] at hi
    have hj2 : j < es.length := by rwa [paired_length] at hj
    have e1 : ∀ (l : List Ent) (i : Nat) (h : i < l.length), l[i] = l.getD i ent0 := fun l i h => by rw [List.getD_eq_getElem?_getD, List.getElem?_eq_getElem h]; rfl
    have := hn i j hi2 hj2 hij
    rw [e1 _ _ hi, e1 _ _ hj, (key i hi2).1, (key j hj2).1, (key i hi2).2, (key j hj2).2]
    rw [e1 _ _ hi2, e1 _ _ hj2] at this
    exact this
theorem sameFace_trans {f g h : Fc} (h1 : sameFace f g = true) (h2 : sameFace g h = true) : sameFace f h = true := by
  rw [sameL_iff] at *
  exact h1.trans h2
theorem wl_face {zs : List ByteArray} {es : List Ent} {f : Fc} {k : Nat} (h : k ∈ wl zs es f) : sameFace (faceE (es.getD k ent0).p (es.getD k ent0).x zs) f = true := by
  unfold wl at h
  rw [List.mem_filter] at h
  have := h.2
  simp only [Bool.and_eq_true] at this
  exact this.2
/-- What Add's two ends leave is a book again. -/
theorem addPost {F : Nat → Prop} {W : World} {b : Nat} {tv ev pv : Value} {m1 m2 : Nat} {ws : List Wq} {zs : List ByteArray} {tol : Int} {es : List Ent} {ps : List Pr} {p : Int} {x : Nt} {lx : List Lk} (HS : StOk zs es ps) (HW : WsOk zs es ws) (hF : ∀ i, F i → i < W.heap.size) (hx : x.wf) (hp : I64 p) (hok : OkL lx) (hln : x.ln * 24 ≤ 140737488351232) (h0 : addNo zs es p x lx = 0) (la : Option Addr) (lc : Nat) :
    AddPost F W b tv ev pv m1 m2 ws zs tol (nmOf (es ++ [entN p x lx la lc])) es ps (entN p x lx la lc) (AddOut F W b zs tol es ps p x lx) := by
  have hN : noteE x lx = 0 ∧ ¬ (p < 0 ∨ (zs.length : Int) ≤ p) ∧ twiceB es p x.ref = false := by
    unfold addNo at h0
    by_cases h1 : noteE x lx = 0
    · rw [if_neg (fun h => h h1)] at h0
      split at h0
      · omega
      · split at h0
        · omega
        · split at h0
          · omega
          · exact ⟨h1, by assumption, by simpa using (by assumption : ¬ twiceB es p x.ref = true)⟩
    · rw [if_pos h1] at h0
      exact absurd h0 h1
  obtain ⟨_, hpr, htw⟩ := hN
  have HS2 := HS.add la lc hx hp (by omega) (by omega) hok hln htw
  have hwf : (entN p x lx la lc).x.wf := (HS2.ent (entN p x lx la lc) (by simp)).1
  refine ⟨fun hk W' ws' hm hr hw => .inr ⟨h0, la, lc, ?_, ?_, hm.low⟩, fun k hk W' ev' pv' v' j i q hq hs hl hi hm hr => .inr ⟨h0, la, lc, ?_, ?_, hm.low⟩⟩
  · unfold addRes
    rw [hk]
  · unfold addRes
    rw [hk]
    exact BkI.fin hm hr HS2 hw hF
  · unfold addRes
    rw [hk]
  · have hkm : k ∈ wl zs es (faceO (entN p x lx la lc).p (entN p x lx la lc).x zs) := by rw [← hl]; exact List.mem_of_getElem? hi
    have hkl := (wl_lt hkm).1
    have hlt := drOf_lt (entN p x lx la lc) hkl
    unfold addRes
    rw [hk]
    refine BkI.fin (by rw [nmOf_paired hlt.1 hlt.2]; exact hm) hr (HS2.paired_ hlt.1 hlt.2 (fitK_range hwf (HS.ent _ (getD_mem hkl)).1)) ?_ hF
    refine HW.shut hq hi (by rw [hl]; exact wl_nodup _ _ _) v' (fun f hf => wl_matched hkl _ (by omega) f) (fun f hf hsf hkf => ?_)
    have h1 := sameFace_trans hs ((sameFace_comm _ _).trans (wl_face hkm))
    rw [sameFace_trans h1 (wl_face hkf)] at hsf
    cases hsf
/-- (*match.Book).Add over a book. -/
theorem add_any {F : Nat → Prop} {W : World} {b : Nat} {zs : List ByteArray} {tol : Int} {es : List Ent} {ps : List Pr} {p : Int} {x : Nt} {lx : List Lk} (hB : BkI F W b zs tol es ps) (hx : x.wf) (hp : I64 p) (hrl : RdL W x.la x.ln lx) (hok : OkL lx) (hln : x.ln * 24 ≤ 140737488351232) (hsh : Short zs) (ht : I64 tol) (hpw : PowT W) (hpf : PowFree F)
    (hel : es.length + 1 ≤ 676000000000) (hzl : zs.length ≤ 140737488351232) (hpl : (ps.length + 1) * 32 ≤ 140737488355328) :
    Calls Tryz.prog 10 #[.pointer (some ⟨b, 0, none⟩), .agg (sideC p x)] W (AddOut F W b zs tol es ps p x lx) := by
  have hB2 := hB
  obtain ⟨tv, ev, pv, m1, m2, ws, HM, HR, HS, HW, hF⟩ := hB
  exact add_walk HM HR HS HW hx hp hrl hok hln hsh ht hpw hpf hel hzl hpl (fun E w' h1 h2 h3 h4 hb => .inl ⟨h1, ⟨E, rfl, h2, h3, h4⟩, hB2.grow hb, hb⟩) (fun h0 la lc ev' => addPost HS HW hF hx hp hok hln h0 la lc)
end Go.Proofs.YtphabkaiheplpaaGreatDoor
