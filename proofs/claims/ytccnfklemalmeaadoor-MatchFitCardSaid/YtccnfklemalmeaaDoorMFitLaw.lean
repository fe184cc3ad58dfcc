/- match.Fit answers as the document's Fit: the plain law. -/
import Derived.Test.YtccnfklemalmeaaDoorMFit
set_option linter.unusedVariables false
set_option linter.unusedSimpArgs false
set_option maxRecDepth 100000
namespace Go.Proofs.YtccnfklemalmeaaDoor
open Go.RowKit Go.Shelf

theorem ba_eq {a b : ByteArray} : (a == b) = decide (a = b) := by
  rw [ba_beq, Bool.eq_iff_iff]
  simp only [decide_eq_true_eq]
  exact ba_data
theorem ba_bne {a b : ByteArray} : (a != b) = decide (a ≠ b) := by
  unfold bne
  rw [ba_eq]
  by_cases h : a = b <;> simp [h]
def SameF (f g : Fc) : Prop := (f.trade = g.trade ∧ f.settle = g.settle ∧ sameCode f.code g.code = true ∧ f.qty = g.qty ∧ f.pay = g.pay ∧ f.cur = g.cur) ∧ (f.from_ = g.from_ ∧ f.to_ = g.to_) ∧ (f.s 0 = g.s 0 ∧ f.s 1 = g.s 1 ∧ f.s 2 = g.s 2 ∧ f.s 3 = g.s 3) ∧ (f.b 0 = g.b 0 ∧ f.b 1 = g.b 1 ∧ f.b 2 = g.b 2 ∧ f.b 3 = g.b 3) ∧ f.rcv = g.rcv ∧ f.right = g.right
theorem sameFace_iff (f g : Fc) : sameFace f g = true ↔ SameF f g := by
  unfold sameFace SameF faceL sameCode
  simp only [decide_eq_true_eq, List.cons.injEq, Lit.int.injEq, Lit.bool.injEq, Lit.string.injEq, ba_list, and_true, true_and]
  constructor
  · rintro ⟨a1, a2, d0, d1, d2, d3, d4, d5, d6, d7, d8, d9, d10, d11, a3, a4, a5, a6, a7, s0, s1, s2, s3, b0, b1, b2, b3, a8, a9⟩
    exact ⟨⟨a1, a2, ⟨d0, d1, d2, d3, d4, d5, d6, d7, d8, d9, d10, d11⟩, a3, a4, a5⟩, ⟨a6, a7⟩, ⟨s0, s1, s2, s3⟩, ⟨b0, b1, b2, b3⟩, a8, a9⟩
  · rintro ⟨⟨a1, a2, ⟨d0, d1, d2, d3, d4, d5, d6, d7, d8, d9, d10, d11⟩, a3, a4, a5⟩, ⟨a6, a7⟩, ⟨s0, s1, s2, s3⟩, ⟨b0, b1, b2, b3⟩, a8, a9⟩
    exact ⟨a1, a2, d0, d1, d2, d3, d4, d5, d6, d7, d8, d9, d10, d11, a3, a4, a5, a6, a7, s0, s1, s2, s3, b0, b1, b2, b3, a8, a9⟩
theorem sameP_iff (a b : ByteArray) : sameP a b = true ↔ bicP a 0 = bicP b 0 ∧ bicP a 1 = bicP b 1 ∧ bicP a 2 = bicP b 2 ∧ bicP a 3 = bicP b 3 := by unfold sameP; simp
theorem isB_iff (zs : List ByteArray) (p : Int) (b : ByteArray) : isB zs p b = true ↔ (0 ≤ p ∧ p < zs.length) ∧ bicOK (zs.getD p.toNat ⟨#[]⟩) = true ∧ bicOK b = true ∧ sameP (zs.getD p.toNat ⟨#[]⟩) b = true := by
  unfold isB sameBic
  simp only [Bool.and_eq_true, decide_eq_true_eq]
  constructor
  · rintro ⟨h1, h2, ⟨h3, h4⟩, h5⟩; exact ⟨⟨h1, h2⟩, h3, h4, h5⟩
  · rintro ⟨⟨h1, h2⟩, h3, h4, h5⟩; exact ⟨h1, h2, ⟨h3, h4⟩, h5⟩
theorem okP_iff (p : Int) (x : Nt) (zs : List ByteArray) : okP p x zs = true ↔ x.cancel = false ∧ 0 ≤ p ∧ p < zs.length := by
  unfold okP
  simp only [Bool.and_eq_true, decide_eq_true_eq, Bool.not_eq_true']
/-- What both ask of the two sides, but for the amounts. -/
def Good (p q : Int) (x y : Nt) (zs : List ByteArray) : Prop :=
  (y.receive = true ∧ x.cancel = false ∧ y.cancel = false) ∧ (x.trade = y.trade ∧ x.settle = y.settle ∧ sameCode x.code y.code = true ∧ x.qty = y.qty ∧ x.pay = y.pay) ∧ (x.account = y.other ∧ x.other = y.account) ∧ (isB zs q x.agent = true ∧ isB zs p y.agent = true) ∧ (x.pay = true → x.currency = y.currency)
theorem sameCode_comm (f g : Nat → Int) : sameCode f g = sameCode g f := by
  unfold sameCode
  congr 1
  apply propext
  simp only [eq_comm]
theorem face_good (p q : Int) (x y : Nt) (zs : List ByteArray) (hx : x.receive = false) : (SameF (faceE q y zs) (faceO p x zs) ∧ (faceE q y zs).right = true) ↔ Good p q x y zs := by
  have eO : faceO p x zs = { faceD p x zs with rcv := true } := by
    have hr : (faceD p x zs).rcv = false := by unfold faceD; split <;> exact hx
    unfold faceO faceE
    rw [hx]
    simp only [Bool.false_eq_true, if_false, hr]
    rfl
  rw [eO]
  cases hy : y.receive with
  | false =>
    have hr : (faceE q y zs).rcv = false := by
      unfold faceE
      rw [hy]
      simp only [Bool.false_eq_true, if_false]
      unfold faceD
      split <;> exact hy
    constructor
    · rintro ⟨⟨_, _, _, _, h, _⟩, _⟩
      rw [hr] at h
      cases h
    · rintro ⟨⟨h, _⟩, _⟩
      rw [hy] at h
      cases h
  | true =>
    have eE : faceE q y zs = { faceD q y zs with from_ := (faceD q y zs).to_, to_ := (faceD q y zs).from_, s := (faceD q y zs).b, b := (faceD q y zs).s } := by
      unfold faceE
      rw [hy, if_pos rfl]
    rw [eE]
    cases ho : okP q y zs with
    | false =>
      have hr : (faceD q y zs).right = false := by unfold faceD; rw [ho]; rfl
      constructor
      · rintro ⟨_, h⟩
        have h : (faceD q y zs).right = true := h
        rw [hr] at h
        cases h
      · rintro ⟨⟨_, _, h1⟩, _, _, ⟨h2, _⟩, _⟩
        rw [(okP_iff q y zs).2 ⟨h1, ((isB_iff _ _ _).1 h2).1⟩] at ho
        cases ho
    | true =>
      have hq := (okP_iff q y zs).1 ho
      have eDy : faceD q y zs = { faceB y with s := bicP (zs.getD q.toNat ⟨#[]⟩), b := bicP y.agent, right := bicOK (zs.getD q.toNat ⟨#[]⟩) && bicOK y.agent } := by unfold faceD; rw [ho, if_pos rfl]
      rw [eDy]
      cases hp : okP p x zs with
      | false =>
        have hr : (faceD p x zs).right = false := by unfold faceD; rw [hp]; rfl
        constructor
        · rintro ⟨⟨_, _, _, _, _, h1⟩, h2⟩
          have h1 : (bicOK (zs.getD q.toNat ⟨#[]⟩) && bicOK y.agent) = (faceD p x zs).right := h1
          have h2 : (bicOK (zs.getD q.toNat ⟨#[]⟩) && bicOK y.agent) = true := h2
          rw [hr, h2] at h1
          cases h1
        · rintro ⟨⟨_, h1, _⟩, _, _, ⟨_, h2⟩, _⟩
          rw [(okP_iff p x zs).2 ⟨h1, ((isB_iff _ _ _).1 h2).1⟩] at hp
          cases hp
      | true =>
        have hpp := (okP_iff p x zs).1 hp
        have eDx : faceD p x zs = { faceB x with s := bicP (zs.getD p.toNat ⟨#[]⟩), b := bicP x.agent, right := bicOK (zs.getD p.toNat ⟨#[]⟩) && bicOK x.agent } := by unfold faceD; rw [hp, if_pos rfl]
        rw [eDx]
        unfold Good
        rw [isB_iff, isB_iff, sameP_iff, sameP_iff]
        have hq2 := hq.2
        have hp2 := hpp.2
        generalize zs.getD q.toNat ⟨#[]⟩ = zq
        generalize zs.getD p.toNat ⟨#[]⟩ = zp
        constructor
        · rintro ⟨⟨⟨a1, a2, a3, a4, a5, a6⟩, ⟨f1, f2⟩, ⟨s0, s1, s2, s3⟩, ⟨b0, b1, b2, b3⟩, _, r1⟩, r2⟩
          have r1 : (bicOK zq && bicOK y.agent) = (bicOK zp && bicOK x.agent) := r1
          have r2 : (bicOK zq && bicOK y.agent) = true := r2
          rw [r2] at r1
          have r3 := Bool.and_eq_true_iff.1 r2
          have r4 := Bool.and_eq_true_iff.1 r1.symm
          have a5 : y.pay = x.pay := a5
          have a6 : (if y.pay then y.currency else (⟨#[]⟩ : ByteArray)) = (if x.pay then x.currency else ⟨#[]⟩) := a6
          refine ⟨⟨hy, hpp.1, hq.1⟩, ⟨a1.symm, a2.symm, (sameCode_comm _ _).trans a3, a4.symm, a5.symm⟩, ⟨f1.symm, f2.symm⟩, ⟨⟨hq2, r3.1, r4.2, b0, b1, b2, b3⟩, ⟨hp2, r4.1, r3.2, s0.symm, s1.symm, s2.symm, s3.symm⟩⟩, fun hpay => ?_⟩
          rw [a5, hpay, if_pos rfl, if_pos rfl] at a6
          exact a6.symm
        · rintro ⟨⟨_, h1, h2⟩, ⟨a1, a2, a3, a4, a5⟩, ⟨f1, f2⟩, ⟨⟨_, k1, k2, b0, b1, b2, b3⟩, ⟨_, k3, k4, s0, s1, s2, s3⟩⟩, cur⟩
          refine ⟨⟨⟨a1.symm, a2.symm, (sameCode_comm _ _).trans a3, a4.symm, a5.symm, ?_⟩, ⟨f1.symm, f2.symm⟩, ⟨s0.symm, s1.symm, s2.symm, s3.symm⟩, ⟨b0, b1, b2, b3⟩, hy, ?_⟩, ?_⟩
          · show (if y.pay then y.currency else (⟨#[]⟩ : ByteArray)) = (if x.pay then x.currency else ⟨#[]⟩)
            rw [← a5]
            cases hpay : x.pay with
            | false => rfl
            | true => rw [if_pos rfl, if_pos rfl]; exact (cur hpay).symm
          · show (bicOK zq && bicOK y.agent) = (bicOK zp && bicOK x.agent)
            rw [k1, k2, k3, k4]
          · show (bicOK zq && bicOK y.agent) = true
            rw [k1, k4]; rfl
theorem faceE_pay (q : Int) (y : Nt) (zs : List ByteArray) : (faceE q y zs).pay = y.pay := by
  have h : (faceD q y zs).pay = y.pay := by unfold faceD; split <;> rfl
  unfold faceE
  split
  · exact h
  · exact h
theorem fitE_good (p q : Int) (x y : Nt) (zs : List ByteArray) (tol : Int) (hx : x.receive = false) (h : Good p q x y zs) : fitE p q x y zs tol = if !x.pay then (0, true) else if !nearB x.amount y.amount tol then (0, false) else (x.amount, true) := by
  obtain ⟨⟨h1, h2, h3⟩, ⟨a1, a2, a3, a4, a5⟩, ⟨f1, f2⟩, ⟨i1, i2⟩, cur⟩ := h
  unfold fitE unlike
  simp only [hx, h1, h2, h3, a1, a2, a3, a4, a5, f1, f2, i1, i2, bne_self_eq_false, ba_bne, ne_eq, not_true_eq_false, decide_false, Bool.or_false, Bool.not_true, Bool.false_eq_true, if_false, Bool.false_or]
  rw [← a5]
  cases hp : x.pay with
  | false => rfl
  | true =>
    rw [cur hp]
    simp
theorem fitE_bad (p q : Int) (x y : Nt) (zs : List ByteArray) (tol : Int) (h : x.receive = true ∨ ¬ Good p q x y zs) : fitE p q x y zs tol = (0, false) := by
  rcases h with h | h
  · unfold fitE unlike
    rw [h]
    rfl
  · unfold fitE
    split
    · rfl
    · rename_i hu
      split
      · rfl
      · rename_i hv
        unfold unlike at hu
        simp only [Bool.or_eq_true, not_or, Bool.not_eq_true, Bool.not_eq_false', bne_eq_false_iff_eq, ba_bne, ne_eq, decide_eq_false_iff_not, Decidable.not_not] at hu hv
        obtain ⟨⟨⟨⟨⟨⟨⟨⟨u1, u2⟩, u3⟩, u4⟩, u5⟩, u6⟩, u7⟩, u8⟩, u9⟩ := hu
        obtain ⟨⟨⟨v1, v2⟩, v3⟩, v4⟩ := hv
        split
        · rename_i hp
          exact absurd ⟨⟨u2, u3, u4⟩, ⟨u5, u6, u7, u8, u9⟩, ⟨v1, v2⟩, ⟨v3, v4⟩, fun hpay => by rw [hpay] at hp; cases hp⟩ h
        · split
          · rfl
          · rename_i hw
            simp only [Bool.or_eq_true, not_or, Bool.not_eq_true, Bool.not_eq_false', ba_bne, ne_eq, decide_eq_false_iff_not, Decidable.not_not] at hw
            exact absurd ⟨⟨u2, u3, u4⟩, ⟨u5, u6, u7, u8, u9⟩, ⟨v1, v2⟩, ⟨v3, v4⟩, fun _ => hw.1⟩ h
theorem fitM_eq (p q : Int) (x y : Nt) (zs : List ByteArray) (tol : Int) : fitM p q x y zs tol = fitE p q x y zs tol := by
  unfold fitM
  rw [faceE_pay]
  cases hx : x.receive with
  | true => rw [fitE_bad p q x y zs tol (.inl hx)]; rfl
  | false =>
    by_cases hg : Good p q x y zs
    · rw [fitE_good p q x y zs tol hx hg]
      have h := (face_good p q x y zs hx).2 hg
      rw [(sameFace_iff _ _).2 h.1, h.2, hg.2.1.2.2.2.2]
      rfl
    · rw [fitE_bad p q x y zs tol (.inr hg)]
      have h := fun k => hg ((face_good p q x y zs hx).1 k)
      by_cases hs : sameFace (faceE q y zs) (faceO p x zs) = true
      · have hr : (faceE q y zs).right = false := by
          cases hr : (faceE q y zs).right with
          | false => rfl
          | true => exact absurd ⟨(sameFace_iff _ _).1 hs, hr⟩ h
        rw [hs, hr]
        rfl
      · rw [Bool.not_eq_true] at hs
        rw [hs]
        rfl
theorem fit_any (p q : Int) (x y : Nt) (A : Option Addr) (n c : Nat) (zs : List ByteArray) (tol : Int) (w : World) (hp : I64 p) (hq : I64 q) (hx : x.wf) (hy : y.wf) (ht : I64 tol) (hr : RdT w A n zs) (hsh : Short zs) (hn : n ≤ 140737488351232) (hpw : PowT w) :
    Calls Tryd.prog 30 #[sideV p x, sideV q y, .slice A n c, .int .i64 tol] w fun e w' => e = .returned (.tuple #[.int .i64 (fitE p q x y zs tol).1, .bool (fitE p q x y zs tol).2]) ∧ Below w.heap.size w w' := by
  rw [← fitM_eq]
  exact fit_walk p q x y A n c zs tol w hp hq hx hy ht hr hsh hn hpw
end Go.Proofs.YtccnfklemalmeaaDoor
