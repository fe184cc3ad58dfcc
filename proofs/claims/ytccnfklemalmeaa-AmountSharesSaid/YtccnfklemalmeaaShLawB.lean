/- The law of shares by its walk, where n may be dealt out. -/
import Derived.Test.YtccnfklemalmeaaShLawT
set_option linter.unusedVariables false
set_option linter.unusedSimpArgs false
set_option maxRecDepth 100000
namespace Go.Proofs.Ytccnfklemalmeaa
open Go.RowKit Go.Lib

theorem Dealt.in64 {n : Int} {xs ps : List Int} (h : Dealt n xs ps) (F : FitF n xs) (hn : n ≤ 9223372036854775807) : In64 ps := fun x hx => by
  obtain ⟨k, hk, e⟩ := List.getElem_of_mem hx
  have := h.bounds F (j := k) (by rw [← h.len]; exact hk)
  simp only [List.getD_eq_getElem?_getD, List.getElem?_eq_getElem hk, Option.getD_some, e] at this
  omega
theorem sum_parts {n : Int} {xs ps : List Int} {B : Option Addr} {l c : Nat} {w : World} (h : Dealt n xs ps) (F : FitF n xs) (hn : n ≤ 9223372036854775807) (hp : RdI w .i64 B l ps) (hl : l * 8 ≤ 140737488351232) :
    Calls Try.prog 4 #[.slice B l c] w fun e w' => e = .returned (.tuple #[.int .i64 n, .nilIface]) ∧ Below w.heap.size w w' := by
  have s := h.sum F
  have n0 := F.n0
  have := sum_fit B l c ps w hp hl (h.in64 F hn) (by omega) (by omega)
  rw [s] at this
  exact this

set_option maxHeartbeats 8000000 in
theorem law_good (A0 : Option Addr) (l c : Nat) (xs : List Int) (n by_ : Int) (w : World) (hn : I64 n) (hby : I64 by_) (hr : RdI w .i64 A0 l xs) (hl : l * 8 ≤ 140737488351232) (hin : In64 xs) (hf : FitS n xs) :
    Calls Try.prog 3 #[.int .i64 n, .slice A0 l c, .int .i64 by_] w fun e w' => e = .returned (.bool true) ∧ Below w.heap.size w w' := by
  have mixed : Try.prog.follows .mixedOrders = true := by kernel_rfl
  have F := hf.facts
  have n9 := hn.2
  have n0 := F.n0
  have t0 := F.t0
  have t1 := F.t1
  have SM := Lib.hid (sum_fit A0 l c xs w hr hl hin (by omega) t1)
  have HR := Lib.hid hr
  have HL := Lib.hid hr.1
  have HN := Lib.hid hn
  have HF := Lib.hid hf
  have hll : l ≤ 9223372036854775807 := by omega
  have nnn : (n != n) = false := by simp
  have lnl : ((l : Int) != (l : Int)) = false := by simp
  obtain ⟨T, hT⟩ : ∃ T, T = theSum xs := ⟨_, rfl⟩
  rw [← hT] at SM t0 t1
  have HT := Lib.hid hT
  clear hr hn hf hT
  go_enter Try.func3, Try.ntmps3
  go_upto_region 10 with (first
    | (go_at_call 4; first
        | (with_reducible refine (SM.out).mono ?_; rintro e w1 ⟨rfl, hb1⟩; have HB1 := Lib.hid hb1; clear hb1)
        | (with_reducible refine (sum_parts HD.out F n9 HP.out hl).mono ?_; rintro e w3 ⟨rfl, hb3⟩; have HB3 := Lib.hid hb3; clear hb3))
    | (go_at_call 5; with_reducible refine (split_good A0 l c xs n _ HN.out (HR.out.below HB1.out) hl hin HF.out).mono ?_; rintro e w2 ⟨bp, ps, rfl, hp, hd, hb2⟩; have HB2 := Lib.hid (bl_then HB1.out hb2); have HP := Lib.hid hp; have HD := Lib.hid hd; clear hb2 hp hd)
    | (go_at_call 6; with_reducible refine (fit_yes n A0 l c xs _ (HR.out.below HB2.out) hin HF.out).mono ?_; rintro e w4 ⟨rfl, rfl⟩))
  rename_i KA hA KB hB
  go_upto_block 0 with fail
  go_cut [] from 20 (fun wx => Hid (Below w2.heap.size w2 wx))
  case first =>
    go_wp2
    go_loopg [13] l (fun g vi wr => ∃ (i : Nat), vi = .int .i64 i ∧ i ≤ l ∧ l - i ≤ g ∧ Hid (Below w2.heap.size w2 wr))
    case atStart => exact ⟨0, rfl, by omega, by omega, HB3⟩
    case round =>
      obtain ⟨i, rfl, hil, hg, HW⟩ := hrel
      by_cases hlt : i < l
      · have hltz : (i : Int) < (l : Int) := by omega
        have hix : i < xs.length := by have := HL.out; omega
        obtain ⟨ad, hA0, hx⟩ := ((HR.out.below (bl_then HB2.out HW.out))).at_ hlt
        subst hA0
        obtain ⟨bd, hbd, hp⟩ := (HP.out.below HW.out).at_ hlt
        injection hbd with hbd
        subst hbd
        rw [add_zero] at hp
        have o1 := HD.out.one F hix
        have o2 := HD.out.zero F hix
        have x0 := F.w0 i
        have x1 := F.w1 i
        have q0 := F.low0 i
        have q1 := F.low1 i
        have ql : lowS n xs i = n * xs.getD i 0 / T := by rw [HT.out]; rfl
        rw [← HT.out] at x1
        obtain ⟨x, hxe⟩ : ∃ x, x = xs.getD i 0 := ⟨_, rfl⟩
        obtain ⟨p, hpe⟩ : ∃ p, p = ps.getD i 0 := ⟨_, rfl⟩
        obtain ⟨q, hqe⟩ : ∃ q, q = lowS n xs i := ⟨_, rfl⟩
        rw [← hxe] at hx o2 x0 x1 ql
        rw [← hpe] at hp o1 o2
        rw [← hqe] at o1 q0 q1 ql
        have MD := mul_down (n := n) (x := x) (T := T) n0 n9 x0 x1 t0 t1 (by rw [← ql]; omega) wr
        rw [← ql] at MD
        have HMD := Lib.hid MD
        have HE := Lib.hid (And.intro hxe hpe)
        have pb := (HD.out.bounds F hix).2
        rw [← hpe] at pb
        clear hxe hpe hqe ql MD hix
        go_upto_region 14 with (first | (go_at_call 7; with_reducible refine (HMD.out).mono ?_; rintro e w4 ⟨rfl, hb4⟩))
        have HW4 := Lib.hid (bl_then HW.out hb4)
        have hx4 := bl_cell hb4 hx
        have hp4 := bl_cell hb4 hp
        clear hx hp hb4 HW HMD
        go_cut [115] from 67 to 166 (fun v wx => v = .bool false ∧ wx = w4)
        case first =>
          by_cases e1 : p = q
          · have f1 : (p != q) = false := by simp [e1]
            by_cases e2 : x = 0
            · have p0 := o2 e2
              have f2 : (x == 0) = true := by simp [e2]
              have f3 : (p != 0) = false := by simp [p0]
              clear o1 o2 e1 e2 p0
              go_wp2
              go_meet
              exact ⟨rfl, rfl⟩
            · have f2 : (x == 0) = false := by simp [e2]
              clear o1 o2 e1 e2
              go_wp2
              go_meet
              exact ⟨rfl, rfl⟩
          · have e3 : p = q + 1 := by omega
            have wq : IntKind.i64.wrap (q + 1) = q + 1 := by rw [IntKind.wrap_i64]; omega
            have f1 : (p != q) = true := by simp [e1]
            have f4 : (p != q + 1) = false := by simp [e3]
            by_cases e2 : x = 0
            · have p0 := o2 e2
              have f2 : (x == 0) = true := by simp [e2]
              have f3 : (p != 0) = false := by simp [p0]
              clear o1 o2 e1 e2 e3 p0
              go_wp2
              go_meet
              exact ⟨rfl, rfl⟩
            · have f2 : (x == 0) = false := by simp [e2]
              clear o1 o2 e1 e2 e3
              go_wp2
              go_meet
              exact ⟨rfl, rfl⟩
        obtain ⟨rfl, rfl⟩ := hcut
        clear o1 o2 x0 x1 q0 q1 pb
        go_wp2
        go_loopg [16] i (fun g vk wr => ∃ (k : Nat), vk = .int .i64 k ∧ k ≤ i ∧ i - k ≤ g ∧ Hid (Below w2.heap.size w2 wr))
        case atStart => exact ⟨0, rfl, by omega, by omega, HW4⟩
        case round =>
          clear hx4 hp4 HW4
          obtain ⟨k, rfl, hki, hg2, HW⟩ := hrel
          by_cases hk : k < i
          · have hkz : (k : Int) < (i : Int) := by omega
            by_cases h50 : k < 50
            · have h50z : (k : Int) < 50 := by omega
              have hkl : (k : Int) < (l : Int) := by omega
              have hix : i < xs.length := by have := HL.out; omega
              obtain ⟨a1, e1, hxi⟩ := ((HR.out.below (bl_then HB2.out HW.out))).at_ hlt
              injection e1 with e1
              subst e1
              obtain ⟨a2, e2, hxk⟩ := ((HR.out.below (bl_then HB2.out HW.out))).at_ (show k < l by omega)
              injection e2 with e2
              subst e2
              obtain ⟨b1, e3, hpi⟩ := (HP.out.below HW.out).at_ hlt
              injection e3 with e3
              subst e3
              obtain ⟨b2, e4, hpk⟩ := (HP.out.below HW.out).at_ (show k < l by omega)
              injection e4 with e4
              subst e4
              rw [add_zero] at hpi hpk
              have m1 := HD.out.more F hk hix
              have m2 := HD.out.less F hk hix
              generalize xs.getD i 0 = xi at hxi m1 m2
              generalize xs.getD k 0 = xk at hxk m1 m2
              generalize ps.getD i 0 = pi at hpi m1 m2
              generalize ps.getD k 0 = pk at hpk m1 m2
              clear hix
              by_cases hc : xi ≤ xk
              · have d1 : decide (xi ≤ xk) = true := decide_eq_true hc
                have d2 : decide (pk < pi) = false := decide_eq_false (by have := m1 hc; omega)
                have d3 : decide (xk < xi) = false := decide_eq_false (by omega)
                clear m1 m2 hc
                go_wp2_with fail
                go_quiet (fail)
                have HW5 := Lib.hid (bl_drewN HW.out nq)
                clear HW hxi hxk hpi hpk
                generalize wr.drewN nq = w5 at HW5 ⊢
                go_wp2
                go_roundg (i - (k + 1))
                case measure => omega
                case rel => exact ⟨k + 1, by go_num, by omega, by omega, HW5⟩
              · have d1 : decide (xi ≤ xk) = false := decide_eq_false hc
                have d2 : decide (pi < pk) = false := decide_eq_false (by have := m2 (by omega); omega)
                have d3 : decide (xk < xi) = true := decide_eq_true (by omega)
                clear m1 m2 hc
                go_wp2_with fail
                go_quiet (fail)
                have HW5 := Lib.hid (bl_drewN HW.out nq)
                clear HW hxi hxk hpi hpk
                generalize wr.drewN nq = w5 at HW5 ⊢
                go_wp2
                go_roundg (i - (k + 1))
                case measure => omega
                case rel => exact ⟨k + 1, by go_num, by omega, by omega, HW5⟩
            · have h50z : ¬ (k : Int) < 50 := by omega
              go_wp2
              go_roundg (l - (i + 1))
              case measure => omega
              case rel => exact ⟨i + 1, by go_num, by omega, by omega, HW⟩
          · have hkz : ¬ (k : Int) < (i : Int) := by omega
            go_wp2
            go_roundg (l - (i + 1))
            case measure => omega
            case rel => exact ⟨i + 1, by go_num, by omega, by omega, HW⟩
      · have hltz : ¬ (i : Int) < (l : Int) := by omega
        go_wp2
        go_meet
        exact HW
  have HW7 := Lib.hid hcut.out
  clear hcut
  refine hA _ _ ?_
  exact law_tail _ _ _ _ _ _ _ _ _ _ _ _ _ _ _ _ _ _ _ _ _ _ _ _ _ _ _ _ _ _ _ _ _ _ _ _ _ _ _ _ _ _ _ _ _ _ _ _ _ _ _ _ _ _ _ _ _ _ _ _ _ _ _ _ _ _ _ _ _ _ _ _ _ _ _ _ _ _ _ _ _ _ _ _ _ _ _ _ _ _ _ _ _ _ _ _ _ _ _ _ _ _ _ _ _ _ _ _ _ _ _ _ _ _ _ _ _ _ _ _ _ _ _ _ _ _ _ _ _ _ _ _ _ _ _ _ _ _ _ _ _ _ _ _ _ _ _ _ _ _ _ _ _ _ _ _ _ _ _ _ _ _ _ _ _ _ _ _ _ _ _ _ _ _ _ _ _ _ _ _ _ _ _ _ _ _ _ _ _ _ _ _ _ _ _ _ _ _ _ _ HN.out hby F HT.out hl HL.out (HR.out.below (bl_then HB2.out HW7.out)) (HP.out.below HW7.out) HD.out fun w' hb => ⟨rfl, bl_then HB2.out (bl_then HW7.out hb)⟩

/-- The law of shares, of every number, every list of weights and every factor. -/
theorem law_AmountShares (A0 : Option Addr) (l c : Nat) (xs : List Int) (n by_ : Int) (w : World) (hn : I64 n) (hby : I64 by_) (hr : RdI w .i64 A0 l xs) (hl : l * 8 ≤ 140737488351232) (hin : In64 xs) :
    Calls Try.prog 3 #[.int .i64 n, .slice A0 l c, .int .i64 by_] w fun e w' => e = .returned (.bool true) ∧ Below w.heap.size w w' := by
  by_cases hf : FitS n xs
  · exact law_good A0 l c xs n by_ w hn hby hr hl hin hf
  · exact law_bad A0 l c xs n by_ w hr hl hin hf
end Go.Proofs.Ytccnfklemalmeaa
