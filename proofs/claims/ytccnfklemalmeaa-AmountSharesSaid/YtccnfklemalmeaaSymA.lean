/- slices' symMerge where one of the two parts is one element long. -/
import Derived.Test.YtccnfklemalmeaaSortW
import Derived.Deep.Cut
import Derived.Deep.CutBlock
import Derived.Deep.DeepCutAuto
set_option linter.unusedVariables false
set_option linter.unusedSimpArgs false
set_option maxRecDepth 100000
namespace Go.Proofs.Ytccnfklemalmeaa
open Go.RowKit Go.Sort Go.Lib Go.Shelf

/-- All that the family is told of the row and the comparison, once. -/
structure SortE (enc : Nat → Value) (key : Nat → Int) (g : Nat) (cb : Array Value) (w0 : World) (blk off : Nat) (d0 : Array Nat) : Prop where
  R : Row1 enc w0 blk off d0
  eg : ∀ args w, (callFunc g args).run Try.prog w = .ok (.enter g args) w
  cmp : CmpLays1 Try.prog g cb enc (cmpKey key) blk off d0.size w0
  sz : d0.size < 2305843009213693952

set_option maxHeartbeats 4000000 in
theorem symMerge_first {enc : Nat → Value} {key : Nat → Int} {g : Nat} {cb : Array Value} {w0 : World} {blk off : Nat} {d0 : Array Nat} (E : SortE enc key g cb w0 blk off d0) (cap a m b : Nat) (d : Array Nat) (w : World) (hs : d.size = d0.size) (S : SW enc w0 blk off d w)
    (hm : a + 1 = m) (hmb : m < b) (hb : b ≤ d.size) (hr : SegS key m b d) (hc : CrossS a m b d) :
    Calls Try.prog 23 #[.slice (some ⟨blk, off, none⟩) d.size cap, .int .i64 a, .int .i64 m, .int .i64 b, .func (.func g) #[] cb] w fun e w' => e = .returned (.tuple #[]) ∧ ∃ d', SW enc w0 blk off d' w' ∧ Merged key a b d d' := by
  have mixed : Try.prog.follows .mixedOrders = true := by kernel_rfl
  obtain ⟨R, eg, hcmp, hsz⟩ := E
  have hcl0 := R.hO.cells
  simp only [Value.cells] at hcl0
  have hst := R.hO.store Try.prog
  have HC : Aside (CmpLays1 Try.prog g cb enc (cmpKey key) blk off d0.size w0) := hcmp
  have S0 : Aside (SW enc w0 blk off d w) := S
  have HS := Lib.hid hs
  have hsz2 : d.size < 2305843009213693952 := by omega
  have HM : Aside (SegS key m b d ∧ CrossS a m b d) := ⟨hr, hc⟩
  have one : (m : Int) - (a : Int) = 1 := by omega
  clear S hs hcmp hr hc hsz
  go_enter Try.func23, Try.ntmps23
  go_wp2
  go_loopg [10, 11] (b - m) (fun gg vi vj wr => ∃ (i j : Nat), vi = .int .i64 i ∧ vj = .int .i64 j ∧ m ≤ i ∧ i ≤ j ∧ j ≤ b ∧ j - i ≤ gg ∧ Aside (SW enc w0 blk off d wr) ∧ Aside (∀ k, m ≤ k → k < i → key d[a]! < key d[k]!) ∧ Aside (∀ k, j ≤ k → k < b → ¬ key d[a]! < key d[k]!))
  case atStart => exact ⟨m, b, rfl, rfl, by omega, by omega, by omega, by omega, S0, (show _ from fun k k1 k2 => by omega), (show _ from fun k k1 k2 => by omega)⟩
  case round =>
    clear S0
    obtain ⟨i, j, rfl, rfl, hmi, hij, hjb, hg, S1, LO, HI⟩ := hrel
    by_cases hlt : i < j
    · have hltz : (i : Int) < (j : Int) := by omega
      obtain ⟨s, hs⟩ : ∃ s, i + j = s := ⟨_, rfl⟩
      have es : (i : Int) + (j : Int) = (s : Int) := by omega
      have rs : IntKind.i64.wrap (s : Int) = (s : Int) := nn_wrap (by omega)
      have us : IntKind.u64.wrap (s : Int) = (s : Int) := by rw [IntKind.wrap_u64]; omega
      obtain ⟨h, hh1, hh2⟩ : ∃ h, 2 * h ≤ s ∧ s < 2 * h + 2 := ⟨s / 2, by omega, by omega⟩
      have eh : (s : Int) / 2 = (h : Int) := by omega
      have rh : IntKind.i64.wrap (h : Int) = (h : Int) := nn_wrap (by omega)
      have bh : (h : Int) < (d.size : Int) := by omega
      have ba : (a : Int) < (d.size : Int) := by omega
      obtain ⟨x, hx⟩ : ∃ x, x = d[h]! := ⟨_, rfl⟩
      obtain ⟨y, hy⟩ : ∃ y, y = d[a]! := ⟨_, rfl⟩
      have lx := S1.out.cl R HS.out h (by omega)
      have ly := S1.out.cl R HS.out a (by omega)
      have hcc := S1.out.cmp HC.out HS.out x y
      rw [← hx] at lx
      rw [← hy] at ly
      have HX : Aside (x = d[h]! ∧ y = d[a]!) := ⟨hx, hy⟩
      clear hx hy
      by_cases hv : cmpKey key x y < 0
      · have hd : decide (cmpKey key x y < 0) = true := decide_eq_true hv
        have LO2 : Aside (∀ k, m ≤ k → k < h + 1 → key d[a]! < key d[k]!) := (show _ from fun k k1 k2 => by
          have hk := cmpKey_lt.1 hv
          rw [HX.out.1, HX.out.2] at hk
          have := HM.out.1.le k1 (show k ≤ h by omega) (by omega)
          unfold Ahead at this
          omega)
        go_wp2_with fail
        go_quiet_grown (first | (go_at_fn g; refine Calls.grown_of (hcc _ _)))
        have S2 : Aside (SW enc w0 blk off d (grow (wr.drewN nq) osq)) := S1.out.grown nq osq
        clear lx ly hcc S1
        generalize grow (wr.drewN nq) osq = w2 at S2 ⊢
        clear nq osq
        go_wp2
        go_roundg (j - (h + 1))
        case measure => omega
        case rel => exact ⟨h + 1, j, by go_num, rfl, by omega, by omega, by omega, by omega, S2, LO2, HI⟩
      · have hd : decide (cmpKey key x y < 0) = false := decide_eq_false hv
        have HI2 : Aside (∀ k, h ≤ k → k < b → ¬ key d[a]! < key d[k]!) := (show _ from fun k k1 k2 => by
          have hk : ¬ key y < key x := fun z => hv (cmpKey_lt.2 z)
          rw [HX.out.1, HX.out.2] at hk
          have := HM.out.1.le (show m ≤ h by omega) k1 k2
          unfold Ahead at this
          omega)
        go_wp2_with fail
        go_quiet_grown (first | (go_at_fn g; refine Calls.grown_of (hcc _ _)))
        have S2 : Aside (SW enc w0 blk off d (grow (wr.drewN nq) osq)) := S1.out.grown nq osq
        clear lx ly hcc S1
        generalize grow (wr.drewN nq) osq = w2 at S2 ⊢
        clear nq osq
        go_wp2
        go_roundg (h - i)
        case measure => omega
        case rel => exact ⟨i, h, rfl, rfl, by omega, by omega, by omega, by omega, S2, LO, HI2⟩
    · have hltz : ¬ (i : Int) < (j : Int) := by omega
      obtain rfl : i = j := by omega
      obtain ⟨iP, hiP⟩ : ∃ q, q + 1 = i := ⟨i - 1, by omega⟩
      have ei : (i : Int) - 1 = (iP : Int) := by omega
      have ri : IntKind.i64.wrap (iP : Int) = (iP : Int) := nn_wrap (by omega)
      have U0 : Aside (UpTo a a d d) := UpTo.start a d
      go_wp2
      go_loopg [13] (iP - a) (fun gg vk wk => ∃ (k : Nat) (dk : Array Nat), vk = .int .i64 k ∧ a ≤ k ∧ k ≤ iP ∧ iP - k ≤ gg ∧ dk.size = d.size ∧ Aside (SW enc w0 blk off dk wk) ∧ Aside (UpTo a k d dk))
      case atStart => exact ⟨a, d, rfl, by omega, by omega, by omega, rfl, S1, U0⟩
      case round =>
        clear S1 U0
        obtain ⟨k, dk, rfl, hak, hki, hg2, hsk, SK, UK⟩ := hrel
        by_cases hlk : k < iP
        · have hlkz : (k : Int) < (iP : Int) := by omega
          obtain ⟨k1, hk1⟩ : ∃ q, k + 1 = q := ⟨_, rfl⟩
          have ek : (k : Int) + 1 = (k1 : Int) := by omega
          have rk : IntKind.i64.wrap (k1 : Int) = (k1 : Int) := nn_wrap (by omega)
          have bk : (k : Int) < (d.size : Int) := by omega
          have bk1 : (k1 : Int) < (d.size : Int) := by omega
          obtain ⟨x, hx⟩ : ∃ x, x = dk[k]! := ⟨_, rfl⟩
          obtain ⟨y, hy⟩ : ∃ x, x = dk[k1]! := ⟨_, rfl⟩
          have S3 : Aside (SW enc w0 blk off (swp dk k k1) ((wr.setCell ⟨blk, off + k, none⟩ (enc y)).setCell ⟨blk, off + k1, none⟩ (enc x)).drew) := by rw [hx, hy]; exact SK.out.swapped R k k1 (by omega) (by omega)
          have ca := SK.out.c1 R (hsk.trans HS.out) k (by omega)
          have cb2 := SK.out.c1 R (hsk.trans HS.out) k1 (by omega)
          have fa := SK.out.f1 R (hsk.trans HS.out) k (by omega)
          have fb := SK.out.f1 R (hsk.trans HS.out) k1 (by omega)
          obtain ⟨u, cc⟩ := SK.out.c2 R (hsk.trans HS.out) k k1 (by omega) (by omega) (enc y)
          rw [← hx] at ca
          rw [← hy] at cb2
          have U2 : Aside (UpTo a k1 d (swp dk k k1)) := by rw [← hk1]; exact UK.out.step hak (by omega)
          clear SK hx hy UK
          go_wp2_with fail
          go_big_region
          clear ca cb2 cc fa fb
          generalize ((wr.setCell ⟨blk, off + k, none⟩ (enc y)).setCell ⟨blk, off + k1, none⟩ (enc x)).drew = w3 at S3 ⊢
          go_wp2
          go_roundg (iP - k1)
          case measure => omega
          case rel => exact ⟨k1, swp dk k k1, by go_num, by omega, by omega, by omega, by rw [size_swp]; exact hsk, S3, U2⟩
        · have hlkz : ¬ (k : Int) < (iP : Int) := by omega
          obtain rfl : k = iP := by omega
          go_wp2
          refine bodyPost_ret (results_none rfl _ _ _) rfl ?_
          have e1 : i - 1 = k := by omega
          refine ⟨rfl, dk, SK.out, merge_first (i := i) hb (by rw [hm]; exact HM.out.1) (by rw [hm]; exact HM.out.2) (by omega) hjb (fun q q1 q2 => LO.out q (by omega) q2) (fun q q1 q2 => by have := HI.out q q1 q2; omega) ?_⟩
          rw [e1]
          exact UK.out

set_option maxHeartbeats 4000000 in
theorem symMerge_last {enc : Nat → Value} {key : Nat → Int} {g : Nat} {cb : Array Value} {w0 : World} {blk off : Nat} {d0 : Array Nat} (E : SortE enc key g cb w0 blk off d0) (cap a m b : Nat) (d : Array Nat) (w : World) (hs : d.size = d0.size) (S : SW enc w0 blk off d w)
    (ham : a + 1 < m) (hmb : m + 1 = b) (hb : b ≤ d.size) (hl : SegS key a m d) (hc : CrossS a m b d) :
    Calls Try.prog 23 #[.slice (some ⟨blk, off, none⟩) d.size cap, .int .i64 a, .int .i64 m, .int .i64 b, .func (.func g) #[] cb] w fun e w' => e = .returned (.tuple #[]) ∧ ∃ d', SW enc w0 blk off d' w' ∧ Merged key a b d d' := by
  have mixed : Try.prog.follows .mixedOrders = true := by kernel_rfl
  obtain ⟨R, eg, hcmp, hsz⟩ := E
  have hcl0 := R.hO.cells
  simp only [Value.cells] at hcl0
  have hst := R.hO.store Try.prog
  have HC : Aside (CmpLays1 Try.prog g cb enc (cmpKey key) blk off d0.size w0) := hcmp
  have S0 : Aside (SW enc w0 blk off d w) := S
  have HS := Lib.hid hs
  have hsz2 : d.size < 2305843009213693952 := by omega
  have HM : Aside (SegS key a m d ∧ CrossS a m b d) := ⟨hl, hc⟩
  obtain ⟨q1, hq1⟩ : ∃ q, a + q = m := ⟨m - a, by omega⟩
  have eq1 : (m : Int) - (a : Int) = (q1 : Int) := by omega
  have rq1 : IntKind.i64.wrap (q1 : Int) = (q1 : Int) := nn_wrap (by omega)
  have nq1 : ((q1 : Int) == 1) = false := by simp; omega
  have one : (b : Int) - (m : Int) = 1 := by omega
  clear S hs hcmp hl hc hsz
  go_enter Try.func23, Try.ntmps23
  go_wp2
  go_loopg [14, 15] (m - a) (fun gg vi vj wr => ∃ (i j : Nat), vi = .int .i64 i ∧ vj = .int .i64 j ∧ a ≤ i ∧ i ≤ j ∧ j ≤ m ∧ j - i ≤ gg ∧ Aside (SW enc w0 blk off d wr) ∧ Aside (∀ k, a ≤ k → k < i → ¬ key d[k]! < key d[m]!) ∧ Aside (∀ k, j ≤ k → k < m → key d[k]! < key d[m]!))
  case atStart => exact ⟨a, m, rfl, rfl, by omega, by omega, by omega, by omega, S0, (show _ from fun k k1 k2 => by omega), (show _ from fun k k1 k2 => by omega)⟩
  case round =>
    clear S0
    obtain ⟨i, j, rfl, rfl, hmi, hij, hjb, hg, S1, LO, HI⟩ := hrel
    by_cases hlt : i < j
    · have hltz : (i : Int) < (j : Int) := by omega
      obtain ⟨s, hs⟩ : ∃ s, i + j = s := ⟨_, rfl⟩
      have es : (i : Int) + (j : Int) = (s : Int) := by omega
      have rs : IntKind.i64.wrap (s : Int) = (s : Int) := nn_wrap (by omega)
      have us : IntKind.u64.wrap (s : Int) = (s : Int) := by rw [IntKind.wrap_u64]; omega
      obtain ⟨h, hh1, hh2⟩ : ∃ h, 2 * h ≤ s ∧ s < 2 * h + 2 := ⟨s / 2, by omega, by omega⟩
      have eh : (s : Int) / 2 = (h : Int) := by omega
      have rh : IntKind.i64.wrap (h : Int) = (h : Int) := nn_wrap (by omega)
      have bh : (h : Int) < (d.size : Int) := by omega
      have ba : (m : Int) < (d.size : Int) := by omega
      obtain ⟨x, hx⟩ : ∃ x, x = d[m]! := ⟨_, rfl⟩
      obtain ⟨y, hy⟩ : ∃ y, y = d[h]! := ⟨_, rfl⟩
      have lx := S1.out.cl R HS.out m (by omega)
      have ly := S1.out.cl R HS.out h (by omega)
      have hcc := S1.out.cmp HC.out HS.out x y
      rw [← hx] at lx
      rw [← hy] at ly
      have HX : Aside (x = d[m]! ∧ y = d[h]!) := ⟨hx, hy⟩
      clear hx hy
      by_cases hv : cmpKey key x y < 0
      · have hd : decide (cmpKey key x y < 0) = true := decide_eq_true hv
        have HI2 : Aside (∀ k, h ≤ k → k < m → key d[k]! < key d[m]!) := (show _ from fun k k1 k2 => by
          have hk := cmpKey_lt.1 hv
          rw [HX.out.1, HX.out.2] at hk
          have := HM.out.1.le (show a ≤ h by omega) k1 k2
          unfold Ahead at this
          omega)
        go_wp2_with fail
        go_quiet_grown (first | (go_at_fn g; refine Calls.grown_of (hcc _ _)))
        have S2 : Aside (SW enc w0 blk off d (grow (wr.drewN nq) osq)) := S1.out.grown nq osq
        clear lx ly hcc S1
        generalize grow (wr.drewN nq) osq = w2 at S2 ⊢
        clear nq osq
        go_wp2
        go_roundg (h - i)
        case measure => omega
        case rel => exact ⟨i, h, rfl, rfl, by omega, by omega, by omega, by omega, S2, LO, HI2⟩
      · have hd : decide (cmpKey key x y < 0) = false := decide_eq_false hv
        have LO2 : Aside (∀ k, a ≤ k → k < h + 1 → ¬ key d[k]! < key d[m]!) := (show _ from fun k k1 k2 => by
          have hk : ¬ key y < key x := fun z => hv (cmpKey_lt.2 z)
          rw [HX.out.1, HX.out.2] at hk
          have := HM.out.1.le k1 (show k ≤ h by omega) (by omega)
          unfold Ahead at this
          omega)
        go_wp2_with fail
        go_quiet_grown (first | (go_at_fn g; refine Calls.grown_of (hcc _ _)))
        have S2 : Aside (SW enc w0 blk off d (grow (wr.drewN nq) osq)) := S1.out.grown nq osq
        clear lx ly hcc S1
        generalize grow (wr.drewN nq) osq = w2 at S2 ⊢
        clear nq osq
        go_wp2
        go_roundg (j - (h + 1))
        case measure => omega
        case rel => exact ⟨h + 1, j, by go_num, rfl, by omega, by omega, by omega, by omega, S2, LO2, HI⟩
    · have hltz : ¬ (i : Int) < (j : Int) := by omega
      obtain rfl : i = j := by omega
      have U0 : Aside (DownTo m m d d) := DownTo.start m d
      go_wp2
      go_loopg [17] (m - i) (fun gg vk wk => ∃ (k : Nat) (dk : Array Nat), vk = .int .i64 k ∧ i ≤ k ∧ k ≤ m ∧ k - i ≤ gg ∧ dk.size = d.size ∧ Aside (SW enc w0 blk off dk wk) ∧ Aside (DownTo m k d dk))
      case atStart => exact ⟨m, d, rfl, by omega, by omega, by omega, rfl, S1, U0⟩
      case round =>
        clear S1 U0
        obtain ⟨k, dk, rfl, hak, hki, hg2, hsk, SK, UK⟩ := hrel
        by_cases hlk : i < k
        · have hlkz : (i : Int) < (k : Int) := by omega
          obtain ⟨k1, hk1⟩ : ∃ q, q + 1 = k := ⟨k - 1, by omega⟩
          have ek : (k : Int) - 1 = (k1 : Int) := by omega
          have rk : IntKind.i64.wrap (k1 : Int) = (k1 : Int) := nn_wrap (by omega)
          have bk : (k : Int) < (d.size : Int) := by omega
          have bk1 : (k1 : Int) < (d.size : Int) := by omega
          obtain ⟨x, hx⟩ : ∃ x, x = dk[k]! := ⟨_, rfl⟩
          obtain ⟨y, hy⟩ : ∃ x, x = dk[k1]! := ⟨_, rfl⟩
          have S3 : Aside (SW enc w0 blk off (swp dk k k1) ((wr.setCell ⟨blk, off + k, none⟩ (enc y)).setCell ⟨blk, off + k1, none⟩ (enc x)).drew) := by rw [hx, hy]; exact SK.out.swapped R k k1 (by omega) (by omega)
          have ca := SK.out.c1 R (hsk.trans HS.out) k (by omega)
          have cb2 := SK.out.c1 R (hsk.trans HS.out) k1 (by omega)
          have fa := SK.out.f1 R (hsk.trans HS.out) k (by omega)
          have fb := SK.out.f1 R (hsk.trans HS.out) k1 (by omega)
          obtain ⟨u, cc⟩ := SK.out.c2 R (hsk.trans HS.out) k k1 (by omega) (by omega) (enc y)
          rw [← hx] at ca
          rw [← hy] at cb2
          have U2 : Aside (DownTo m k1 d (swp dk k k1)) := by
            rw [← hk1] at UK ⊢
            exact UK.out.step (by omega) (by omega)
          clear SK hx hy UK
          go_wp2_with fail
          go_big_region
          clear ca cb2 cc fa fb
          generalize ((wr.setCell ⟨blk, off + k, none⟩ (enc y)).setCell ⟨blk, off + k1, none⟩ (enc x)).drew = w3 at S3 ⊢
          go_wp2
          go_roundg (k1 - i)
          case measure => omega
          case rel => exact ⟨k1, swp dk k k1, by go_num, by omega, by omega, by omega, by rw [size_swp]; exact hsk, S3, U2⟩
        · have hlkz : ¬ (i : Int) < (k : Int) := by omega
          obtain rfl : k = i := by omega
          go_wp2
          refine bodyPost_ret (results_none rfl _ _ _) rfl ?_
          refine ⟨rfl, dk, SK.out, ?_⟩
          rw [← hmb]
          exact merge_last (i := k) (by omega) HM.out.1 (by rw [hmb]; exact HM.out.2) hmi hjb (fun q q1 q2 => by have := LO.out q q1 q2; omega) (fun q q1 q2 => HI.out q q1 q2) UK.out
end Go.Proofs.Ytccnfklemalmeaa
