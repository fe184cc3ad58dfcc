/- slices' symMerge, whole: it merges two sorted parts and keeps equal ones in their order. -/
import Derived.Test.YtccnfklemalmeaaSymT
set_option linter.unusedVariables false
set_option linter.unusedSimpArgs false
set_option maxRecDepth 100000
namespace Go.Proofs.Ytccnfklemalmeaa
open Go.RowKit Go.Sort Go.Lib Go.Shelf

/-- The search's beginning, by which side is the longer one. -/
structure Begin (a m b mid nn s0 r0 : Nat) : Prop where
  which : (mid < m ∧ s0 + b = nn ∧ r0 = mid) ∨ (m ≤ mid ∧ s0 = a ∧ r0 = m)

set_option maxHeartbeats 8000000 in
theorem symMerge_long {enc : Nat → Value} {key : Nat → Int} {g : Nat} {cb : Array Value} {w0 : World} {blk off : Nat} {d0 : Array Nat} (E : SortE enc key g cb w0 blk off d0) (cap a m b : Nat) (d : Array Nat) (w : World) (hs : d.size = d0.size) (S : SW enc w0 blk off d w)
    (ham : a + 1 < m) (hmb : m + 1 < b) (hb : b ≤ d.size) (hl : SegS key a m d) (hr : SegS key m b d) (hc : CrossS a m b d)
    (ih : ∀ a' m' b' d' w', b' - a' < b - a → MergeC enc key g cb w0 blk off cap d0 a' m' b' d' w') :
    Calls Try.prog 23 #[.slice (some ⟨blk, off, none⟩) d.size cap, .int .i64 a, .int .i64 m, .int .i64 b, .func (.func g) #[] cb] w fun e w' => e = .returned (.tuple #[]) ∧ ∃ d', SW enc w0 blk off d' w' ∧ Merged key a b d d' := by
  have mixed : Try.prog.follows .mixedOrders = true := by kernel_rfl
  obtain ⟨R, eg, hcmp, hsz⟩ := E
  have hcl0 := R.hO.cells
  simp only [Value.cells] at hcl0
  have hst := R.hO.store Try.prog
  have HC : Aside (CmpLays1 Try.prog g cb enc (cmpKey key) blk off d0.size w0) := hcmp
  have S0 : Aside (SW enc w0 blk off d w) := S
  have HS := Lib.hid hs
  have hsz2 : d.size < 2305843009213693952 := by omega
  have HM : Aside (SegS key a m d ∧ SegS key m b d ∧ CrossS a m b d) := ⟨hl, hr, hc⟩
  have IH : Aside (∀ a' m' b' d' w', b' - a' < b - a → MergeC enc key g cb w0 blk off cap d0 a' m' b' d' w') := ih
  obtain ⟨q1, hq1⟩ : ∃ q, a + q = m := ⟨m - a, by omega⟩
  have eq1 : (m : Int) - (a : Int) = (q1 : Int) := by omega
  have rq1 : IntKind.i64.wrap (q1 : Int) = (q1 : Int) := nn_wrap (by omega)
  have nq1 : ((q1 : Int) == 1) = false := by simp; omega
  obtain ⟨q2, hq2⟩ : ∃ q, m + q = b := ⟨b - m, by omega⟩
  have eq2 : (b : Int) - (m : Int) = (q2 : Int) := by omega
  have rq2 : IntKind.i64.wrap (q2 : Int) = (q2 : Int) := nn_wrap (by omega)
  have nq2 : ((q2 : Int) == 1) = false := by simp; omega
  obtain ⟨sm, hsm⟩ : ∃ s, a + b = s := ⟨_, rfl⟩
  have es : (a : Int) + (b : Int) = (sm : Int) := by omega
  have rs : IntKind.i64.wrap (sm : Int) = (sm : Int) := nn_wrap (by omega)
  have us : IntKind.u64.wrap (sm : Int) = (sm : Int) := by rw [IntKind.wrap_u64]; omega
  obtain ⟨mid, hm1, hm2⟩ : ∃ h, 2 * h ≤ sm ∧ sm < 2 * h + 2 := ⟨sm / 2, by omega, by omega⟩
  have eh : (sm : Int) / 2 = (mid : Int) := by omega
  have rh : IntKind.i64.wrap (mid : Int) = (mid : Int) := nn_wrap (by omega)
  obtain ⟨nn, hnn⟩ : ∃ s, mid + m = s := ⟨_, rfl⟩
  have en : (mid : Int) + (m : Int) = (nn : Int) := by omega
  have rn : IntKind.i64.wrap (nn : Int) = (nn : Int) := nn_wrap (by omega)
  obtain ⟨p, hp⟩ : ∃ q, q + 1 = nn := ⟨nn - 1, by omega⟩
  have ep : (nn : Int) - 1 = (p : Int) := by omega
  have rp : IntKind.i64.wrap (p : Int) = (p : Int) := nn_wrap (by omega)
  obtain ⟨s0, r0, B⟩ : ∃ s0 r0, Begin a m b mid nn s0 r0 := by
    by_cases h : mid < m
    · exact ⟨nn - b, mid, ⟨.inl ⟨h, by omega, rfl⟩⟩⟩
    · exact ⟨a, m, ⟨.inr ⟨by omega, rfl, rfl⟩⟩⟩
  have hW : Within a m b p s0 r0 := by
    rcases B.which with ⟨x, y, z⟩ | ⟨x, y, z⟩
    · exact ⟨by omega, by omega, fun _ => ⟨by omega, by omega, by omega, by omega⟩⟩
    · exact ⟨by omega, by omega, fun _ => ⟨by omega, by omega, by omega, by omega⟩⟩
  have hE : Ends a m b nn s0 r0 := by
    rcases B.which with ⟨x, y, z⟩ | ⟨x, y, z⟩
    · exact .inr ⟨by omega, by omega⟩
    · exact .inl ⟨by omega, by omega⟩
  have hsr : s0 ≤ r0 ∧ a ≤ s0 ∧ r0 ≤ m ∧ r0 ≤ mid ∧ nn ≤ s0 + b ∧ r0 ≤ p + 1 := by
    rcases B.which with ⟨x, y, z⟩ | ⟨x, y, z⟩ <;> omega
  obtain ⟨b1, b2, b3, b4, b5, b6⟩ := hsr
  have HW := Lib.hid hW
  have HE := Lib.hid hE
  have HB := Lib.hid B
  clear S hs hcmp hl hr hc hsz ih hW hE B
  go_enter Try.func23, Try.ntmps23
  go_upto_if 140 with fail
  go_cut [20, 21] (fun v u wx => v = .int .i64 s0 ∧ u = .int .i64 r0 ∧ wx = w)
  case first =>
    rcases HB.out.which with ⟨x, y, z⟩ | ⟨x, y, z⟩
    · have xz : (mid : Int) < (m : Int) := by omega
      have ez : (nn : Int) - (b : Int) = (s0 : Int) := by omega
      have rz : IntKind.i64.wrap (s0 : Int) = (s0 : Int) := nn_wrap (by omega)
      have HZ := Lib.hid z
      clear z y
      go_wp2
      go_meet
      exact ⟨rfl, by rw [HZ.out], rfl⟩
    · have xz : ¬ (mid : Int) < (m : Int) := by omega
      have HY := Lib.hid y
      have HZ := Lib.hid z
      clear z y
      go_wp2
      go_meet
      exact ⟨by rw [HY.out], by rw [HZ.out], rfl⟩
  case rest =>
    obtain ⟨rfl, rfl, rfl⟩ := hcut
    go_wp2
    go_loopg [20, 21] (r0 - s0) (fun gg vi vj wr => ∃ (i j : Nat), vi = .int .i64 i ∧ vj = .int .i64 j ∧ s0 ≤ i ∧ i ≤ j ∧ j ≤ r0 ∧ j - i ≤ gg ∧ Aside (SW enc w0 blk off d wr) ∧ Aside (Srch key d p s0 r0 i j))
    case atStart => exact ⟨s0, r0, rfl, rfl, by omega, by omega, by omega, by omega, S0, (show _ from Srch.start key d p s0 r0)⟩
    case round =>
      clear S0
      obtain ⟨i, j, rfl, rfl, hmi, hij, hjb, hg, S1, SR⟩ := hrel
      by_cases hlt : i < j
      · have hltz : (i : Int) < (j : Int) := by omega
        obtain ⟨s, hs⟩ : ∃ s, i + j = s := ⟨_, rfl⟩
        have es2 : (i : Int) + (j : Int) = (s : Int) := by omega
        have rs2 : IntKind.i64.wrap (s : Int) = (s : Int) := nn_wrap (by omega)
        have us2 : IntKind.u64.wrap (s : Int) = (s : Int) := by rw [IntKind.wrap_u64]; omega
        obtain ⟨h, hh1, hh2⟩ : ∃ h, 2 * h ≤ s ∧ s < 2 * h + 2 := ⟨s / 2, by omega, by omega⟩
        have eh2 : (s : Int) / 2 = (h : Int) := by omega
        have rh2 : IntKind.i64.wrap (h : Int) = (h : Int) := nn_wrap (by omega)
        obtain ⟨pc, hpc⟩ : ∃ q, q + h = p := ⟨p - h, by omega⟩
        have epc : (p : Int) - (h : Int) = (pc : Int) := by omega
        have rpc : IntKind.i64.wrap (pc : Int) = (pc : Int) := nn_wrap (by omega)
        have w3 := HW.out.2.2 (by omega)
        have bh : (h : Int) < (d.size : Int) := by omega
        have bp : (pc : Int) < (d.size : Int) := by omega
        have hpc2 : p - h = pc := by omega
        have HPC := Lib.hid hpc2
        clear w3 hpc2
        obtain ⟨x, hx⟩ : ∃ x, x = d[pc]! := ⟨_, rfl⟩
        obtain ⟨y, hy⟩ : ∃ y, y = d[h]! := ⟨_, rfl⟩
        have lx := S1.out.cl R HS.out pc (by omega)
        have ly := S1.out.cl R HS.out h (by omega)
        have hcc := S1.out.cmp HC.out HS.out x y
        rw [← hx] at lx
        rw [← hy] at ly
        have HX : Aside (x = d[pc]! ∧ y = d[h]!) := ⟨hx, hy⟩
        clear hx hy
        by_cases hv : cmpKey key x y < 0
        · have hd : decide (cmpKey key x y < 0) = true := decide_eq_true hv
          have SR2 : Aside (Srch key d p s0 r0 i h) := (show _ from by
            have hk := cmpKey_lt.1 hv
            rw [HX.out.1, HX.out.2] at hk
            exact SR.out.yes HW.out HM.out.1 HM.out.2.1 hmi (by omega) (by omega) hjb (by rw [HPC.out]; exact hk))
          go_wp2_with fail
          go_quiet_grown (first | (go_at_fn g; refine Calls.grown_of (hcc _ _)))
          have S2 : Aside (SW enc w0 blk off d (grow (wr.drewN nq) osq)) := S1.out.grown nq osq
          clear lx ly hcc S1
          generalize grow (wr.drewN nq) osq = w2 at S2 ⊢
          clear nq osq
          go_wp2
          go_roundg (h - i)
          case measure => omega
          case rel => exact ⟨i, h, rfl, rfl, by omega, by omega, by omega, by omega, S2, SR2⟩
        · have hd : decide (cmpKey key x y < 0) = false := decide_eq_false hv
          have SR2 : Aside (Srch key d p s0 r0 (h + 1) j) := (show _ from by
            have hk : ¬ key y < key x := fun z => hv (cmpKey_lt.2 z)
            rw [HX.out.1, HX.out.2] at hk
            exact SR.out.no HW.out HM.out.1 HM.out.2.1 HM.out.2.2 hmi (by omega) (by omega) hjb (by rw [HPC.out]; exact hk))
          go_wp2_with fail
          go_quiet_grown (first | (go_at_fn g; refine Calls.grown_of (hcc _ _)))
          have S2 : Aside (SW enc w0 blk off d (grow (wr.drewN nq) osq)) := S1.out.grown nq osq
          clear lx ly hcc S1
          generalize grow (wr.drewN nq) osq = w2 at S2 ⊢
          clear nq osq
          go_wp2
          go_roundg (j - (h + 1))
          case measure => omega
          case rel => exact ⟨h + 1, j, by go_num, rfl, by omega, by omega, by omega, by omega, S2, SR2⟩
      · have hltz : ¬ (i : Int) < (j : Int) := by omega
        obtain rfl : i = j := by omega
        obtain ⟨e, he⟩ : ∃ q, q + i = nn := ⟨nn - i, by omega⟩
        have ee : (nn : Int) - (i : Int) = (e : Int) := by omega
        have re : IntKind.i64.wrap (e : Int) = (e : Int) := nn_wrap (by omega)
        have hem : m ≤ e ∧ e ≤ b := by omega
        obtain ⟨hem1, hem2⟩ := hem
        have hp1 : mid + m - 1 = p := by omega
        have he1 : mid + m - i = e := by omega
        have HV : Hid (∀ d1, RotIn i m e d d1 → Halves key a i mid e b d1) := (show ∀ d1, RotIn i m e d d1 → Halves key a i mid e b d1 from fun d1 RT => by
          have W1 := HW.out
          have E1 := HE.out
          have SR1 := SR.out
          rw [← hp1] at W1 SR1
          rw [← hnn] at E1
          rw [← he1] at RT ⊢
          exact halves W1 E1 (by omega) (by omega) (by omega) (by omega) hmi hjb hb HM.out.1 HM.out.2.1 HM.out.2.2 SR1 (by omega) (by omega) (by omega) RT)
        clear hp1 he1
        have r1 : a ≤ i ∧ i ≤ mid ∧ i ≤ m ∧ mid ≤ e ∧ a < mid ∧ mid < b := by omega
        have HR1 := Lib.hid r1
        clear r1
        go_upto_region 38 with fail
        rename_i KA hA
        go_cut [24] from 25 (fun v wx => v = .int .i64 e ∧ wx = wr)
        case first =>
          go_wp2
          go_meet
          exact ⟨rfl, rfl⟩
        obtain ⟨rfl, rfl⟩ := hcut
        refine hA _ _ ?_
        obtain ⟨t1, t2, t3, t4, t5, t6⟩ := HR1.out
        exact sym_rot _ _ _ _ _ _ _ _ _ _ _ _ _ _ _ _ _ _ _ _ _ _ _ _ _ _ _ _ _ _ _ _ _ _ _ _ _ _ _ _ _ _ _ _ _ _ _ _ _ _ _ _ _ _ _ _ _ _ _ _ _ _ _ _ _ _ _ _ _ _ _ _ _ _ _ _ _ _ _ _ _ _ _ _ _ _ _ _ _ _ _ _ _ _ _ _ _ _ _ _ _ _ _ _ _ _ _ _ _ _ _ _ _ _ _ _ _ _ _ _ _ _ _ _ _ _ _ _ _ _ _ _ _ _ _ _ _ _ _ _ _ _ _ _ _ _ _ _ _ _ _ _ _ _ _ _ _ _ _ _ _ _ _ _ _ _ _ _ _ _ _ _ _ _ _ _ _ _ _ _ _ _ _ _ _ _ _ _ _ _ _ _ _ _ _ _ _ _ _ _ _ _ _ _ _ _ _ _ _ _ _ _ HS.out S1.out hsz2 hb R (by omega) (by omega) hem1 hem2 t1 t2 t3 t4 HV.out IH.out t5 t6 fun d1 d2 d' w' s r m1 m2 =>
          ⟨rfl, d', s, (HV.out d1 r).done hb (by omega) (by omega) (perm_mono r.1 t1 hem2 hb) m1 m2⟩

theorem symMerge_any {enc : Nat → Value} {key : Nat → Int} {g : Nat} {cb : Array Value} {w0 : World} {blk off : Nat} {d0 : Array Nat} (E : SortE enc key g cb w0 blk off d0) (cap : Nat) : ∀ (fuel a m b : Nat) (d : Array Nat) (w : World), b - a ≤ fuel → MergeC enc key g cb w0 blk off cap d0 a m b d w
  | 0, a, m, b, d, w, hf => fun hs S ham hmb hb hl hr hc => by omega
  | fuel + 1, a, m, b, d, w, hf => fun hs S ham hmb hb hl hr hc => by
    by_cases h1 : a + 1 = m
    · exact symMerge_first E cap a m b d w hs S h1 hmb hb hr hc
    · by_cases h2 : m + 1 = b
      · exact symMerge_last E cap a m b d w hs S (by omega) h2 hb hl hc
      · exact symMerge_long E cap a m b d w hs S (by omega) (by omega) hb hl hr hc fun a' m' b' d' w' h => symMerge_any E cap fuel a' m' b' d' w' (by omega)
end Go.Proofs.Ytccnfklemalmeaa
