/- Joined texts of this proof: NOpen, SOpen. -/
import Derived.OpenShut
import Derived.SizedLaws
import Derived.Deep.Slices
import Derived.Deep.Strs
import Derived.ChangeSame
import Derived.Test.YtphabkaiheplpaaGreatDoorRests8
import Derived.Test.YtphabkaiheplpaaGreatDoorRests9
/- A notice and links opened out of a row's reading. -/
set_option linter.unusedVariables false
set_option linter.unusedSimpArgs false
set_option maxRecDepth 100000
namespace Go.Proofs.YtphabkaiheplpaaGreatDoor
open Go.ChangeShapes Go.WideShapes Go.RowKit

section
variable {H : Type} {enc : TypeId × Value → H} {P : Program} {w : World} {base : Nat} {spare : Nat → Bool} {held : Bool} {fuel : Nat} {t : TypeId} {cs : List Value} {x : DataW H × List MemPlace}
/-- No piece of a datum is greater than the reach. -/
def Sz (P : Program) (t : TypeId) (d : DataW H) : Prop := ∀ n ∈ DataW.weights P t d, n ≤ 140737488351232
theorem Sz.of_each {ts : List TypeId} {ds : List (DataW H)} {j : Nat} {d : DataW H} (h : (DataW.weightsEach P ts ds).all (· ≤ reachBytes) = true) (ht : ts[j]? = some t) (hd : ds[j]? = some d) : Sz P t d := fun n hn => by
  have := List.all_eq_true.1 h _ (DataW.weights_mem_each ht hd n hn)
  have e : reachBytes = 140737488351232 := by decide
  simpa [e] using this
theorem fieldAt {fs : Array Field} (ht : P.underlying t = some (.struct fs)) (h : DataW.trod enc P w base spare held fuel t cs = some x) (hz : Sz P t x.1) (j : Nat) (f : Field) (hf : fs[j]? = some f) :
    ∃ m y, DataW.trod enc P w base spare held m f.type ((cs.drop f.offset).take (P.cellsOf f.type)) = some y ∧ Sz P f.type y.1 := by
  obtain ⟨xs, n, _, hx, _, hlen, hg⟩ := DataW.trod_struct ht h
  have hj : j < fs.size := (Array.getElem?_eq_some_iff.1 hf).1
  have hy : xs[j]? = some (xs[j]'(by omega)) := List.getElem?_eq_getElem (by omega)
  refine ⟨n, _, (hg j f hf).trans hy, fun k hk => hz k ?_⟩
  rw [hx]
  simp only [DataW.weights, ht]
  refine DataW.weights_mem_each (j := j) ?_ ?_ k hk
  · rw [List.getElem?_map, Array.getElem?_toList, hf]; rfl
  · rw [List.getElem?_map, hy]; rfl
theorem arrayAt {n : Nat} {e : TypeId} (ht : P.underlying t = some (.array n e)) (h : DataW.trod enc P w base spare held fuel t cs = some x) (i : Nat) (hi : i < n) :
    ∃ m y, DataW.trod enc P w base spare held m e ((cs.drop (i * P.cellsOf e)).take (P.cellsOf e)) = some y := by
  obtain ⟨xs, m, _, hx, _, hlen, hg⟩ := DataW.trod_array ht h
  exact ⟨m, _, (hg i hi).trans (List.getElem?_eq_getElem (by omega))⟩
theorem leafInt {k : IntKind} {c : Value} (ht : P.underlying t = some (.int k)) (h : DataW.trod enc P w base spare held fuel t [c] = some x) : ∃ n, c = .int k n ∧ (Lit.int k n).wf = true := by
  obtain ⟨n, hc, _, hw⟩ := DataW.trod_int ht h
  exact ⟨n, by simpa using hc, hw⟩
theorem leafBool {c : Value} (ht : P.underlying t = some .bool) (h : DataW.trod enc P w base spare held fuel t [c] = some x) : ∃ b, c = .bool b := by
  obtain ⟨b, hc, _⟩ := DataW.trod_bool ht h
  exact ⟨b, by simpa using hc⟩
theorem leafStr {c : Value} (ht : P.underlying t = some .string) (h : DataW.trod enc P w base spare held fuel t [c] = some x) (hz : Sz P t x.1) : ∃ s : ByteArray, c = .string s ∧ s.size ≤ 140737488351232 := by
  obtain ⟨s, hc, hx, _⟩ := DataW.trod_string ht h
  refine ⟨s, by simpa using hc, ?_⟩
  have := hz s.data.toList.length (by rw [hx]; simp [DataW.weights])
  simpa using this
theorem leafSlice {e : TypeId} {c : Value} (ht : P.underlying t = some (.slice e)) (h : DataW.trod enc P w base spare held fuel t [c] = some x) : ∃ a n k, c = .slice a n k := by
  rcases Go.Deep.open_slice ht h with ⟨hc, _⟩ | ⟨a, len, cap, _, _, _, _, hc, _⟩
  · exact ⟨none, 0, 0, by simpa using hc⟩
  · exact ⟨some a, len, cap, by simpa using hc⟩
theorem wf_i64 {n : Int} (h : (Lit.int .i64 n).wf = true) : I64 n := by
  unfold I64
  simp [Lit.wf, IntKind.min, IntKind.max, IntKind.signed, IntKind.bits] at h
  omega
theorem wf_u8 {n : Int} (h : (Lit.int .u8 n).wf = true) : 0 ≤ n ∧ n ≤ 255 := by
  simp [Lit.wf, IntKind.min, IntKind.max, IntKind.signed, IntKind.bits] at h
  omega
end
theorem cells_int : Tryz.prog.cellsOf 3 = 1 := by kernel_rfl
theorem cells_i64 : Tryz.prog.cellsOf 2 = 1 := by kernel_rfl
theorem cells_str : Tryz.prog.cellsOf 9 = 1 := by kernel_rfl
theorem cells_bool : Tryz.prog.cellsOf 4 = 1 := by kernel_rfl
theorem cells_u8 : Tryz.prog.cellsOf 5 = 1 := by kernel_rfl
theorem cells_Isin : Tryz.prog.cellsOf 23 = 12 := by kernel_rfl
theorem cells_Notice : Tryz.prog.cellsOf 26 = 27 := by kernel_rfl
theorem cells_Link : Tryz.prog.cellsOf 112 = 2 := by kernel_rfl
theorem cells_Links : Tryz.prog.cellsOf 24 = 1 := by kernel_rfl
section
variable {H : Type} {enc : TypeId × Value → H} {w : World} {spare : Nat → Bool} {held : Bool}
set_option maxHeartbeats 2000000 in
/-- A notice's cells, opened. -/
theorem open_notice {fuel : Nat} {cs : List Value} {x : DataW H × List MemPlace} (h : DataW.trod enc Tryz.prog w 0 spare held fuel 26 cs = some x) (hz : Sz Tryz.prog 26 x.1) (hl : cs.length = 27) :
    ∃ nt : Nt, cs.map id = (noteC nt).toList ∧ nt.wf ∧ ∃ m y, DataW.trod enc Tryz.prog w 0 spare held m 24 [.slice nt.la nt.ln nt.lc] = some y ∧ Sz Tryz.prog 24 y.1 := by
  match cs, hl with
  | [c0, c1, c2, c3, c4, c5, c6, c7, c8, c9, c10, c11, c12, c13, c14, c15, c16, c17, c18, c19, c20, c21, c22, c23, c24, c25, c26], _ =>
    obtain ⟨m0, y0, g0, z0⟩ := fieldAt Tryz.underlying26 h hz 0 _ rfl
    have g0 : DataW.trod enc Tryz.prog w 0 spare held m0 9 [c0] = some y0 := by simpa [cells_str] using g0
    obtain ⟨m1, y1, g1, z1⟩ := fieldAt Tryz.underlying26 h hz 1 _ rfl
    have g1 : DataW.trod enc Tryz.prog w 0 spare held m1 9 [c1] = some y1 := by simpa [cells_str] using g1
    obtain ⟨m2, y2, g2, z2⟩ := fieldAt Tryz.underlying26 h hz 2 _ rfl
    have g2 : DataW.trod enc Tryz.prog w 0 spare held m2 4 [c2] = some y2 := by simpa [cells_bool] using g2
    obtain ⟨m3, y3, g3, z3⟩ := fieldAt Tryz.underlying26 h hz 3 _ rfl
    have g3 : DataW.trod enc Tryz.prog w 0 spare held m3 4 [c3] = some y3 := by simpa [cells_bool] using g3
    obtain ⟨m4, y4, g4, z4⟩ := fieldAt Tryz.underlying26 h hz 4 _ rfl
    have g4 : DataW.trod enc Tryz.prog w 0 spare held m4 4 [c4] = some y4 := by simpa [cells_bool] using g4
    obtain ⟨m5, y5, g5, z5⟩ := fieldAt Tryz.underlying26 h hz 5 _ rfl
    have g5 : DataW.trod enc Tryz.prog w 0 spare held m5 3 [c5] = some y5 := by simpa [cells_int] using g5
    obtain ⟨m6, y6, g6, z6⟩ := fieldAt Tryz.underlying26 h hz 6 _ rfl
    have g6 : DataW.trod enc Tryz.prog w 0 spare held m6 3 [c6] = some y6 := by simpa [cells_int] using g6
    obtain ⟨m7, y7, g7, z7⟩ := fieldAt Tryz.underlying26 h hz 7 _ rfl
    have g7 : DataW.trod enc Tryz.prog w 0 spare held m7 23 [c7, c8, c9, c10, c11, c12, c13, c14, c15, c16, c17, c18] = some y7 := by simpa [cells_Isin] using g7
    obtain ⟨m8, y8, g8, z8⟩ := fieldAt Tryz.underlying26 h hz 8 _ rfl
    have g8 : DataW.trod enc Tryz.prog w 0 spare held m8 2 [c19] = some y8 := by simpa [cells_i64] using g8
    obtain ⟨m9, y9, g9, z9⟩ := fieldAt Tryz.underlying26 h hz 9 _ rfl
    have g9 : DataW.trod enc Tryz.prog w 0 spare held m9 9 [c20] = some y9 := by simpa [cells_str] using g9
    obtain ⟨m10, y10, g10, z10⟩ := fieldAt Tryz.underlying26 h hz 10 _ rfl
    have g10 : DataW.trod enc Tryz.prog w 0 spare held m10 9 [c21] = some y10 := by simpa [cells_str] using g10
    obtain ⟨m11, y11, g11, z11⟩ := fieldAt Tryz.underlying26 h hz 11 _ rfl
    have g11 : DataW.trod enc Tryz.prog w 0 spare held m11 9 [c22] = some y11 := by simpa [cells_str] using g11
    obtain ⟨m12, y12, g12, z12⟩ := fieldAt Tryz.underlying26 h hz 12 _ rfl
    have g12 : DataW.trod enc Tryz.prog w 0 spare held m12 2 [c23] = some y12 := by simpa [cells_i64] using g12
    obtain ⟨m13, y13, g13, z13⟩ := fieldAt Tryz.underlying26 h hz 13 _ rfl
    have g13 : DataW.trod enc Tryz.prog w 0 spare held m13 9 [c24] = some y13 := by simpa [cells_str] using g13
    obtain ⟨m14, y14, g14, z14⟩ := fieldAt Tryz.underlying26 h hz 14 _ rfl
    have g14 : DataW.trod enc Tryz.prog w 0 spare held m14 3 [c25] = some y14 := by simpa [cells_int] using g14
    obtain ⟨m15, y15, g15, z15⟩ := fieldAt Tryz.underlying26 h hz 15 _ rfl
    have g15 : DataW.trod enc Tryz.prog w 0 spare held m15 24 [c26] = some y15 := by simpa [cells_Links] using g15
    obtain ⟨s0, e0, b0⟩ := leafStr Tryz.underlying9 g0 z0
    subst e0
    obtain ⟨s1, e1, b1⟩ := leafStr Tryz.underlying9 g1 z1
    subst e1
    obtain ⟨s2, e2⟩ := leafBool Tryz.underlying4 g2
    subst e2
    obtain ⟨s3, e3⟩ := leafBool Tryz.underlying4 g3
    subst e3
    obtain ⟨s4, e4⟩ := leafBool Tryz.underlying4 g4
    subst e4
    obtain ⟨s5, e5, b5⟩ := leafInt Tryz.underlying3 g5
    subst e5
    obtain ⟨s6, e6, b6⟩ := leafInt Tryz.underlying3 g6
    subst e6
    obtain ⟨k0, v0, d0⟩ := arrayAt Tryz.underlying23 g7 0 (by omega)
    have d0 : DataW.trod enc Tryz.prog w 0 spare held k0 5 [c7] = some v0 := by simpa [cells_u8, cells_Isin] using d0
    obtain ⟨n0, f0, q0⟩ := leafInt Tryz.underlying5 d0
    subst f0
    obtain ⟨k1, v1, d1⟩ := arrayAt Tryz.underlying23 g7 1 (by omega)
    have d1 : DataW.trod enc Tryz.prog w 0 spare held k1 5 [c8] = some v1 := by simpa [cells_u8, cells_Isin] using d1
    obtain ⟨n1, f1, q1⟩ := leafInt Tryz.underlying5 d1
    subst f1
    obtain ⟨k2, v2, d2⟩ := arrayAt Tryz.underlying23 g7 2 (by omega)
    have d2 : DataW.trod enc Tryz.prog w 0 spare held k2 5 [c9] = some v2 := by simpa [cells_u8, cells_Isin] using d2
    obtain ⟨n2, f2, q2⟩ := leafInt Tryz.underlying5 d2
    subst f2
    obtain ⟨k3, v3, d3⟩ := arrayAt Tryz.underlying23 g7 3 (by omega)
    have d3 : DataW.trod enc Tryz.prog w 0 spare held k3 5 [c10] = some v3 := by simpa [cells_u8, cells_Isin] using d3
    obtain ⟨n3, f3, q3⟩ := leafInt Tryz.underlying5 d3
    subst f3
    obtain ⟨k4, v4, d4⟩ := arrayAt Tryz.underlying23 g7 4 (by omega)
    have d4 : DataW.trod enc Tryz.prog w 0 spare held k4 5 [c11] = some v4 := by simpa [cells_u8, cells_Isin] using d4
    obtain ⟨n4, f4, q4⟩ := leafInt Tryz.underlying5 d4
    subst f4
    obtain ⟨k5, v5, d5⟩ := arrayAt Tryz.underlying23 g7 5 (by omega)
    have d5 : DataW.trod enc Tryz.prog w 0 spare held k5 5 [c12] = some v5 := by simpa [cells_u8, cells_Isin] using d5
    obtain ⟨n5, f5, q5⟩ := leafInt Tryz.underlying5 d5
    subst f5
    obtain ⟨k6, v6, d6⟩ := arrayAt Tryz.underlying23 g7 6 (by omega)
    have d6 : DataW.trod enc Tryz.prog w 0 spare held k6 5 [c13] = some v6 := by simpa [cells_u8, cells_Isin] using d6
    obtain ⟨n6, f6, q6⟩ := leafInt Tryz.underlying5 d6
    subst f6
    obtain ⟨k7, v7, d7⟩ := arrayAt Tryz.underlying23 g7 7 (by omega)
    have d7 : DataW.trod enc Tryz.prog w 0 spare held k7 5 [c14] = some v7 := by simpa [cells_u8, cells_Isin] using d7
    obtain ⟨n7, f7, q7⟩ := leafInt Tryz.underlying5 d7
    subst f7
    obtain ⟨k8, v8, d8⟩ := arrayAt Tryz.underlying23 g7 8 (by omega)
    have d8 : DataW.trod enc Tryz.prog w 0 spare held k8 5 [c15] = some v8 := by simpa [cells_u8, cells_Isin] using d8
    obtain ⟨n8, f8, q8⟩ := leafInt Tryz.underlying5 d8
    subst f8
    obtain ⟨k9, v9, d9⟩ := arrayAt Tryz.underlying23 g7 9 (by omega)
    have d9 : DataW.trod enc Tryz.prog w 0 spare held k9 5 [c16] = some v9 := by simpa [cells_u8, cells_Isin] using d9
    obtain ⟨n9, f9, q9⟩ := leafInt Tryz.underlying5 d9
    subst f9
    obtain ⟨k10, v10, d10⟩ := arrayAt Tryz.underlying23 g7 10 (by omega)
    have d10 : DataW.trod enc Tryz.prog w 0 spare held k10 5 [c17] = some v10 := by simpa [cells_u8, cells_Isin] using d10
    obtain ⟨n10, f10, q10⟩ := leafInt Tryz.underlying5 d10
    subst f10
    obtain ⟨k11, v11, d11⟩ := arrayAt Tryz.underlying23 g7 11 (by omega)
    have d11 : DataW.trod enc Tryz.prog w 0 spare held k11 5 [c18] = some v11 := by simpa [cells_u8, cells_Isin] using d11
    obtain ⟨n11, f11, q11⟩ := leafInt Tryz.underlying5 d11
    subst f11
    obtain ⟨s8, e8, b8⟩ := leafInt Tryz.underlying2 g8
    subst e8
    obtain ⟨s9, e9, b9⟩ := leafStr Tryz.underlying9 g9 z9
    subst e9
    obtain ⟨s10, e10, b10⟩ := leafStr Tryz.underlying9 g10 z10
    subst e10
    obtain ⟨s11, e11, b11⟩ := leafStr Tryz.underlying9 g11 z11
    subst e11
    obtain ⟨s12, e12, b12⟩ := leafInt Tryz.underlying2 g12
    subst e12
    obtain ⟨s13, e13, b13⟩ := leafStr Tryz.underlying9 g13 z13
    subst e13
    obtain ⟨s14, e14, b14⟩ := leafInt Tryz.underlying3 g14
    subst e14
    obtain ⟨a15, n15, k15, e15⟩ : ∃ a n k, c26 = .slice a n k := leafSlice Tryz.underlying24 g15
    subst e15
    refine ⟨⟨s0, s1, s2, s3, s4, s5, s6, fun i => [n0, n1, n2, n3, n4, n5, n6, n7, n8, n9, n10, n11].getD i 0, s8, s9, s10, s11, s12, s13, s14, a15, n15, k15⟩, rfl, ?_, m15, y15, g15, z15⟩
    refine ⟨b0, b1, wf_i64 b14, wf_i64 b5, wf_i64 b6, fun i => ?_, wf_i64 b8, b9, b10, b11, wf_i64 b12, b13⟩
    match i with
    | 0 => exact wf_u8 q0
    | 1 => exact wf_u8 q1
    | 2 => exact wf_u8 q2
    | 3 => exact wf_u8 q3
    | 4 => exact wf_u8 q4
    | 5 => exact wf_u8 q5
    | 6 => exact wf_u8 q6
    | 7 => exact wf_u8 q7
    | 8 => exact wf_u8 q8
    | 9 => exact wf_u8 q9
    | 10 => exact wf_u8 q10
    | 11 => exact wf_u8 q11
    | i + 12 => exact ⟨Int.le_refl _, by show (0 : Int) ≤ 255; omega⟩
theorem mem_weightsAll {P : Program} {e : TypeId} : ∀ {ds : List (DataW H)} {d : DataW H}, d ∈ ds → ∀ n ∈ DataW.weights P e d, n ∈ DataW.weightsAll P e ds
  | d0 :: ds, d, hd, n, hn => by
    simp only [DataW.weightsAll, List.mem_append]
    rcases List.mem_cons.1 hd with rfl | hd
    · exact .inl hn
    · exact .inr (mem_weightsAll hd n hn)
theorem bytes_Link : Tryz.prog.bytesOf 112 = 24 := by kernel_rfl
/-- A list of links, opened. -/
theorem open_links {fuel : Nat} {a : Option Addr} {n k : Nat} {x : DataW H × List MemPlace} (h : DataW.trod enc Tryz.prog w 0 spare held fuel 24 [.slice a n k] = some x) (hz : Sz Tryz.prog 24 x.1) :
    ∃ lx : List Lk, RdL w a n lx ∧ OkL lx ∧ n * 24 ≤ 140737488351232 := by
  have okN : OkL [] := fun i => ⟨by show I64 0; unfold I64; omega, by show (0 : Nat) ≤ 140737488351232; omega⟩
  rcases Go.Deep.open_slice Tryz.underlying24 h with ⟨hc, _⟩ | ⟨ad, len, cap, m, n', D, Pl, hc, _, hle, _, hm, hx, hi⟩
  · simp at hc
    obtain ⟨rfl, rfl, rfl⟩ := hc
    exact ⟨[], ⟨rfl, fun i hi => absurd hi (Nat.not_lt_zero _)⟩, okN, by omega⟩
  · simp at hc
    obtain ⟨rfl, rfl, rfl⟩ := hc
    have hmn : n ≤ m := by rw [hm]; split <;> omega
    have hzs : ∀ q ∈ DataW.weights Tryz.prog 24 x.1, q ≤ 140737488351232 := hz
    rw [hx] at hzs
    simp only [DataW.weights, Tryz.underlying24] at hzs
    have h24 : n * 24 ≤ 140737488351232 := by
      have := hzs _ (List.mem_cons_self)
      rw [bytes_Link] at this
      simp at this
      omega
    have key : ∀ i, ∃ l : Lk, i < n → w.cell? (ad.add (i * 2)) = some (.int .i64 l.1) ∧ w.cell? (ad.add (i * 2 + 1)) = some (.string l.2) ∧ I64 l.1 ∧ l.2.size ≤ 140737488351232 := by
      intro i
      by_cases hin : i < n
      · obtain ⟨cs', hcs, ht⟩ := hi i (by omega)
        rw [cells_Link] at hcs
        obtain ⟨_, hcl, hat⟩ := World.cells?_some hcs
        have hsz : Sz Tryz.prog 112 (D i) := fun q hq => hzs q (by
          refine List.mem_cons_of_mem _ (List.mem_append_left _ (mem_weightsAll (d := D i) ?_ q hq))
          exact List.mem_map.2 ⟨i, List.mem_range.2 hin, rfl⟩)
        match cs', hcl with
        | [c0, c1], _ =>
          obtain ⟨m0, y0, g0, z0⟩ := fieldAt Tryz.underlying112 ht hsz 0 _ rfl
          obtain ⟨m1, y1, g1, z1⟩ := fieldAt Tryz.underlying112 ht hsz 1 _ rfl
          have g0 : DataW.trod enc Tryz.prog w 0 spare held m0 3 [c0] = some y0 := by simpa [cells_int] using g0
          have g1 : DataW.trod enc Tryz.prog w 0 spare held m1 9 [c1] = some y1 := by simpa [cells_str] using g1
          obtain ⟨kk, e0, b0⟩ := leafInt Tryz.underlying3 g0
          obtain ⟨ss, e1, b1⟩ := leafStr Tryz.underlying9 g1 z1
          subst e0
          subst e1
          refine ⟨(kk, ss), fun _ => ⟨?_, ?_, wf_i64 b0, b1⟩⟩
          · have := hat 0 (by omega)
            rw [Go.Deep.add_add] at this
            simpa using this
          · have := hat 1 (by omega)
            rw [Go.Deep.add_add] at this
            simpa using this
      · exact ⟨lk0, fun h => absurd h hin⟩
    obtain ⟨f, hf⟩ := Classical.axiomOfChoice key
    have hget : ∀ i, i < n → ((List.range n).map f).getD i lk0 = f i := fun i hin => by
      rw [List.getD_eq_getElem?_getD, List.getElem?_map, List.getElem?_range hin]
      rfl
    refine ⟨(List.range n).map f, ⟨by simp, fun i hin => ⟨ad, rfl, ?_, ?_⟩⟩, fun i => ?_, h24⟩
    · rw [hget i hin]; exact (hf i hin).1
    · rw [hget i hin]; exact (hf i hin).2.1
    · by_cases hin : i < n
      · rw [hget i hin]; exact (hf i hin).2.2
      · have e : ((List.range n).map f).getD i lk0 = lk0 := by
          rw [List.getD_eq_getElem?_getD, List.getElem?_eq_none (by simp; omega)]
          rfl
        rw [e]
        exact okN 0
/-- A notice as an argument, opened. -/
theorem open_note {r : Reach} {b0 : Nat} {v : Value} {d : DataW H} {ps : List MemPlace} (hv : Value.okWide Tryz.prog w r b0 26 v) (h : DataW.Trod enc Tryz.prog w 0 spare held 26 v d ps) (hz : Sz Tryz.prog 26 d) :
    ∃ (x : Nt) (lx : List Lk), v = .agg (noteC x) ∧ x.wf ∧ RdL w x.la x.ln lx ∧ OkL lx ∧ x.ln * 24 ≤ 140737488351232 := by
  obtain ⟨cs, rfl, hsz⟩ := okWide_struct Tryz.underlying26 hv
  rw [cells_Notice] at hsz
  obtain ⟨fuel, hf⟩ := h
  have hf : DataW.trod enc Tryz.prog w 0 spare held fuel 26 cs.toList = some (d, ps) := hf
  obtain ⟨x, hx, hwf, m2, y2, g2, z2⟩ := open_notice hf hz (by simpa using hsz)
  obtain ⟨lx, hr, ok, h24⟩ := open_links g2 z2
  rw [List.map_id] at hx
  refine ⟨x, lx, ?_, hwf, hr, ok, h24⟩
  obtain ⟨l⟩ := cs
  have hx : l = (noteC x).toList := hx
  rw [hx]
end
end Go.Proofs.YtphabkaiheplpaaGreatDoor
/- A side and texts opened out of a row's reading (over NOpen's words). -/
set_option linter.unusedVariables false
set_option linter.unusedSimpArgs false
set_option maxRecDepth 100000
namespace Go.Proofs.YtphabkaiheplpaaGreatDoor
open Go.ChangeShapes Go.WideShapes Go.RowKit

theorem cells_Side : Tryz.prog.cellsOf 28 = 28 := by kernel_rfl
theorem bytes_str : Tryz.prog.bytesOf 9 = 16 := by kernel_rfl
section
variable {H : Type} {enc : TypeId × Value → H} {w : World} {spare : Nat → Bool} {held : Bool}
/-- A side, opened. -/
theorem open_side {r : Reach} {b0 : Nat} {v : Value} {d : DataW H} {ps : List MemPlace} (hv : Value.okWide Tryz.prog w r b0 28 v) (h : DataW.Trod enc Tryz.prog w 0 spare held 28 v d ps) (hz : Sz Tryz.prog 28 d) :
    ∃ (p : Int) (x : Nt) (lx : List Lk), v = sideV p x ∧ I64 p ∧ x.wf ∧ RdL w x.la x.ln lx ∧ OkL lx ∧ x.ln * 24 ≤ 140737488351232 := by
  obtain ⟨cs, rfl, hsz⟩ := okWide_struct Tryz.underlying28 hv
  rw [cells_Side] at hsz
  obtain ⟨fuel, hf⟩ := h
  have hcl : (Value.agg cs).cells.toList = cs.toList := rfl
  obtain ⟨m0, y0, g0, z0⟩ := fieldAt Tryz.underlying28 hf hz 0 _ rfl
  obtain ⟨m1, y1, g1, z1⟩ := fieldAt Tryz.underlying28 hf hz 1 _ rfl
  obtain ⟨l⟩ := cs
  match l, hsz with
  | c :: rest, hsz =>
    have hrl : rest.length = 27 := by simpa using hsz
    have q0 : DataW.trod enc Tryz.prog w 0 spare held m0 3 [c] = some y0 := by simpa [Value.cells, cells_int] using g0
    have q1 : DataW.trod enc Tryz.prog w 0 spare held m1 26 rest = some y1 := by
      have := g1
      simp [Value.cells, cells_Notice] at this
      rw [List.take_of_length_le (by omega)] at this
      exact this
    clear g0 g1
    obtain ⟨p, e0, b0⟩ := leafInt Tryz.underlying3 q0
    subst e0
    obtain ⟨x, hx, hwf, m2, y2, g2, z2⟩ := open_notice q1 z1 hrl
    obtain ⟨lx, hr, ok, h24⟩ := open_links g2 z2
    refine ⟨p, x, lx, ?_, wf_i64 b0, hwf, hr, ok, h24⟩
    rw [List.map_id] at hx
    rw [hx]
    rfl
/-- A list of texts, opened. -/
theorem open_texts {r : Reach} {b0 : Nat} {v : Value} {d : DataW H} {ps : List MemPlace} (hv : Value.okWide Tryz.prog w r b0 29 v) (h : DataW.Trod enc Tryz.prog w 0 spare held 29 v d ps) (hz : Sz Tryz.prog 29 d) :
    ∃ (a : Option Addr) (n c : Nat) (zs : List ByteArray), v = .slice a n c ∧ RdT w a n zs ∧ Short zs ∧ n * 16 ≤ 140737488351232 := by
  obtain ⟨a, n, c, rfl⟩ := okWide_slice Tryz.underlying29 hv
  obtain ⟨fuel, hf⟩ := h
  have shN : Short [] := fun i => by show (0 : Nat) ≤ 140737488351232; omega
  rcases Go.Deep.open_slice Tryz.underlying29 hf with ⟨hc, _⟩ | ⟨ad, len, cap, m, n', D, Pl, hc, _, hle, _, hm, hx, hi⟩
  · simp [Value.cells] at hc
    obtain ⟨rfl, rfl, rfl⟩ := hc
    exact ⟨none, 0, 0, [], rfl, ⟨rfl, fun i hi => absurd hi (Nat.not_lt_zero _)⟩, shN, by omega⟩
  · simp [Value.cells] at hc
    obtain ⟨rfl, rfl, rfl⟩ := hc
    have hmn : n ≤ m := by rw [hm]; split <;> omega
    have hd := (Prod.mk.inj hx).1
    have hzs : ∀ q ∈ DataW.weights Tryz.prog 29 d, q ≤ 140737488351232 := hz
    rw [hd] at hzs
    simp only [DataW.weights, Tryz.underlying29] at hzs
    have h16 : n * 16 ≤ 140737488351232 := by
      have := hzs _ (List.mem_cons_self)
      rw [bytes_str] at this
      simp at this
      omega
    have key : ∀ i, ∃ s : ByteArray, i < n → w.cell? (ad.add i) = some (.string s) ∧ s.size ≤ 140737488351232 := by
      intro i
      by_cases hin : i < n
      · obtain ⟨cs', hcs, ht⟩ := hi i (by omega)
        rw [cells_str] at hcs
        obtain ⟨_, hcl, hat⟩ := World.cells?_some hcs
        have hsz : Sz Tryz.prog 9 (D i) := fun q hq => hzs q (by
          refine List.mem_cons_of_mem _ (List.mem_append_left _ (mem_weightsAll (d := D i) ?_ q hq))
          exact List.mem_map.2 ⟨i, List.mem_range.2 hin, rfl⟩)
        match cs', hcl with
        | [c0], _ =>
          obtain ⟨ss, e1, b1⟩ := leafStr Tryz.underlying9 ht hsz
          subst e1
          refine ⟨ss, fun _ => ⟨?_, b1⟩⟩
          have := hat 0 (by omega)
          rw [Go.Deep.add_add] at this
          simpa using this
      · exact ⟨⟨#[]⟩, fun h => absurd h hin⟩
    obtain ⟨f, hf2⟩ := Classical.axiomOfChoice key
    have hget : ∀ i, i < n → ((List.range n).map f).getD i ⟨#[]⟩ = f i := fun i hin => by
      rw [List.getD_eq_getElem?_getD, List.getElem?_map, List.getElem?_range hin]
      rfl
    refine ⟨some ad, n, c, (List.range n).map f, rfl, ⟨by simp, fun i hin => ⟨ad, rfl, ?_⟩⟩, fun i => ?_, h16⟩
    · rw [hget i hin]; exact (hf2 i hin).1
    · by_cases hin : i < n
      · rw [hget i hin]; exact (hf2 i hin).2
      · have e : ((List.range n).map f).getD i ⟨#[]⟩ = (⟨#[]⟩ : ByteArray) := by
          rw [List.getD_eq_getElem?_getD, List.getElem?_eq_none (by simp; omega)]
          rfl
        rw [e]
        exact shN 0
end
end Go.Proofs.YtphabkaiheplpaaGreatDoor
