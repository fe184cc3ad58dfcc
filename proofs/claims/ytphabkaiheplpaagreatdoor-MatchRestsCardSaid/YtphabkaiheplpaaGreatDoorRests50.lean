/- Joined texts of this proof: ROpen. -/
import Derived.Test.YtphabkaiheplpaaGreatDoorRests10
import Derived.Test.YtphabkaiheplpaaGreatDoorRests49
/- A script opened out of a row's reading; MatchRests in a row's order. -/
set_option linter.unusedVariables false
set_option linter.unusedSimpArgs false
set_option maxRecDepth 100000
namespace Go.Proofs.YtphabkaiheplpaaGreatDoor
open Go.ChangeShapes Go.WideShapes Go.RowKit

theorem cells_Op : Tryz.prog.cellsOf 46 = 32 := by kernel_rfl
theorem bytes_Op : Tryz.prog.bytesOf 46 = 232 := by kernel_rfl
section
variable {H : Type} {enc : TypeId × Value → H} {w : World} {spare : Nat → Bool} {held : Bool}
theorem open_sideL {fuel : Nat} {cs : List Value} {x : DataW H × List MemPlace} (h : DataW.trod enc Tryz.prog w 0 spare held fuel 28 cs = some x) (hz : Sz Tryz.prog 28 x.1) (hl : cs.length = 28) :
    ∃ (p : Int) (nt : Nt) (lx : List Lk), cs = (sideC p nt).toList ∧ I64 p ∧ nt.wf ∧ RdL w nt.la nt.ln lx ∧ OkL lx ∧ nt.ln * 24 ≤ 140737488351232 := by
  obtain ⟨m0, y0, g0, z0⟩ := fieldAt Tryz.underlying28 h hz 0 _ rfl
  obtain ⟨m1, y1, g1, z1⟩ := fieldAt Tryz.underlying28 h hz 1 _ rfl
  match cs, hl with
  | c :: rest, hl =>
    have hrl : rest.length = 27 := by simpa using hl
    have q0 : DataW.trod enc Tryz.prog w 0 spare held m0 3 [c] = some y0 := by simpa [cells_int] using g0
    have q1 : DataW.trod enc Tryz.prog w 0 spare held m1 26 rest = some y1 := by
      have := g1
      simp [cells_int, cells_Notice] at this
      rw [List.take_of_length_le (by omega)] at this
      exact this
    obtain ⟨p, e0, b0⟩ := leafInt Tryz.underlying3 q0
    subst e0
    obtain ⟨nt, hx, hwf, m2, y2, g2, z2⟩ := open_notice q1 z1 hrl
    obtain ⟨lx, hr, ok, h24⟩ := open_links g2 z2
    refine ⟨p, nt, lx, ?_, wf_i64 b0, hwf, hr, ok, h24⟩
    rw [List.map_id] at hx
    rw [hx]
    rfl
theorem open_op {fuel : Nat} {cs : List Value} {x : DataW H × List MemPlace} (h : DataW.trod enc Tryz.prog w 0 spare held fuel 46 cs = some x) (hz : Sz Tryz.prog 46 x.1) (hl : cs.length = 32) :
    ∃ o : Opr, cs = opC o ∧ OprOk w o := by
  obtain ⟨m0, y0, g0, z0⟩ := fieldAt Tryz.underlying46 h hz 0 _ rfl
  obtain ⟨m1, y1, g1, z1⟩ := fieldAt Tryz.underlying46 h hz 1 _ rfl
  obtain ⟨m2, y2, g2, z2⟩ := fieldAt Tryz.underlying46 h hz 2 _ rfl
  obtain ⟨m3, y3, g3, z3⟩ := fieldAt Tryz.underlying46 h hz 3 _ rfl
  obtain ⟨m4, y4, g4, z4⟩ := fieldAt Tryz.underlying46 h hz 4 _ rfl
  match cs, hl with
  | c0 :: c1 :: rest, hl =>
    have hrl : rest.length = 30 := by simpa using hl
    have q0 : DataW.trod enc Tryz.prog w 0 spare held m0 3 [c0] = some y0 := by simpa [cells_int] using g0
    have q1 : DataW.trod enc Tryz.prog w 0 spare held m1 3 [c1] = some y1 := by simpa [cells_int] using g1
    have q2 : DataW.trod enc Tryz.prog w 0 spare held m2 28 (rest.take 28) = some y2 := by simpa [cells_int, cells_Side] using g2
    obtain ⟨p, nt, lx, hs, hp, hwf, hr, ok, h24⟩ := open_sideL q2 z2 (by rw [List.length_take]; omega)
    have hrest : rest = (sideC p nt).toList ++ rest.drop 28 := by rw [← hs, List.take_append_drop]
    have hdl : (rest.drop 28).length = 2 := by rw [List.length_drop]; omega
    generalize rest.drop 28 = tl at hrest hdl
    match tl, hdl with
    | [c30, c31], _ =>
      subst hrest
      have hsl : (sideC p nt).toList.length = 28 := rfl
      have q3 : DataW.trod enc Tryz.prog w 0 spare held m3 3 [c30] = some y3 := by
        have := g3
        simp [cells_int, cells_Side] at this
        exact this
      have q4 : DataW.trod enc Tryz.prog w 0 spare held m4 9 [c31] = some y4 := by
        have := g4
        simp [cells_int, cells_Side, cells_str] at this
        exact this
      obtain ⟨on, e0, b0⟩ := leafInt Tryz.underlying3 q0
      obtain ⟨kind, e1, b1⟩ := leafInt Tryz.underlying3 q1
      obtain ⟨nn, e3, b3⟩ := leafInt Tryz.underlying3 q3
      obtain ⟨ref, e4, b4⟩ := leafStr Tryz.underlying9 q4 z4
      subst e0 e1 e3 e4
      exact ⟨⟨on, kind, p, nt, lx, nn, ref⟩, rfl, ⟨wf_i64 b0, wf_i64 b1, hp, hwf, hr, ok, h24, wf_i64 b3, b4⟩⟩
theorem oprok0 : OprOk w opr0 := by
  have i0 : I64 0 := by unfold I64; omega
  have s0 : (⟨#[]⟩ : ByteArray).size ≤ 140737488351232 := by show (0 : Nat) ≤ _; omega
  exact ⟨i0, i0, i0, ⟨s0, s0, i0, i0, i0, fun i => by show (0 : Int) ≤ 0 ∧ (0 : Int) ≤ 255; omega, i0, s0, s0, s0, i0, s0⟩, ⟨rfl, fun i hi => absurd hi (Nat.not_lt_zero _)⟩, fun i => ⟨i0, s0⟩, by show (0 : Nat) * 24 ≤ _; omega, i0, s0⟩
/-- A script, opened. -/
theorem open_ops {r : Reach} {b0 : Nat} {v : Value} {d : DataW H} {ps : List MemPlace} (hv : Value.okWide Tryz.prog w r b0 42 v) (h : DataW.Trod enc Tryz.prog w 0 spare held 42 v d ps) (hz : Sz Tryz.prog 42 d) :
    ∃ (a : Option Addr) (n c : Nat) (l : List Opr), v = .slice a n c ∧ OpsOk w a n l := by
  obtain ⟨a, n, c, rfl⟩ := okWide_slice Tryz.underlying42 hv
  obtain ⟨fuel, hf⟩ := h
  rcases Go.Deep.open_slice Tryz.underlying42 hf with ⟨hc, _⟩ | ⟨ad, len, cap, m, n', D, Pl, hc, _, hle, _, hm, hx, hi⟩
  · simp [Value.cells] at hc
    obtain ⟨rfl, rfl, rfl⟩ := hc
    exact ⟨none, 0, 0, [], rfl, rfl, by omega, fun i hi => absurd hi (Nat.not_lt_zero _)⟩
  · simp [Value.cells] at hc
    obtain ⟨rfl, rfl, rfl⟩ := hc
    have hmn : n ≤ m := by rw [hm]; split <;> omega
    have hd := (Prod.mk.inj hx).1
    have hzs : ∀ q ∈ DataW.weights Tryz.prog 42 d, q ≤ 140737488351232 := hz
    rw [hd] at hzs
    simp only [DataW.weights, Tryz.underlying42] at hzs
    have h232 : n * 232 ≤ 140737488351232 := by
      have := hzs _ (List.mem_cons_self)
      rw [bytes_Op] at this
      simp at this
      omega
    have key : ∀ i, ∃ o : Opr, OprOk w o ∧ (i < n → ∀ j v, (opC o)[j]? = some v → w.cell? (ad.add (i * 32 + j)) = some v) := by
      intro i
      by_cases hin : i < n
      · obtain ⟨cs', hcs, ht⟩ := hi i (by omega)
        rw [cells_Op] at hcs
        obtain ⟨_, hcl, hat⟩ := World.cells?_some hcs
        have hsz : Sz Tryz.prog 46 (D i) := fun q hq => hzs q (by
          refine List.mem_cons_of_mem _ (List.mem_append_left _ (mem_weightsAll (d := D i) ?_ q hq))
          exact List.mem_map.2 ⟨i, List.mem_range.2 hin, rfl⟩)
        obtain ⟨o, ho, hok⟩ := open_op ht hsz hcl
        refine ⟨o, hok, fun _ j v hj => ?_⟩
        have hj32 : j < 32 := by rw [← opC_length o]; exact (List.getElem?_eq_some_iff.1 hj).1
        have h2 := hat j hj32
        rw [Go.Deep.add_add, ho] at h2
        rw [h2]
        exact hj
      · exact ⟨opr0, oprok0, fun h => absurd h hin⟩
    obtain ⟨f, hf2⟩ := Classical.axiomOfChoice key
    have hget : ∀ i, i < n → ((List.range n).map f).getD i opr0 = f i := fun i hin => by
      rw [List.getD_eq_getElem?_getD, List.getElem?_map, List.getElem?_range hin]
      rfl
    refine ⟨some ad, n, c, (List.range n).map f, rfl, by simp, h232, fun i hin => ?_⟩
    rw [hget i hin]
    exact ⟨(hf2 i).1, ad, rfl, (hf2 i).2 hin⟩
end
/-- The walk, in the order of a row's letters and facts. -/
theorem rowlaw_MatchRests (w : World) (hpw : PowT w) (A : Option Addr) (n c : Nat) (zs : List ByteArray) (tol : Int) (O : Option Addr) (m mc : Nat) (l : List Opr) (hr : RdT w A n zs) (hsh : Short zs) (hn : n * 16 ≤ 140737488351232) (ht : I64 tol) (ho : OpsOk w O m l) :
    Calls Tryz.prog 4 #[.slice A n c, .int .i64 tol, .slice O m mc] w fun e w' => e = .returned (.bool true) ∧ Below w.heap.size w w' :=
  law_MatchRests w A n c zs tol O m mc l ⟨hr, hsh, hn, by rw [hr.1]; omega, ht, hpw⟩ ho
end Go.Proofs.YtphabkaiheplpaaGreatDoor
