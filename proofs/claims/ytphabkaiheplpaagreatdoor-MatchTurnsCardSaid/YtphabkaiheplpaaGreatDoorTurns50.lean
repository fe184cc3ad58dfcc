/- Joined texts of this proof: SOpen. -/
import Derived.OpenShut
import Derived.SizedLaws
import Derived.Deep.Slices
import Derived.Deep.Strs
import Derived.ChangeSame
import Derived.Test.YtphabkaiheplpaaGreatDoorTurns7
import Derived.Test.YtphabkaiheplpaaGreatDoorTurns49
/- A side and texts opened out of a row's reading (over NOpen's words). -/
set_option linter.unusedVariables false
set_option linter.unusedSimpArgs false
set_option maxRecDepth 100000
namespace Go.Proofs.YtphabkaiheplpaaGreatDoor
open Go.ChangeShapes Go.WideShapes Go.RowKit

theorem cells_Side : Tryz.prog.cellsOf 28 = 28 := by kernel_rfl
theorem bytes_str : Tryz.prog.bytesOf 9 = 16 := by kernel_rfl
section
variable {H : Type} {enc : TypeId × Value → H} {w : World} {spare : Nat → Bool} {held : Bool}
/-- A side, opened. -/
theorem open_side {r : Reach} {b0 : Nat} {v : Value} {d : DataW H} {ps : List MemPlace} (hv : Value.okWide Tryz.prog w r b0 28 v) (h : DataW.Trod enc Tryz.prog w 0 spare held 28 v d ps) (hz : Sz Tryz.prog 28 d) :
    ∃ (p : Int) (x : Nt) (lx : List Lk), v = sideV p x ∧ I64 p ∧ x.wf ∧ RdL w x.la x.ln lx ∧ OkL lx ∧ x.ln * 24 ≤ 140737488351232 := by
  obtain ⟨cs, rfl, hsz⟩ := okWide_struct Tryz.underlying28 hv
  rw [cells_Side] at hsz
  obtain ⟨fuel, hf⟩ := h
  have hcl : (Value.agg cs).cells.toList = cs.toList := rfl
  obtain ⟨m0, y0, g0, z0⟩ := fieldAt Tryz.underlying28 hf hz 0 _ rfl
  obtain ⟨m1, y1, g1, z1⟩ := fieldAt Tryz.underlying28 hf hz 1 _ rfl
  obtain ⟨l⟩ := cs
  match l, hsz with
  | c :: rest, hsz =>
    have hrl : rest.length = 27 := by simpa using hsz
    have q0 : DataW.trod enc Tryz.prog w 0 spare held m0 3 [c] = some y0 := by simpa [Value.cells, cells_int] using g0
    have q1 : DataW.trod enc Tryz.prog w 0 spare held m1 26 rest = some y1 := by
      have := g1
      simp [Value.cells, cells_Notice] at this
      rw [List.take_of_length_le (by omega)] at this
      exact this
    clear g0 g1
    obtain ⟨p, e0, b0⟩ := leafInt Tryz.underlying3 q0
    subst e0
    obtain ⟨x, hx, hwf, m2, y2, g2, z2⟩ := open_notice q1 z1 hrl
    obtain ⟨lx, hr, ok, h24⟩ := open_links g2 z2
    refine ⟨p, x, lx, ?_, wf_i64 b0, hwf, hr, ok, h24⟩
    rw [List.map_id] at hx
    rw [hx]
    rfl
/-- A list of texts, opened. -/
theorem open_texts {r : Reach} {b0 : Nat} {v : Value} {d : DataW H} {ps : List MemPlace} (hv : Value.okWide Tryz.prog w r b0 29 v) (h : DataW.Trod enc Tryz.prog w 0 spare held 29 v d ps) (hz : Sz Tryz.prog 29 d) :
    ∃ (a : Option Addr) (n c : Nat) (zs : List ByteArray), v = .slice a n c ∧ RdT w a n zs ∧ Short zs ∧ n * 16 ≤ 140737488351232 := by
  obtain ⟨a, n, c, rfl⟩ := okWide_slice Tryz.underlying29 hv
  obtain ⟨fuel, hf⟩ := h
  have shN : Short [] := fun i => by show (0 : Nat) ≤ 140737488351232; omega
  rcases Go.Deep.open_slice Tryz.underlying29 hf with ⟨hc, _⟩ | ⟨ad, len, cap, m, n', D, Pl, hc, _, hle, _, hm, hx, hi⟩
  · simp [Value.cells] at hc
    obtain ⟨rfl, rfl, rfl⟩ := hc
    exact ⟨none, 0, 0, [], rfl, ⟨rfl, fun i hi => absurd hi (Nat.not_lt_zero _)⟩, shN, by omega⟩
  · simp [Value.cells] at hc
    obtain ⟨rfl, rfl, rfl⟩ := hc
    have hmn : n ≤ m := by rw [hm]; split <;> omega
    have hd := (Prod.mk.inj hx).1
    have hzs : ∀ q ∈ DataW.weights Tryz.prog 29 d, q ≤ 140737488351232 := hz
    rw [hd] at hzs
    simp only [DataW.weights, Tryz.underlying29] at hzs
    have h16 : n * 16 ≤ 140737488351232 := by
      have := hzs _ (List.mem_cons_self)
      rw [bytes_str] at this
      simp at this
      omega
    have key : ∀ i, ∃ s : ByteArray, i < n → w.cell? (ad.add i) = some (.string s) ∧ s.size ≤ 140737488351232 := by
      intro i
      by_cases hin : i < n
      · obtain ⟨cs', hcs, ht⟩ := hi i (by omega)
        rw [cells_str] at hcs
        obtain ⟨_, hcl, hat⟩ := World.cells?_some hcs
        have hsz : Sz Tryz.prog 9 (D i) := fun q hq => hzs q (by
          refine List.mem_cons_of_mem _ (List.mem_append_left _ (mem_weightsAll (d := D i) ?_ q hq))
          exact List.mem_map.2 ⟨i, List.mem_range.2 hin, rfl⟩)
        match cs', hcl with
        | [c0], _ =>
          obtain ⟨ss, e1, b1⟩ := leafStr Tryz.underlying9 ht hsz
          subst e1
          refine ⟨ss, fun _ => ⟨?_, b1⟩⟩
          have := hat 0 (by omega)
          rw [Go.Deep.add_add] at this
          simpa using this
      · exact ⟨⟨#[]⟩, fun h => absurd h hin⟩
    obtain ⟨f, hf2⟩ := Classical.axiomOfChoice key
    have hget : ∀ i, i < n → ((List.range n).map f).getD i ⟨#[]⟩ = f i := fun i hin => by
      rw [List.getD_eq_getElem?_getD, List.getElem?_map, List.getElem?_range hin]
      rfl
    refine ⟨some ad, n, c, (List.range n).map f, rfl, ⟨by simp, fun i hin => ⟨ad, rfl, ?_⟩⟩, fun i => ?_, h16⟩
    · rw [hget i hin]; exact (hf2 i hin).1
    · by_cases hin : i < n
      · rw [hget i hin]; exact (hf2 i hin).2
      · have e : ((List.range n).map f).getD i ⟨#[]⟩ = (⟨#[]⟩ : ByteArray) := by
          rw [List.getD_eq_getElem?_getD, List.getElem?_eq_none (by simp; omega)]
          rfl
        rw [e]
        exact shN 0
end
end Go.Proofs.YtphabkaiheplpaaGreatDoor
