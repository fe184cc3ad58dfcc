/- codes.luhn by its contract: the Luhn sum of a text of signs, modulo 10. -/
import Derived.Test.YtblfobepaipebaaGreatDoorHas
import Derived.Test.YtblfobepaipebaaGreatDoorLuhnP
import Derived.Shelf.Abstract
import Derived.Deep.LoopGhost
import Derived.Lib.Hide
set_option linter.unusedVariables false
set_option linter.unusedSimpArgs false
set_option maxRecDepth 100000
namespace Go.Proofs.YtblfobepaipebaaGreatDoor
open Go.RowKit Go.Shelf

/-- The two sums in cells of the call's own. -/
structure LuI (w W : World) (be bo : Nat) (ev od : Int) : Prop where
  below : Below w.heap.size w W
  lo : w.heap.size ≤ be ∧ w.heap.size ≤ bo ∧ be ≠ bo
  ce : W.cell? ⟨be, 0, none⟩ = some (.int .i64 ev)
  co : W.cell? ⟨bo, 0, none⟩ = some (.int .i64 od)
  fe : W.frozen? ⟨be, 0, none⟩ = false
  fo : W.frozen? ⟨bo, 0, none⟩ = false
theorem LuI.put {w W : World} {be bo : Nat} {ev od : Int} (h : LuI w W be bo ev od) (x y : Int) : LuI w ((W.setCell ⟨be, 0, none⟩ (.int .i64 x)).setCell ⟨bo, 0, none⟩ (.int .i64 y)) be bo x y := by
  obtain ⟨a, b, c⟩ := h.lo
  refine ⟨bl_set (bl_set h.below (by exact a) _) (by exact b) _, h.lo, ?_, ?_, ?_, ?_⟩
  · rw [World.cell?_setCell_other _ _ _ _ (fun e => by injection e; omega)]
    exact World.cell?_setCell_same _ _ _ h.ce
  · exact World.cell?_setCell_same (u := .int .i64 od) _ _ _ (by rw [World.cell?_setCell_other _ _ _ _ (fun e => by injection e; omega)]; exact h.co)
  · rw [World.frozen?_setCell, World.frozen?_setCell]; exact h.fe
  · rw [World.frozen?_setCell, World.frozen?_setCell]; exact h.fo
theorem tw_range {d : Int} (h0 : 0 ≤ d) (h1 : d ≤ 9) : 0 ≤ tw d ∧ tw d ≤ 9 := by
  by_cases e : d ≤ 4
  · rw [tw_small h0 e]; omega
  · rw [tw_great (by omega) h1]; omega

theorem luhnStep (be bo : Nat) (d ev od : Int) (W : World) (hd : 0 ≤ d ∧ d ≤ 9) (he : 0 ≤ ev ∧ ev ≤ 9) (ho : 0 ≤ od ∧ od ≤ 9) (hne : be ≠ bo)
    (ce : W.cell? ⟨be, 0, none⟩ = some (.int .i64 ev)) (co : W.cell? ⟨bo, 0, none⟩ = some (.int .i64 od)) (fe : W.frozen? ⟨be, 0, none⟩ = false) (fo : W.frozen? ⟨bo, 0, none⟩ = false) :
    Calls Tryz.prog 215 #[.int .i64 d, .pointer (some ⟨bo, 0, none⟩), .pointer (some ⟨be, 0, none⟩)] W fun e w' => e = .returned (.tuple #[]) ∧ w' = (W.setCell ⟨be, 0, none⟩ (.int .i64 ((od + d) % 10))).setCell ⟨bo, 0, none⟩ (.int .i64 ((ev + tw d) % 10)) := by
  have co2 : (W.setCell ⟨be, 0, none⟩ (.int .i64 ((od + d) % 10))).cell? ⟨bo, 0, none⟩ = some (.int .i64 od) := (World.cell?_setCell_other _ _ _ _ (fun e => by injection e; omega)).trans co
  obtain ⟨d0, d1⟩ := hd
  obtain ⟨e0, e1⟩ := he
  obtain ⟨o0, o1⟩ := ho
  have q1 : (d * 2).tmod 10 = d * 2 % 10 := Int.tmod_eq_emod_of_nonneg (by omega)
  have q2 : (od + d).tmod 10 = (od + d) % 10 := Int.tmod_eq_emod_of_nonneg (by omega)
  by_cases h : 4 < d
  · have ht : tw d = d * 2 % 10 + 1 := if_pos h
    rw [ht]
    have q3 : (ev + (d * 2 % 10 + 1)).tmod 10 = (ev + (d * 2 % 10 + 1)) % 10 := Int.tmod_eq_emod_of_nonneg (by omega)
    clear hne ht
    go_enter Tryz.func215, Tryz.ntmps215
    go_wp2
    go_end0
    exact ⟨rfl, rfl⟩
  · have ht : tw d = d * 2 % 10 := if_neg h
    rw [ht]
    have q3 : (ev + d * 2 % 10).tmod 10 = (ev + d * 2 % 10) % 10 := Int.tmod_eq_emod_of_nonneg (by omega)
    clear hne ht
    go_enter Tryz.func215, Tryz.ntmps215
    go_wp2
    go_end0
    exact ⟨rfl, rfl⟩

/-- A digit or a capital. -/
def SignI (c : Int) : Prop := (48 ≤ c ∧ c ≤ 57) ∨ (65 ≤ c ∧ c ≤ 90)
/-- The digits of the first k signs. -/
def spreadS (s : ByteArray) (k : Nat) : List Int := (List.range k).flatMap fun i => spread1 (byteAt s i)
theorem spreadS_next (s : ByteArray) (k : Nat) : spreadS s (k + 1) = spreadS s k ++ spread1 (byteAt s k) := by simp [spreadS, List.range_succ]
theorem Evo.range {ds : List Int} {ev od : Int} (h : Evo ds ev od) : 0 ≤ ev ∧ ev ≤ 9 ∧ 0 ≤ od ∧ od ≤ 9 := by
  obtain ⟨rfl, rfl⟩ := h
  omega
theorem Evo.digit {s : ByteArray} {k : Nat} {ev od : Int} (h : Evo (spreadS s k) ev od) (h1 : 48 ≤ byteAt s k) (h2 : byteAt s k ≤ 57) : Evo (spreadS s (k + 1)) ((od + (byteAt s k - 48)) % 10) ((ev + tw (byteAt s k - 48)) % 10) := by
  have e : spread1 (byteAt s k) = [byteAt s k - 48] := if_pos ⟨h1, h2⟩
  rw [spreadS_next, e]
  exact h.step
theorem Evo.capital {s : ByteArray} {k : Nat} {ev od : Int} (h : Evo (spreadS s k) ev od) (h1 : 65 ≤ byteAt s k) : Evo (spreadS s (k + 1)) (((ev + tw ((byteAt s k - 65) / 10 + 1)) % 10 + (byteAt s k - 65) % 10) % 10) (((od + ((byteAt s k - 65) / 10 + 1)) % 10 + tw ((byteAt s k - 65) % 10)) % 10) := by
  have e : spread1 (byteAt s k) = [(byteAt s k - 65) / 10 + 1] ++ [(byteAt s k - 65) % 10] := if_neg (by omega)
  rw [spreadS_next, e, ← List.append_assoc]
  exact (h.step).step
theorem LuI.step {w W : World} {be bo : Nat} {ev od : Int} (h : LuI w W be bo ev od) (d : Int) (hd : 0 ≤ d ∧ d ≤ 9) (he : 0 ≤ ev ∧ ev ≤ 9) (ho : 0 ≤ od ∧ od ≤ 9) :
    Calls Tryz.prog 215 #[.int .i64 d, .pointer (some ⟨bo, 0, none⟩), .pointer (some ⟨be, 0, none⟩)] W fun e w' => e = .returned (.tuple #[]) ∧ LuI w w' be bo ((od + d) % 10) ((ev + tw d) % 10) :=
  (luhnStep be bo d ev od W hd he ho h.lo.2.2 h.ce h.co h.fe h.fo).mono fun e w' ⟨a, b⟩ => ⟨a, by rw [b]; exact h.put _ _⟩

theorem enters_luhn (args : Array Value) (w : World) : (callFunc 215 args).run Tryz.prog w = .ok (.enter 215 args) w :=
  enters_of Tryz.func215 (by kernel_rfl) rfl args w
theorem each_luhn (s : ByteArray) (be bo : Nat) (w W : World) (h : LuI w W be bo 0 0) (hs : s.size ≤ 140737488351232) (hsg : ∀ i, i < s.size → SignI (byteAt s i)) :
    Calls Tryz.prog 214 #[.string s, .func (.func 215) #[] #[.pointer (some ⟨bo, 0, none⟩), .pointer (some ⟨be, 0, none⟩)]] W fun e w' => e = .returned (.tuple #[]) ∧ ∃ ev od, LuI w w' be bo ev od ∧ Evo (spreadS s s.size) ev od := by
  have I0 := Lib.hid h
  have E0 : Hid (Evo (spreadS s 0) 0 0) := Evo.start
  have HS := Lib.hid hsg
  clear h hsg
  go_enter Tryz.func214, Tryz.ntmps214
  go_wp2
  go_loopg [7] s.size (fun g vi wr => ∃ (k : Nat) (ev od : Int), vi = .int .i64 k ∧ k ≤ s.size ∧ s.size - k ≤ g ∧ Hid (LuI w wr be bo ev od) ∧ Hid (Evo (spreadS s k) ev od))
  case atStart => exact ⟨0, 0, 0, rfl, by omega, by omega, I0, E0⟩
  case round =>
    clear I0 E0
    obtain ⟨k, ev, od, rfl, hk, hg, I, E⟩ := hrel
    by_cases hlt : k < s.size
    · have hltz : (k : Int) < (s.size : Int) := by omega
      have hbx := byteAt_eq s k hlt
      have sg := HS.out k hlt
      have ED := Lib.hid (Evo.digit E.out)
      have EC := Lib.hid (Evo.capital E.out)
      obtain ⟨r1, r2, r3, r4⟩ := E.out.range
      obtain ⟨c, hc⟩ : ∃ c, c = byteAt s k := ⟨_, rfl⟩
      rw [← hc] at hbx sg ED EC
      clear hc
      by_cases hle : c ≤ 57
      · have c0 : 48 ≤ c := by unfold SignI at sg; omega
        have wc : IntKind.u8.wrap (c - 48) = c - 48 := by rw [IntKind.wrap_u8]; omega
        have ST := Lib.hid (I.out.step (c - 48) (by omega) ⟨r1, r2⟩ ⟨r3, r4⟩)
        have E2 := Lib.hid (ED.out c0 hle)
        clear ED EC sg r1 r2 r3 r4
        go_wp2_with (first | (go_at_call 215; with_reducible refine (ST.out).mono ?_; rintro e w1 ⟨rfl, hI⟩; have I2 := Lib.hid hI; clear hI))
        go_roundg (s.size - (k + 1))
        case measure => omega
        case rel => exact ⟨k + 1, _, _, by go_num, by omega, by omega, I2, E2⟩
      · have c0 : 65 ≤ c ∧ c ≤ 90 := by unfold SignI at sg; omega
        have wc : IntKind.u8.wrap (c - 65) = c - 65 := by rw [IntKind.wrap_u8]; omega
        have q1 : (c - 65).tdiv 10 = (c - 65) / 10 := Int.tdiv_eq_ediv_of_nonneg (by omega)
        have q2 : (c - 65).tmod 10 = (c - 65) % 10 := Int.tmod_eq_emod_of_nonneg (by omega)
        have t1 := tw_range (d := (c - 65) / 10 + 1) (by omega) (by omega)
        have ST := Lib.hid (I.out.step ((c - 65) / 10 + 1) (by omega) ⟨r1, r2⟩ ⟨r3, r4⟩)
        have E2 := Lib.hid (EC.out c0.1)
        clear ED EC sg
        go_wp2_with (first | (go_at_call 215; first | (with_reducible refine (ST.out).mono ?_; rintro e w1 ⟨rfl, hI⟩; have ST2 := Lib.hid (LuI.step hI ((c - 65) % 10) (by omega) (by omega) (by omega)); clear hI) | (with_reducible refine (ST2.out).mono ?_; rintro e w2 ⟨rfl, hI⟩; have I2 := Lib.hid hI; clear hI)))
        go_roundg (s.size - (k + 1))
        case measure => omega
        case rel => exact ⟨k + 1, _, _, by go_num, by omega, by omega, I2, E2⟩
    · have e : s.size = k := by omega
      have hltz : ¬ (k : Int) < (s.size : Int) := by omega
      go_wp2
      go_end0
      exact ⟨rfl, ev, od, I.out, E.out⟩
theorem LuI.new (w : World) (t : TypeId) : LuI w ((w.alloc (.cells #[.int .i64 0] t)).alloc (.cells #[.int .i64 0] t)) w.heap.size (w.heap.size + 1) 0 0 := by
  have z : (w.alloc (.cells #[.int .i64 0] t)).heap.size = w.heap.size + 1 := by simp
  refine ⟨bl_alloc (bl_alloc (bl_refl w) _) _, ⟨Nat.le_refl _, by omega, by omega⟩, ?_, ?_, ?_, ?_⟩
  · rw [World.cell?_alloc_lt _ _ _ (by rw [z]; show w.heap.size < w.heap.size + 1; omega)]
    simp
  · rw [← z, World.cell?_alloc_new]
    rfl
  · rw [World.frozen?_alloc_old _ _ _ (by rw [z]; show w.heap.size ≠ w.heap.size + 1; omega), World.frozen?_alloc_new]
  · rw [← z, World.frozen?_alloc_new]
theorem luhn_any (s : ByteArray) (hs : s.size ≤ 140737488351232) (hsg : ∀ i, i < s.size → SignI (byteAt s i)) (w : World) :
    Calls Tryz.prog 160 #[.string s] w fun e w' => e = .returned (.int .i64 (luhn1 (spreadS s s.size) % 10)) ∧ Below w.heap.size w w' := by
  have EL := Lib.hid (each_luhn s w.heap.size (w.heap.size + 1) w _ (LuI.new w 3) hs hsg)
  clear hsg
  go_enter Tryz.func160, Tryz.ntmps160
  go_wp2_with (first | (go_at_call 214; with_reducible refine (EL.out).mono ?_; rintro e w1 ⟨rfl, ev, od, hI, hE⟩; have I := Lib.hid hI; have E := Lib.hid hE; have ce := I.out.ce; clear hI hE))
  go_ret
  exact ⟨by rw [← E.out.1]; rfl, I.out.below⟩
end Go.Proofs.YtblfobepaipebaaGreatDoor
