/- slices' SortStableFunc over a fresh row of places: what lies in it behind the call is the places in order, equal keys in the order of the places. -/
import Derived.Test.YtccnfklemalmeaaSymB
set_option linter.unusedVariables false
set_option linter.unusedSimpArgs false
set_option maxRecDepth 100000
namespace Go.Proofs.Ytccnfklemalmeaa
open Go.RowKit Go.Sort Go.Lib Go.Shelf

/-- Where the first rounds stand. -/
structure St1 (key : Nat → Int) (d : Array Nat) (a : Nat) (dk : Array Nat) : Prop where
  q : ∃ q, a = q * 20
  pm : PermIn 0 d.size d dk
  bk : Blk key d.size 20 dk 0 a
  fr : Fresh a d.size dk
theorem St1.start {key : Nat → Int} {d : Array Nat} (h : Fresh 0 d.size d) : St1 key d 0 d := ⟨⟨0, by omega⟩, permIn_refl _ _ _, Blk.none, h⟩
theorem St1.step {key : Nat → Int} {d dk d' : Array Nat} {a : Nat} (h : St1 key d a dk) (hb : a + 20 ≤ d.size) (hi : d' = insertionSort (fun x y => decide (cmpKey key x y < 0)) dk a (a + 20)) : d'.size = d.size ∧ St1 key d (a + 20) d' := by
  obtain ⟨⟨q, rfl⟩, h2, h3, h4⟩ := h
  have hs : dk.size = d.size := h2.1
  obtain ⟨g1, g2⟩ := good_ins (key := key) (b := q * 20 + 20) h4 hb (by omega) (by omega)
  rw [← hi] at g1 g2
  refine ⟨g1.1.trans hs, ⟨q + 1, by omega⟩, perm_trans h2 (perm_mono g1 (by omega) hb (by omega)), ?_, h4.rest (by omega) fun i i1 => g1.2.1 i (.inr i1)⟩
  have e : min (q * 20 + 20) d.size = q * 20 + 20 := by omega
  exact h3.snoc (by omega) (by rw [e]; exact g1) (by rw [e]; exact g2)
/-- Where the merges stand: between two rounds. -/
structure St2 (key : Nat → Int) (d : Array Nat) (bs : Nat) (dk : Array Nat) : Prop where
  pm : PermIn 0 d.size d dk
  bk : Blk key d.size bs dk 0 d.size
theorem St1.last {key : Nat → Int} {d dk d' : Array Nat} {a : Nat} (h : St1 key d a dk) (ha : a ≤ d.size) (hb : d.size < a + 20) (hi : d' = insertionSort (fun x y => decide (cmpKey key x y < 0)) dk a d.size) : d'.size = d.size ∧ St2 key d 20 d' := by
  obtain ⟨⟨q, rfl⟩, h2, h3, h4⟩ := h
  have hs : dk.size = d.size := h2.1
  obtain ⟨g1, g2⟩ := good_ins (key := key) (b := d.size) h4 (Nat.le_refl _) ha (by omega)
  rw [← hi] at g1 g2
  have e : min (q * 20 + 20) d.size = d.size := by omega
  refine ⟨g1.1.trans hs, perm_trans h2 (perm_mono g1 (by omega) (Nat.le_refl _) (by omega)), ?_⟩
  have := h3.snoc ha (by rw [e]; exact g1) (by rw [e]; exact g2)
  exact this.upto (by omega)
/-- Within a round. -/
structure St3 (key : Nat → Int) (d : Array Nat) (bs a : Nat) (dk : Array Nat) : Prop where
  q : ∃ q, a = q * (2 * bs)
  pm : PermIn 0 d.size d dk
  bk : Blk key d.size (2 * bs) dk 0 a
  sm : Blk key d.size bs dk a d.size
theorem St2.start {key : Nat → Int} {d dk : Array Nat} {bs : Nat} (h : St2 key d bs dk) : St3 key d bs 0 dk := ⟨⟨0, by omega⟩, h.pm, Blk.none, h.bk⟩
/-- The two parts that a merge is asked of. -/
theorem St3.parts {key : Nat → Int} {d dk : Array Nat} {bs a m b : Nat} (h : St3 key d bs a dk) (hm : a + bs = m) (hmn : m < d.size) (hb : b = min (m + bs) d.size) : SegS key a m dk ∧ SegS key m b dk ∧ CrossS a m b dk ∧ Good key a m dk ∧ Good key m b dk := by
  obtain ⟨⟨q, hq⟩, h2, h3, h4⟩ := h
  obtain ⟨t1, t2⟩ := h4.two hq
  have g1 := t1 (by omega)
  have g2 := t2 (by omega)
  rw [hm] at g1 g2
  rw [← hb] at g2
  have e : min m d.size = m := by omega
  rw [e] at g1
  exact ⟨g1.1, g2.1, g1.cross g2, g1, g2⟩
theorem St3.step {key : Nat → Int} {d dk d' : Array Nat} {bs a m b : Nat} (h : St3 key d bs a dk) (hm : a + bs = m) (hmb : m + bs = b) (hb : b ≤ d.size) (hbs : 0 < bs) (hg : Merged key a b dk d') : d'.size = d.size ∧ St3 key d bs b d' := by
  obtain ⟨p1, p2, p3, p4, p5⟩ := h.parts (b := b) hm (by omega) (by omega)
  obtain ⟨⟨q, hq⟩, h2, h3, h4⟩ := h
  have hs : dk.size = d.size := h2.1
  have gd := p4.merged p5 hg (by omega) (by omega) (by omega)
  have e : min (a + 2 * bs) d.size = b := by omega
  refine ⟨hg.1.1.trans hs, ⟨q + 1, by rw [Nat.succ_mul, ← hq]; omega⟩, perm_trans h2 (perm_mono hg.1 (by omega) hb (by omega)), ?_, h4.rest (by omega) fun i i1 => hg.1.2.1 i (.inr i1)⟩
  rw [hq] at h3 e
  have := h3.snoc (d' := d') (by omega) (by rw [e, ← hq]; exact hg.1) (by rw [e, ← hq]; exact gd)
  rw [← hq] at this
  exact this.upto (by omega)
theorem St3.last {key : Nat → Int} {d dk d' : Array Nat} {bs a m : Nat} (h : St3 key d bs a dk) (hm : a + bs = m) (hmn : m < d.size) (hb : d.size < m + bs) (hg : Merged key a d.size dk d') : d'.size = d.size ∧ St2 key d (2 * bs) d' := by
  obtain ⟨p1, p2, p3, p4, p5⟩ := h.parts (b := d.size) hm (by omega) (by omega)
  obtain ⟨⟨q, hq⟩, h2, h3, h4⟩ := h
  have hs : dk.size = d.size := h2.1
  have gd := p4.merged p5 hg (by omega) (by omega) (by omega)
  have e : min (a + 2 * bs) d.size = d.size := by omega
  refine ⟨hg.1.1.trans hs, perm_trans h2 (perm_mono hg.1 (by omega) (Nat.le_refl _) (by omega)), ?_⟩
  rw [hq] at h3 e
  have := h3.snoc (d' := d') (by omega) (by rw [e, ← hq]; exact hg.1) (by rw [e, ← hq]; exact gd)
  rw [← hq] at this
  exact this.upto (by omega)
theorem St3.none {key : Nat → Int} {d dk : Array Nat} {bs a m : Nat} (h : St3 key d bs a dk) (hm : a + bs = m) (hmn : d.size ≤ m) (ha : a ≤ d.size) : St2 key d (2 * bs) dk := by
  obtain ⟨⟨q, hq⟩, h2, h3, h4⟩ := h
  obtain ⟨t1, t2⟩ := h4.two hq
  have e : min (a + 2 * bs) d.size = d.size := by omega
  have e1 : min (a + bs) d.size = d.size := by omega
  have gd : Good key a d.size dk := by
    by_cases z : a < d.size
    · have := t1 z
      rw [e1] at this
      exact this
    · exact Good.empty (by omega)
  refine ⟨h2, ?_⟩
  rw [hq] at h3 e
  have := h3.snoc (d' := dk) (by omega) (permIn_refl _ _ _) (by rw [e, ← hq]; exact gd)
  rw [← hq] at this
  exact this.upto (by omega)
theorem St2.done {key : Nat → Int} {d dk : Array Nat} {bs : Nat} (h : St2 key d bs dk) (hb : d.size ≤ bs) : SegS key 0 d.size dk := by
  by_cases z : d.size = 0
  · exact fun i j h1 h2 h3 => by omega
  · have := h.bk 0 (by omega) (by omega)
    have e : min (0 * bs + bs) d.size = d.size := by omega
    have e0 : 0 * bs = 0 := by omega
    rw [e, e0] at this
    exact this.1

set_option maxHeartbeats 8000000 in
theorem stable_any {enc : Nat → Value} {key : Nat → Int} {g : Nat} {cb : Array Value} {w0 : World} {blk off : Nat} {d0 : Array Nat} (E : SortE enc key g cb w0 blk off d0) (cap : Nat) (d : Array Nat) (w : World) (hs : d.size = d0.size) (S : SW enc w0 blk off d w) (hf : Fresh 0 d.size d) :
    Calls Try.prog 20 #[.slice (some ⟨blk, off, none⟩) d.size cap, .int .i64 d.size, .func (.func g) #[] cb] w fun e w' => e = .returned (.tuple #[]) ∧ ∃ d', SW enc w0 blk off d' w' ∧ PermIn 0 d.size d d' ∧ SegS key 0 d.size d' := by
  have HE := Lib.hid E
  have S0 : Aside (SW enc w0 blk off d w) := S
  have HS := Lib.hid hs
  have hsz : d.size < 2305843009213693952 := by have := E.sz; omega
  have T0 : Aside (St1 key d 0 d) := St1.start hf
  clear S hs hf E
  go_enter Try.func20, Try.ntmps20
  go_wp2
  go_loopg [7, 8] d.size (fun gg va vb wr => ∃ (a b : Nat) (dk : Array Nat), va = .int .i64 a ∧ vb = .int .i64 b ∧ a + 20 = b ∧ a ≤ d.size ∧ d.size - a ≤ gg ∧ Hid (dk.size = d.size) ∧ Aside (SW enc w0 blk off dk wr) ∧ Aside (St1 key d a dk))
  case atStart => exact ⟨0, 20, d, rfl, rfl, by omega, by omega, by omega, rfl, S0, T0⟩
  case round =>
    clear S0 T0
    obtain ⟨a, b, dk, rfl, rfl, hab, han, hg, hsk, S1, T1⟩ := hrel
    by_cases hle : b ≤ d.size
    · have hlez : (b : Int) ≤ (d.size : Int) := by omega
      obtain ⟨b2, hb2⟩ : ∃ q, b + 20 = q := ⟨_, rfl⟩
      have eb : (b : Int) + 20 = (b2 : Int) := by omega
      have rb : IntKind.i64.wrap (b2 : Int) = (b2 : Int) := nn_wrap (by omega)
      have hz : dk.size = d.size := hsk.out
      have RT := Lib.hid (insertion_any HE.out.R (cmpKey key) g cb cap a b dk wr HE.out.eg HE.out.cmp (hz.trans HS.out) S1.out (by omega) (by omega) (by omega))
      rw [hz] at RT
      clear hz
      have NX := Lib.hid (T1.out.step (by omega) rfl)
      rw [hab] at NX
      generalize insertionSort (fun x y => decide (cmpKey key x y < 0)) dk a b = d2 at RT NX
      go_wp2_with (first | (go_at_call 22; with_reducible refine (RT.out).mono ?_; rintro e w1 ⟨rfl, S2⟩))
      go_roundg (d.size - b)
      case measure => omega
      case rel => exact ⟨b, b2, d2, rfl, rfl, hb2, hle, by omega, NX.out.1, S2, NX.out.2⟩
    · have hlez : ¬ (b : Int) ≤ (d.size : Int) := by omega
      have hz : dk.size = d.size := hsk.out
      have RT := Lib.hid (insertion_any HE.out.R (cmpKey key) g cb cap a d.size dk wr HE.out.eg HE.out.cmp (hz.trans HS.out) S1.out (by omega) (by omega) (by omega))
      rw [hz] at RT
      clear hz
      have NX := Lib.hid (T1.out.last han (by omega) rfl)
      generalize insertionSort (fun x y => decide (cmpKey key x y < 0)) dk a d.size = d2 at RT NX
      clear S1 T1 hsk
      go_wp2_with (first | (go_at_call 22; with_reducible refine (RT.out).mono ?_; rintro e w1 ⟨rfl, S2⟩))
      have S3 : Aside (SW enc w0 blk off d2 w1) := S2
      clear S2 RT
      go_loopg [6] (d.size - 20) (fun gg vs wr => ∃ (bs : Nat) (dk : Array Nat), vs = .int .i64 bs ∧ 0 < bs ∧ bs ≤ 2 * d.size + 20 ∧ d.size - bs ≤ gg ∧ Hid (dk.size = d.size) ∧ Aside (SW enc w0 blk off dk wr) ∧ Aside (St2 key d bs dk))
      case atStart => exact ⟨20, d2, rfl, by omega, by omega, by omega, NX.out.1, S3, NX.out.2⟩
      case round =>
        clear S3 NX dk d2
        obtain ⟨bs, dk, rfl, hb0, hb1, hg2, hsk, S1, T2⟩ := hrel
        by_cases hlt : bs < d.size
        · have hltz : (bs : Int) < (d.size : Int) := by omega
          obtain ⟨b2, hb2⟩ : ∃ q, bs + bs = q := ⟨_, rfl⟩
          have e2 : 2 * (bs : Int) = (b2 : Int) := by omega
          have e3 : (bs : Int) * 2 = (b2 : Int) := by omega
          have r2 : IntKind.i64.wrap (b2 : Int) = (b2 : Int) := nn_wrap (by omega)
          have e4 : 2 * bs = b2 := by omega
          have HB2 := Lib.hid e4
          clear e4
          have T3 : Aside (St3 key d bs 0 dk) := T2.out.start
          clear T2
          go_wp2
          go_loopg [7, 8] d.size (fun gg va vb wr => ∃ (a b : Nat) (dk : Array Nat), va = .int .i64 a ∧ vb = .int .i64 b ∧ a + b2 = b ∧ a ≤ d.size ∧ d.size - a ≤ gg ∧ Hid (dk.size = d.size) ∧ Aside (SW enc w0 blk off dk wr) ∧ Aside (St3 key d bs a dk))
          case atStart => exact ⟨0, b2, dk, rfl, rfl, by omega, by omega, by omega, hsk, S1, T3⟩
          case round =>
            clear S1 T3 hsk dk
            obtain ⟨a', b', dk, rfl, rfl, hab', han', hg3, hsk, S1, T3⟩ := hrel
            obtain ⟨m, hm⟩ : ∃ q, a' + bs = q := ⟨_, rfl⟩
            have em : (a' : Int) + (bs : Int) = (m : Int) := by omega
            have rm : IntKind.i64.wrap (m : Int) = (m : Int) := nn_wrap (by omega)
            have hz : dk.size = d.size := hsk.out
            by_cases hle2 : b' ≤ d.size
            · have hlez2 : (b' : Int) ≤ (d.size : Int) := by omega
              obtain ⟨b3, hb3⟩ : ∃ q, b' + b2 = q := ⟨_, rfl⟩
              have eb3 : (b' : Int) + (b2 : Int) = (b3 : Int) := by omega
              have rb3 : IntKind.i64.wrap (b3 : Int) = (b3 : Int) := nn_wrap (by omega)
              obtain ⟨p1, p2, p3, p4, p5⟩ := T3.out.parts (b := b') hm (by omega) (by omega)
              have RT := Lib.hid (symMerge_any HE.out cap (b' - a') a' m b' dk wr (Nat.le_refl _) (hz.trans HS.out) S1.out (by omega) (by omega) (by omega) p1 p2 p3)
              rw [hz] at RT
              clear hz p1 p2 p3 p4 p5
              go_wp2_with (first | (go_at_call 23; with_reducible refine (RT.out).mono ?_; rintro e w1 ⟨rfl, d2, S2, M2⟩))
              go_roundg (d.size - b')
              case measure => omega
              case rel =>
                have NX := T3.out.step hm (by omega) hle2 hb0 M2
                exact ⟨b', b3, d2, rfl, rfl, hb3, hle2, by omega, NX.1, S2, NX.2⟩
            · have hlez2 : ¬ (b' : Int) ≤ (d.size : Int) := by omega
              by_cases hmn : m < d.size
              · have hmz : (m : Int) < (d.size : Int) := by omega
                obtain ⟨p1, p2, p3, p4, p5⟩ := T3.out.parts (b := d.size) hm (by omega) (by omega)
                have RT := Lib.hid (symMerge_any HE.out cap (d.size - a') a' m d.size dk wr (Nat.le_refl _) (hz.trans HS.out) S1.out (by omega) (by omega) (by omega) p1 p2 p3)
                rw [hz] at RT
                clear hz p1 p2 p3 p4 p5
                go_wp2_with (first | (go_at_call 23; with_reducible refine (RT.out).mono ?_; rintro e w1 ⟨rfl, d2, S2, M2⟩))
                go_roundg (d.size - b2)
                case measure => omega
                case rel =>
                  have NX := T3.out.last hm hmn (by omega) M2
                  rw [HB2.out] at NX
                  exact ⟨b2, d2, rfl, by omega, by omega, by omega, NX.1, S2, NX.2⟩
              · have hmz : ¬ (m : Int) < (d.size : Int) := by omega
                have NX := Lib.hid (T3.out.none hm (by omega) han')
                rw [HB2.out] at NX
                clear hz
                go_wp2
                go_roundg (d.size - b2)
                case measure => omega
                case rel => exact ⟨b2, dk, rfl, by omega, by omega, by omega, hsk, S1, NX.out⟩
        · have hltz : ¬ (bs : Int) < (d.size : Int) := by omega
          have DN := Lib.hid (T2.out.done (by omega))
          go_wp2
          go_end0
          exact ⟨rfl, dk, S1.out, T2.out.pm, DN.out⟩

/-- slices.SortStableFunc over a fresh row of places. -/
theorem sortStable_any {enc : Nat → Value} {key : Nat → Int} {g : Nat} {cb : Array Value} {w0 : World} {blk off : Nat} {d0 : Array Nat} (E : SortE enc key g cb w0 blk off d0) (cap : Nat) (hf : Fresh 0 d0.size d0) :
    Calls Try.prog 15 #[.slice (some ⟨blk, off, none⟩) d0.size cap, .func (.func g) #[] cb] w0 fun e w' => e = .returned (.tuple #[]) ∧ ∃ d', SW enc w0 blk off d' w' ∧ PermIn 0 d0.size d0 d' ∧ SegS key 0 d0.size d' := by
  have RT := Lib.hid (stable_any E cap d0 w0 rfl (SW.start E.R.hH) hf)
  go_enter Try.func15, Try.ntmps15
  go_wp2_with (first | (go_at_call 20; with_reducible refine (RT.out).mono ?_; rintro e w1 ⟨rfl, d2, S2, M2⟩))
  go_end0
  exact ⟨rfl, d2, S2, M2⟩
end Go.Proofs.Ytccnfklemalmeaa
