/- The twelve bytes of a code as a text; the document's Isin, by contracts. -/
import Derived.Test.YtblfobepaipebaaGreatDoorAcct
set_option linter.unusedVariables false
set_option linter.unusedSimpArgs false
set_option maxRecDepth 100000
namespace Go.Proofs.YtblfobepaipebaaGreatDoor
open Go.RowKit Go.Shelf

def codeL (f : Nat → Int) : List UInt8 := (List.range 12).map fun i => UInt8.ofNat (f i).toNat
def codeB (f : Nat → Int) : ByteArray := ⟨(codeL f).toArray⟩
theorem codeB_size (f : Nat → Int) : (codeB f).size = 12 := by simp [codeB, codeL, ByteArray.size]
def codeU (f : Nat → Int) (k : Nat) : List Value := (List.range k).map fun i => .int .u8 (f i)
theorem codeU_next (f : Nat → Int) (k : Nat) : codeU f (k + 1) = codeU f k ++ [.int .u8 (f k)] := by simp [codeU, List.range_succ]
theorem codeU_length (f : Nat → Int) (k : Nat) : (codeU f k).length = k := by simp [codeU]
theorem u8_back {n : Int} (h : 0 ≤ n ∧ n ≤ 255) : ((UInt8.ofNat n.toNat).toNat : Int) = n := by
  rw [UInt8.toNat_ofNat_of_lt' (by show n.toNat < 256; omega)]
  omega
theorem codeV_at (f : Nat → Int) (k : Nat) (hk : k < 12) : (codeV f)[k]? = some (.int .u8 (f k)) := by
  have : k = 0 ∨ k = 1 ∨ k = 2 ∨ k = 3 ∨ k = 4 ∨ k = 5 ∨ k = 6 ∨ k = 7 ∨ k = 8 ∨ k = 9 ∨ k = 10 ∨ k = 11 := by omega
  rcases this with rfl | rfl | rfl | rfl | rfl | rfl | rfl | rfl | rfl | rfl | rfl | rfl <;> rfl
theorem A_infoB : (Tryz.prog.info? 5).map (fun i => (i.zero, i.size, i.bytes)) = some (some (.int .u8 0), 1, 1) := by kernel_rfl
/-- 'string(b)' where b's cells are the bytes of a code. -/
theorem code_text (f : Nat → Int) (hf : ∀ i, 0 ≤ f i ∧ f i ≤ 255) (W : World) (a : Addr) (cap : Nat) (hc : ∀ j, j < 12 → W.cell? (a.add j) = some (.int .u8 (f j))) :
    (convert 122 9 (.slice (some a) 12 cap)).run Tryz.prog W = .ok (.string (codeB f)) W := by
  have hl : (codeL f).length = 12 := by simp [codeL]
  have := run_convert_bytes_back (P := Tryz.prog) W 122 9 5 a cap (codeL f) Tryz.underlying122 Tryz.underlying5 Tryz.underlying9 (fun j hj => by
    rw [hc j (by omega)]
    have e : (codeL f)[j] = UInt8.ofNat (f j).toNat := by simp [codeL]
    rw [e, u8_back (hf j)])
  rw [hl] at this
  exact this
theorem own_text (f : Nat → Int) (hf : ∀ i, 0 ≤ f i ∧ f i ≤ 255) (W : World) (base : Nat) (A : Option Addr) (c : Nat) (h : W.ownsRow base 5 1 (.slice A 12 c) 12 (codeU f 12)) :
    (convert 122 9 (.slice A 12 c)).run Tryz.prog W = .ok (.string (codeB f)) W := by
  rcases h.2 with ⟨h1, h2⟩ | ⟨g, cap, cur, e, hb, hg, h1, h2, h3, h4⟩
  · cases h2
  · injection e with e1 e2 e3
    subst e1 e3
    refine code_text f hf W ⟨g, 0, none⟩ c fun j hj => ?_
    have hadd : (⟨g, 0, none⟩ : Addr).add j = ⟨g, j, none⟩ := by unfold Addr.add; split <;> simp_all
    rw [hadd, cell_of_row W g j cur _ _ hg, ← Array.getElem?_toList]
    have : (cur.toList.take (12 * 1))[j]? = (codeU f 12)[j]? := by rw [h4]
    rw [List.getElem?_take_of_lt (by omega)] at this
    rw [this]
    simp [codeU, hj]
theorem refCode_any (f : Nat → Int) (hf : ∀ i, 0 ≤ f i ∧ f i ≤ 255) (w : World) :
    Calls Tryz.prog 91 #[.agg (codeV f)] w fun e w' => e = .returned (.string (codeB f)) ∧ Below w.heap.size w w' := by
  obtain ⟨i0, hi, hz0, hz1, hz2⟩ := Sp.info_of A_infoB
  have HF := Lib.hid hf
  clear hf
  have HA := Lib.hid (codeV_at f)
  have hz : (w.alloc (.cells (codeV f) 23)).heap.size = w.heap.size + 1 := by simp
  have HG := Lib.hid (heap_alloc_new w (.cells (codeV f) 23))
  generalize hcs : codeV f = CS at HA HG hz ⊢
  clear hcs
  go_enter Tryz.func91, Tryz.ntmps91
  go_wp2
  go_loopg [3, 4] 12 (fun g v vi wr => ∃ (k : Nat), vi = .int .i64 k ∧ k ≤ 12 ∧ 12 - k ≤ g ∧ Hid (wr.ownsRow (w.heap.size + 1) 5 1 v k (codeU f k)) ∧ Hid (Below (w.heap.size + 1) (w.alloc (.cells CS 23)) wr))
  case atStart => exact ⟨0, rfl, by omega, by omega, (show World.ownsRow _ _ _ _ _ _ _ from Sp.ow_nil _ _ _ _), by have := bl_refl (w.alloc (.cells CS 23)); rw [hz] at this; exact Lib.hid this⟩
  case round =>
    obtain ⟨k, rfl, hk, hg, OW, HB⟩ := hrel
    obtain ⟨A1, c1, e1⟩ := Sp.ow_slice OW.out
    subst e1
    by_cases hlt : k < 12
    · have hltz : (k : Int) < 12 := by omega
      have hsz := HB.out.size
      have hc : wr.cell? ⟨w.heap.size, k, none⟩ = some (.int .u8 (f k)) := by
        have : wr.heap[w.heap.size]? = some (.cells CS 23 (0, 0)) := by rw [HB.out.block w.heap.size (by omega)]; exact HG.out
        rw [cell_of_row wr w.heap.size k CS _ _ this]
        exact HA.out k hlt
      have NX := Lib.hid (codeU_next f k)
      obtain ⟨x, hx⟩ : ∃ x, x = f k := ⟨_, rfl⟩
      rw [← hx] at hc NX
      clear hx
      have hsz2 : w.heap.size + 1 ≤ wr.heap.size := by rw [hz] at hsz; exact hsz
      clear hsz
      go_wp2_with (first | (at_builtin; refine wpList_append_own _ rfl _ _ 122 rfl (w.heap.size + 1) 5 i0 (.int .u8 0) 1 1 Tryz.underlying122 hi hz0 hz1 hz2 rfl (by decide) _ _ _ rfl (OW.out.alloc _) ⟨wr.heap.size, 0, none⟩ 1 1 [.int .u8 x] rfl rfl ?c1 ?c2 ?c3 ?c4 ?c5 ?_))
      case c1 => exact cell_one_new _ _ _
      case c2 => simp [Value.oneCell']
      case c3 => simp only [maxLen]; omega
      case c4 => omega
      case c5 => simp; omega
      intro v' w1 hown' hgrow _
      have hb1 := Lib.hid (Sp.ow_below _ OW.out HB.out hsz2 hgrow)
      have OW2 : Hid (w1.ownsRow (w.heap.size + 1) 5 1 v' (k + 1) (codeU f (k + 1))) := (show World.ownsRow _ _ _ _ _ _ _ from by
        rw [NX.out]
        exact hown')
      clear hown' hgrow
      go_wp2
      go_roundg (12 - (k + 1))
      case measure => omega
      case rel => exact ⟨k + 1, by go_num, by omega, by omega, OW2, hb1⟩
    · have e : k = 12 := by omega
      subst e
      have CT := own_text f HF.out wr _ A1 c1 OW.out
      have HB3 : Hid (Below w.heap.size w wr) := Lib.hid (bl_then (bl_alloc (bl_refl w) (.cells CS 23)) (by rw [hz]; exact HB.out))
      clear hlt HB OW
      go_wp2
      go_ret
      exact ⟨rfl, HB3.out⟩
/-! ### the document's Isin -/
theorem own_read {W : World} {base n : Nat} {A : Option Addr} {c : Nat} {ds : List Int} (h : W.ownsRow base 3 1 (.slice A n c) n (Sp.ints ds)) (hn : ds.length = n) :
    ∀ i, i < n → ∃ ad, A = some ad ∧ W.cell? (ad.add i) = some (.int .i64 (ds.getD i 0)) := by
  rcases h.2 with ⟨h1, h2⟩ | ⟨g, cap, cur, e, hb, hg, h1, h2, h3, h4⟩
  · intro i hi; omega
  · injection e with e1 e2 e3
    subst e1 e3
    intro i hi
    refine ⟨_, rfl, ?_⟩
    have hadd : (⟨g, 0, none⟩ : Addr).add i = ⟨g, i, none⟩ := by unfold Addr.add; split <;> simp_all
    rw [hadd, cell_of_row W g i cur _ _ hg, ← Array.getElem?_toList]
    have : (cur.toList.take (n * 1))[i]? = (Sp.ints ds)[i]? := by rw [h4]
    rw [List.getElem?_take_of_lt (by omega)] at this
    rw [this]
    have hil : i < ds.length := by omega
    simp [Sp.ints, List.getElem?_map, List.getElem?_eq_getElem hil, List.getD_eq_getElem?_getD]
theorem refIsin_any (s : ByteArray) (hs : s.size ≤ 140737488351232) (w : World) :
    Calls Tryz.prog 90 #[.string s] w fun e w' => ∃ n a : Int, e = .returned (.tuple #[.int .i64 n, .int .i64 a]) ∧ (n == 0) = isinOK s ∧ Below w.heap.size w w' := by
  have HA : Hid (∀ w, Calls Tryz.prog 170 #[.string s, .string ⟨#[67, 67, 83, 83, 83, 83, 83, 83, 83, 83, 83, 68]⟩] w fun e w' => ∃ n a : Int, e = .returned (.tuple #[.int .i64 n, .int .i64 a]) ∧ (n == 0) = hasOK s formI ∧ Below w.heap.size w w') := Lib.hid (fun w => refHas_any s formI letsI hs (by decide) w)
  cases hk : hasOK s formI with
  | false =>
    rw [hk] at HA
    have HK : Hid (isinOK s = false) := Lib.hid (by unfold isinOK; rw [hk]; rfl)
    clear hk
    go_enter Tryz.func90, Tryz.ntmps90
    go_wp2_with (go_at_call 170; with_reducible refine (HA.out _).mono ?_; rintro e w1 ⟨n, a, rfl, hn, hb⟩)
    go_ret2
    first | exact ⟨n, a, rfl, by rw [HK.out]; exact hn, hb⟩ | exact ⟨n, ⟨a, rfl⟩, by rw [HK.out]; exact hn, hb⟩
  | true =>
    rw [hk] at HA
    obtain ⟨h12, hsg⟩ := has_fits hk
    have h12' : s.size = 12 := h12
    have LS := Lib.hid (fun w => refSpread_any s (by omega) hsg w)
    have LL : Hid (∀ (A : Option Addr) (c : Nat) (W : World) (base : Nat), W.ownsRow base 3 1 (.slice A (spreadS s s.size).length c) (spreadS s s.size).length (Sp.ints (spreadS s s.size)) → Calls Tryz.prog 171 #[.slice A (spreadS s s.size).length c] W fun e w' => e = .returned (.int .i64 (luhn1 (spreadS s s.size))) ∧ W = w') :=
      Lib.hid (fun A c W base h => refLuhn_any A _ c (spreadS s s.size) W rfl (spread_dig s.size hsg) (own_read h rfl) (by have := spread_len s s.size; omega))
    have HK : Hid (isinOK s = (luhn1 (spreadS s s.size) % 10 == 0)) := Lib.hid (by unfold isinOK sumOK; rw [hk]; rfl)
    have h0 : 0 ≤ luhn1 (spreadS s s.size) := (alt_nonneg false (spreadS s s.size).reverse (fun d hd => spread_dig s.size hsg d (List.mem_reverse.1 hd))).1
    generalize spreadS s s.size = ds at LS LL HK h0
    generalize luhn1 ds = m at LL HK h0
    have q1 : m.tmod 10 = m % 10 := Int.tmod_eq_emod_of_nonneg h0
    clear hk hsg h12 h12'
    cases hm : (m % 10 == 0) with
    | true =>
      rw [hm] at HK
      have hm2 : (m % 10 != 0) = false := by simp only [bne, hm]; rfl
      clear hm
      go_enter Tryz.func90, Tryz.ntmps90
      go_wp2_with (first | (go_at_call 170; with_reducible refine (HA.out _).mono ?_; rintro e w1 ⟨n, a, rfl, hn, hb⟩) | (go_at_call 172; with_reducible refine (LS.out _).mono ?_; rintro e w2 ⟨v, rfl, hown, hb2⟩; obtain ⟨A1, c1, e1⟩ := Sp.ow_slice hown; subst e1; have LU := Lib.hid (LL.out A1 c1 _ _ hown); clear hown) | (go_at_call 171; with_reducible refine (LU.out).mono ?_; rintro e w3 ⟨rfl, rfl⟩))
      go_ret2
      first | exact ⟨n, a, rfl, by rw [HK.out]; exact hn, bl_then hb hb2⟩ | exact ⟨n, ⟨a, rfl⟩, by rw [HK.out]; exact hn, bl_then hb hb2⟩
    | false =>
      rw [hm] at HK
      have hm2 : (m % 10 != 0) = true := by simp only [bne, hm]; rfl
      clear hm
      go_enter Tryz.func90, Tryz.ntmps90
      go_wp2_with (first | (go_at_call 170; with_reducible refine (HA.out _).mono ?_; rintro e w1 ⟨n, a, rfl, hn, hb⟩) | (go_at_call 172; with_reducible refine (LS.out _).mono ?_; rintro e w2 ⟨v, rfl, hown, hb2⟩; obtain ⟨A1, c1, e1⟩ := Sp.ow_slice hown; subst e1; have LU := Lib.hid (LL.out A1 c1 _ _ hown); clear hown) | (go_at_call 171; with_reducible refine (LU.out).mono ?_; rintro e w3 ⟨rfl, rfl⟩))
      go_ret2
      first | exact ⟨7, 0, rfl, by rw [HK.out]; rfl, bl_then hb hb2⟩ | exact ⟨7, ⟨0, rfl⟩, by rw [HK.out]; rfl, bl_then hb hb2⟩
end Go.Proofs.YtblfobepaipebaaGreatDoor
