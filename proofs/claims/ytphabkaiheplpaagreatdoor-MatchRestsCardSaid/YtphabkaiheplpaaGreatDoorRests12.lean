/- Joined texts of this proof: Isin. -/
import Derived.Laws.IdiomStrings
import Derived.Test.YtphabkaiheplpaaGreatDoorRests2
import Derived.Test.YtphabkaiheplpaaGreatDoorRests6
import Derived.Test.YtphabkaiheplpaaGreatDoorRests7
/- codes.Isin, Currency and the document's own, by contracts. -/
set_option linter.unusedVariables false
set_option linter.unusedSimpArgs false
set_option maxRecDepth 100000
namespace Go.Proofs.YtphabkaiheplpaaGreatDoor
open Go.RowKit

def formI : ByteArray := ⟨#[67, 67, 83, 83, 83, 83, 83, 83, 83, 83, 83, 68]⟩
def formC : ByteArray := ⟨#[67, 67, 67]⟩
theorem letsI : Lets formI := lets_of (by decide)
theorem letsC : Lets formC := lets_of (by decide)
theorem fits_sign {f c : Int} (h : fitsI f c = true) : SignI c := by
  unfold fitsI capI digI at h
  unfold SignI
  split at h
  · simp at h; omega
  · split at h
    · simp at h; omega
    · simp at h; omega
theorem has_fits {s f : ByteArray} (h : hasOK s f = true) : s.size = f.size ∧ ∀ i, i < s.size → SignI (byteAt s i) := by
  unfold hasOK at h
  simp only [Bool.and_eq_true, decide_eq_true_eq] at h
  refine ⟨h.1, fun i hi => ?_⟩
  have := List.all_eq_true.1 h.2 i (List.mem_range.2 (by omega))
  exact fits_sign this
def sumOK (s : ByteArray) : Bool := luhn1 (spreadS s s.size) % 10 == 0
def isinOK (s : ByteArray) : Bool := hasOK s formI && sumOK s
def zeros12 : Array Value := codeV fun _ => 0
theorem zeros12_one : zeros12.all (·.oneCell') = true := by simp [zeros12, codeV, Value.oneCell']
/-- What the bytes of twelve signs are as cells. -/
def bytes12 (s : ByteArray) : Array Value := (s.data.map fun b => Value.int .u8 b.toNat)
theorem bytes12_one (s : ByteArray) : (bytes12 s).all (·.oneCell') = true := by
  rw [Array.all_eq_true_iff_forall_mem]
  intro v hv
  obtain ⟨b, _, rfl⟩ := Array.mem_map.1 hv
  rfl
theorem bytes12_load (s : ByteArray) (hs : s.size = 12) (W : World) (g n : Nat) (T : TypeId) (fr : Nat × Nat) (hg : W.heap[g]? = some (.cells (bytesRow s n) T fr)) : (loadVar 23 ⟨g, 0, none⟩).run Tryz.prog W = .ok (.agg (bytes12 s)) W := by
  have hd := code_desc
  cases hu : Tryz.prog.underlying 23 with
  | none => rw [hu] at hd; cases hd
  | some d =>
    rw [hu] at hd
    have h12 : (bytes12 s).size = 12 := by simp [bytes12, hs]
    have := loadVar_part Tryz.prog W g 0 23 (bytes12 s).toList d hu (by cases d <;> simp_all) (by rw [Array.length_toList, h12]; exact code_size) (fun j v hv => by
      rw [cell_of_row W g (0 + j) _ T fr hg, Nat.zero_add]
      obtain ⟨hj, _⟩ := List.getElem?_eq_some_iff.1 hv
      unfold bytesRow
      rw [Array.getElem?_append_left (by simpa [bytes12] using hj), ← Array.getElem?_toList]
      exact hv)
    simpa using this
theorem arrayAt_run (w : World) (a : Option Addr) (l c : Nat) (hl : 12 ≤ l) : (Instr.arrayAt 23 (.slice a l c)).run Tryz.prog w = .ok (.pointer a) w := by
  have h : Tryz.prog.underlying 23 = some (.array 12 5) := Tryz.underlying23
  unfold Instr.arrayAt
  rw [Sem.run_bind, run_underlying h w]
  simp [show ¬ l < 12 by omega]
set_option maxHeartbeats 1000000 in
theorem isin_any (s : ByteArray) (hs : s.size ≤ 140737488351232) (w : World) (hp : PowT w) :
    Calls Tryz.prog 89 #[.string s] w fun e w' => ∃ (cs : Array Value) (E : GErr), e = .returned (.tuple #[.agg cs, E.val]) ∧ (cs.size = 12 ∧ cs.all (·.oneCell') = true) ∧ E.isNil = isinOK s ∧ E.ok ∧ Below w.heap.size w w' := by
  have HA : Hid (∀ w, PowT w → Calls Tryz.prog 83 #[.string s, .string ⟨#[67, 67, 83, 83, 83, 83, 83, 83, 83, 83, 83, 68]⟩] w fun e w' => ∃ E : GErr, e = .returned E.val ∧ E.isNil = hasOK s formI ∧ E.ok ∧ Below w.heap.size w w') := Lib.hid (fun w hp => has_any s formI letsI hs (by decide) w hp)
  have HP := Lib.hid hp
  clear hp
  have B0 := bl_alloc (bl_refl w) (.cells zeros12 23)
  cases hk : hasOK s formI with
  | false =>
    rw [hk] at HA
    have HK : Hid (isinOK s = false) := Lib.hid (by unfold isinOK; rw [hk]; rfl)
    clear hk
    go_enter Tryz.func89, Tryz.ntmps89
    go_upto_region 3 with (go_at_call 83; with_reducible refine (HA.out _ (HP.out.below (bl_alloc (bl_refl w) _))).mono ?_; rintro e w1 ⟨E, rfl, hE, hEok, hb⟩; have ne := fun w => ne_of hE w; have gn := fun x c w => guard_errN E x c w; have HE := Lib.hid hE; clear hE; have HB := Lib.hid hb; clear hb)
    have hg := heap_kept HB.out
    have HS := Lib.hid (code_store zeros12 _ rfl rfl zeros12_one w1 w.heap.size _ hg)
    have HL := Lib.hid (code_load zeros12 rfl (w1.setRow w.heap.size zeros12) w.heap.size _ _ (setRow_heap w1 w.heap.size _ zeros12 _ _ hg))
    have HB2 := Lib.hid (bl_setRow (bl_then (bl_alloc (bl_refl w) _) HB.out) (Nat.le_refl _) zeros12)
    clear hg
    go_wp2_with (refine wpList_store_plain rfl rfl 23 (.tmp 2) (.tmp 9) rfl ⟨w.heap.size, 0, none⟩ (.agg zeros12) rfl rfl HS.out ?_)
    exact bodyPost_ret (v := .tuple #[.agg zeros12, E.val]) (results_cell_tmp Tryz.results89 _ rfl HL.out rfl) rfl ⟨_, E, rfl, ⟨rfl, zeros12_one⟩, by rw [HE.out, HK.out], hEok, HB2.out⟩
  | true =>
    rw [hk] at HA
    obtain ⟨h12, hsg⟩ := has_fits hk
    have h12' : s.size = 12 := h12
    have LU := Lib.hid (fun w => luhn_any s hs hsg w)
    cases hl : sumOK s with
    | false =>
      have HK : Hid (isinOK s = false) := Lib.hid (by unfold isinOK; rw [hk, hl]; rfl)
      unfold sumOK at hl
      have hlb : (luhn1 (spreadS s s.size) % 10 != 0) = true := by simp only [bne, hl]; rfl
      generalize luhn1 (spreadS s s.size) % 10 = m at LU hlb
      clear hk hl hsg h12 h12'
      go_enter Tryz.func89, Tryz.ntmps89
      go_upto_region 5 with (first | (go_at_call 83; with_reducible refine (HA.out _ (HP.out.below (bl_alloc (bl_refl w) _))).mono ?_; rintro e w1 ⟨E, rfl, hE, hEok, hb⟩; have ne := fun w => ne_of hE w; have gn := fun x c w => guard_errN E x c w; have HE := Lib.hid hE; clear hE; have HB := Lib.hid hb; clear hb) | (go_at_call 120; with_reducible refine (LU.out _).mono ?_; rintro e w2 ⟨rfl, hb2⟩; have HB' := Lib.hid (bl_then HB.out hb2); clear hb2))
      have hg := heap_kept HB'.out
      have HS := Lib.hid (code_store zeros12 _ rfl rfl zeros12_one w2 w.heap.size _ hg)
      have HL := Lib.hid (code_load zeros12 rfl (w2.setRow w.heap.size zeros12) w.heap.size _ _ (setRow_heap w2 w.heap.size _ zeros12 _ _ hg))
      have HB2 := Lib.hid (bl_setRow (bl_then (bl_alloc (bl_refl w) _) HB'.out) (Nat.le_refl _) zeros12)
      clear hg
      go_wp2_with (refine wpList_store_plain rfl rfl 23 (.tmp 2) (.tmp 14) rfl ⟨w.heap.size, 0, none⟩ (.agg zeros12) rfl rfl HS.out ?_)
      exact bodyPost_ret (v := .tuple #[.agg zeros12, (GErr.codes s 7).val]) (results_cell_tmp Tryz.results89 _ rfl HL.out rfl) rfl ⟨_, .codes s 7, rfl, ⟨rfl, zeros12_one⟩, by rw [HK.out]; rfl, .inr (by simp [GErr.num]), HB2.out⟩
    | true =>
      have HK : Hid (isinOK s = true) := Lib.hid (by unfold isinOK; rw [hk, hl]; rfl)
      unfold sumOK at hl
      have hlb : (luhn1 (spreadS s s.size) % 10 != 0) = false := by simp only [bne, hl]; rfl
      generalize luhn1 (spreadS s s.size) % 10 = m at LU hlb
      clear hk hl hsg h12
      have H12 := Lib.hid h12'
      go_enter Tryz.func89, Tryz.ntmps89
      go_upto_region 6 with (first | (go_at_call 83; with_reducible refine (HA.out _ (HP.out.below (bl_alloc (bl_refl w) _))).mono ?_; rintro e w1 ⟨E, rfl, hE, hEok, hb⟩; have ne := fun w => ne_of hE w; have gn := fun x c w => guard_errN E x c w; have HE := Lib.hid hE; clear hE; have HB := Lib.hid hb; clear hb) | (go_at_call 120; with_reducible refine (LU.out _).mono ?_; rintro e w2 ⟨rfl, hb2⟩; have HB' := Lib.hid (bl_then HB.out hb2); clear hb2))
      have hg := heap_kept HB'.out
      have hlt : w.heap.size ≠ w2.heap.size := by have := new_size HB'.out; omega
      obtain ⟨cap, hcap⟩ : ∃ c, c = grownCap w2 s.size 0 5 := ⟨_, rfl⟩
      have hge : 12 ≤ cap := by rw [hcap, ← h12']; exact grownCap_ge w2 s.size 0 5
      have HC := Lib.hid (run_bytes_of_string (P := Tryz.prog) w2 9 167 5 s Tryz.underlying9 Tryz.underlying167 Tryz.underlying5)
      rw [← hcap, h12'] at HC
      obtain ⟨W3, hW3⟩ : ∃ W, W = (w2.drew.alloc (.cells (bytesRow s cap) 5 ((bytesRow s cap).size, (bytesRow s cap).size + 1))) := ⟨_, rfl⟩
      rw [← hW3] at HC
      have hg3 : W3.heap[w2.heap.size]? = some (.cells (bytesRow s cap) 5 ((bytesRow s cap).size, (bytesRow s cap).size + 1)) := by rw [hW3]; exact heap_alloc_new w2.drew _
      have hg4 : W3.heap[w.heap.size]? = some (.cells zeros12 23 (0, 0)) := by rw [hW3]; exact (heap_alloc_old w2.drew _ (by have := new_size HB'.out; exact this)).trans hg
      have HB3 : Hid (Below w.heap.size w W3) := Lib.hid (by rw [hW3]; exact bl_alloc (bl_drew (bl_then (bl_alloc (bl_refl w) _) HB'.out)) _)
      have LB := Lib.hid (bytes12_load s h12' W3 w2.heap.size cap _ _ hg3)
      have z12 : (bytes12 s).size = 12 := by simp [bytes12, h12']
      have HS := Lib.hid (code_store (bytes12 s) _ z12 rfl (bytes12_one s) W3 w.heap.size _ hg4)
      have HL := Lib.hid (code_load (bytes12 s) z12 (W3.setRow w.heap.size (bytes12 s)) w.heap.size _ _ (setRow_heap W3 w.heap.size _ (bytes12 s) _ _ hg4))
      have HB2 := Lib.hid (bl_setRow HB3.out (Nat.le_refl _) (bytes12 s))
      have AR := Lib.hid (fun w => arrayAt_run w (some ⟨w2.heap.size, 0, none⟩) 12 cap (Nat.le_refl _))
      have BZ := Lib.hid (show (bytes12 s).size = 12 ∧ (bytes12 s).all (·.oneCell') = true from ⟨z12, bytes12_one s⟩)
      clear hg hg3 hg4 hcap hW3 z12 hlt h12'
      generalize bytes12 s = BS at LB HS HL HB2 BZ
      have hcv := HC.out
      have ha := AR.out
      go_wp2_with (first | (refine wpList_load_known rfl 23 (.tmp 21) rfl ⟨w2.heap.size, 0, none⟩ (.agg BS) rfl LB.out ?_) | refine wpList_store_plain rfl rfl 23 (.tmp 2) (.tmp 22) rfl ⟨w.heap.size, 0, none⟩ (.agg BS) rfl rfl HS.out ?_)
      exact bodyPost_ret (v := .tuple #[.agg BS, .nilIface]) (results_cell_tmp Tryz.results89 _ rfl HL.out rfl) rfl ⟨_, .nil, rfl, BZ.out, by rw [HK.out]; rfl, .inl rfl, HB2.out⟩
theorem currency_any (s : ByteArray) (hs : s.size ≤ 140737488351232) (w : World) (hp : PowT w) :
    Calls Tryz.prog 98 #[.string s] w (Checked (hasOK s formC) w) := by
  have HA : Hid (Calls Tryz.prog 83 #[.string s, .string ⟨#[67, 67, 67]⟩] w fun e w' => ∃ E : GErr, e = .returned E.val ∧ E.isNil = hasOK s formC ∧ E.ok ∧ Below w.heap.size w w') := Lib.hid (has_any s formC letsC hs (by decide) w hp)
  clear hp
  go_enter Tryz.func98, Tryz.ntmps98
  go_wp2_with (go_at_call 83; with_reducible refine (HA.out).mono ?_; rintro e w1 ⟨E, rfl, hE, hEok, hb⟩)
  go_ret
  exact ⟨E, rfl, hE, hEok, hb⟩
theorem refCurrency_any (s : ByteArray) (hs : s.size ≤ 140737488351232) (w : World) :
    Calls Tryz.prog 135 #[.string s] w (CheckedI (hasOK s formC) w) := by
  have HA : Hid (Calls Tryz.prog 154 #[.string s, .string ⟨#[67, 67, 67]⟩] w fun e w' => ∃ n a : Int, e = .returned (.tuple #[.int .i64 n, .int .i64 a]) ∧ (n == 0) = hasOK s formC ∧ Below w.heap.size w w') := Lib.hid (refHas_any s formC letsC hs (by decide) w)
  go_enter Tryz.func135, Tryz.ntmps135
  go_wp2_with (go_at_call 154; with_reducible refine (HA.out).mono ?_; rintro e w1 ⟨n, a, rfl, hE, hb⟩)
  go_ret2
  exact ⟨n, a, rfl, hE, hb⟩
end Go.Proofs.YtphabkaiheplpaaGreatDoor
