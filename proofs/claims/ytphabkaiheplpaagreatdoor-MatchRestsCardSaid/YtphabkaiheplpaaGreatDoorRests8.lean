/- Joined texts of this proof: NLent. -/
import Derived.DeepKeys
import Derived.Laws.AppendOwn
import Derived.Laws.OwnMore
import Derived.Laws.IdiomStrings
import Derived.BigQuiet
import Derived.Deep.QuietTactic
import Derived.WalkSmall
import Derived.Deep.Slices
import Derived.Deep.AppendLies
import Derived.Test.YtphabkaiheplpaaGreatDoorRests2
import Derived.Test.YtphabkaiheplpaaGreatDoorRests7
/- The kit's lists of links that are lent with marks in their spare room: FullLinks, LentLinks, KeptFullLinks, KeptLinks by contracts (no printed text is wanted). -/
set_option linter.unusedVariables false
set_option linter.unusedSimpArgs false
set_option maxRecDepth 100000
namespace Go.Proofs.YtphabkaiheplpaaGreatDoor
open Go.RowKit

theorem ow_nil (W : World) (base : Nat) (e : TypeId) (size : Nat) : W.ownsRow base e size (.slice none 0 0) 0 [] := ⟨by simp, .inl ⟨rfl, rfl⟩⟩
theorem ow_base {w : World} {base : Nat} {e : TypeId} {size n : Nat} {v : Value} {xs : List Value} (h : w.ownsRow base e size v n xs) (k : Nat) (hk : v.ownBlock = some k) : base ≤ k := by
  rcases h.2 with ⟨rfl, _⟩ | ⟨g, cap, cur, rfl, hb, _⟩
  · simp [Value.ownBlock] at hk
  · have : g = k := by simpa [Value.ownBlock] using hk
    omega
/-- Old memory stays where an owned row has grown. -/
theorem ow_below {w wr w1 : World} {base : Nat} {e : TypeId} {size n : Nat} {v : Value} {xs : List Value} (o : Obj) (h : wr.ownsRow base e size v n xs) (hb : Below base w wr) (hB : base ≤ wr.heap.size) (hg : (wr.alloc o).grownBy w1 v.ownBlock) : Below base w w1 :=
  (hb.alloc hB o).grown hg (by simp; omega) (fun k hk => ow_base h k hk)
theorem ow_slice {w : World} {base n : Nat} {e : TypeId} {size : Nat} {v : Value} {xs : List Value} (h : w.ownsRow base e size v n xs) : ∃ A c, v = .slice A n c := by
  rcases h.2 with ⟨rfl, rfl⟩ | ⟨g, cap, cur, rfl, _⟩
  · exact ⟨none, 0, rfl⟩
  · exact ⟨_, cap, rfl⟩
theorem ow_then {w w1 : World} {base n : Nat} {e : TypeId} {size : Nat} {v : Value} {xs : List Value} (h : w.ownsRow base e size v n xs) (hb : Below w.heap.size w w1) : w1.ownsRow base e size v n xs :=
  h.kept ⟨hb.os, hb.tape, hb.output, hb.size, fun i hi _ => hb.block i hi⟩ (row := none) (by by_cases h : v.ownBlock = none <;> simp [h])
theorem bl_later {B : Nat} {w w1 w2 : World} (h : Below B w w1) (hB : B ≤ w1.heap.size) (k : Below w1.heap.size w1 w2) : Below B w w2 :=
  h.trans ⟨k.os, k.tape, k.output, k.size, fun i hi => k.block i (Nat.lt_of_lt_of_le hi hB)⟩
def bytesOf (l : List Int) : ByteArray := ⟨(l.map fun n => UInt8.ofNat n.toNat).toArray⟩
theorem u8_of {n : Int} (h : 0 ≤ n ∧ n ≤ 255) : ((UInt8.ofNat n.toNat).toNat : Int) = n := by
  rw [UInt8.toNat_ofNat_of_lt' (by show n.toNat < 256; omega)]
  omega
theorem text_of (l : List Int) (hl : ∀ n ∈ l, 0 ≤ n ∧ n ≤ 255) (W : World) (a : Addr) (m cap : Nat) (hm : l.length = m) (hc : ∀ j v, (l.map (Value.int .u8))[j]? = some v → W.cell? (a.add j) = some v) :
    (convert 167 9 (.slice (some a) m cap)).run Tryz.prog W = .ok (.string (bytesOf l)) W := by
  subst hm
  have hlen : (l.map fun n => UInt8.ofNat n.toNat).length = l.length := by simp
  have := run_convert_bytes_back (P := Tryz.prog) W 167 9 5 a cap (l.map fun n => UInt8.ofNat n.toNat) Tryz.underlying167 Tryz.underlying5 Tryz.underlying9 (fun j hj => by
    have hj' : j < l.length := by omega
    refine hc j _ ?_
    simp only [List.getElem?_map, List.getElem?_eq_getElem hj', Option.map_some, List.getElem_map]
    rw [u8_of (hl _ (List.getElem_mem hj'))])
  rw [hlen] at this
  exact this
/-- A mark. -/
def mkI (b : Int) : ByteArray := bytesOf [35, 90, 0, b % 256, (b / 256) % 256]
theorem mkI_le (b : Int) : (mkI b).size ≤ 5 := by
  unfold mkI bytesOf
  simp [ByteArray.size]
theorem cells5 (w : World) (t : TypeId) (a b c d e : Value) : ∀ j v, [a, b, c, d, e][j]? = some v → (w.alloc (.cells #[a, b, c, d, e] t)).cell? ((⟨w.heap.size, 0, none⟩ : Addr).add j) = some v := by
  intro j v hv
  have hadd : (⟨w.heap.size, 0, none⟩ : Addr).add j = ⟨w.heap.size, j, none⟩ := by unfold Addr.add; split <;> simp_all
  rw [hadd, World.cell?_alloc_new]
  rw [← hv]
  exact (Array.getElem?_toList (xs := #[a, b, c, d, e])).symm
theorem mark_any (b : Int) (w : World) : Calls Tryz.prog 105 #[.int .i64 90, .int .i64 b] w fun e w' => e = .returned (.string (mkI b)) ∧ Below w.heap.size w w' := by
  have s0 : ((90 : Int) >>> 8) = 0 := by decide
  have s1 : b >>> 8 = b / 256 := Int.shiftRight_eq_div_pow b 8
  have w0 : IntKind.u8.wrap 90 = 90 := by decide
  have w00 : IntKind.u8.wrap 0 = 0 := by decide
  have w1 : IntKind.u8.wrap b = b % 256 := IntKind.wrap_u8 b
  have w2 : IntKind.u8.wrap (b / 256) = b / 256 % 256 := IntKind.wrap_u8 _
  have HC := text_of [35, 90, 0, b % 256, (b / 256) % 256] (fun n hn => by simp at hn; omega) (w.alloc (.cells #[.int .u8 35, .int .u8 90, .int .u8 0, .int .u8 (b % 256), .int .u8 (b / 256 % 256)] 5)) ⟨w.heap.size, 0, none⟩ 5 5 rfl (cells5 w _ _ _ _ _ _)
  have e : bytesOf [35, 90, 0, b % 256, (b / 256) % 256] = mkI b := rfl
  rw [e] at HC
  clear e
  go_enter Tryz.func105, Tryz.ntmps105
  go_wp2
  go_ret
  exact ⟨rfl, bl_alloc (bl_refl w) _⟩
def UptoN (n : Nat) (v : Value) : Prop := ∃ k : Nat, k ≤ n ∧ v = .int .i64 k
/-- A link. -/
abbrev Lk := Int × ByteArray
def lk0 : Lk := (0, ⟨#[]⟩)
theorem mkL_any (b : Int) (w : World) : Calls Tryz.prog 82 #[.int .i64 90, .int .i64 b] w fun e w' => e = .returned (.agg #[.int .i64 (-100), .string (mkI b)]) ∧ Below w.heap.size w w' := by
  have HM := fun W => mark_any b W
  generalize mkI b = x at HM
  go_enter Tryz.func82, Tryz.ntmps82
  go_wp2_with (go_at_call 105; (with_reducible refine (HM _).mono ?_); rintro e w2 ⟨rfl, hb2⟩; have hz := new_size hb2; obtain ⟨kc, kf⟩ := bcell hb2; have HB2 := Lib.hid hb2; clear hb2)
  refine bodyPost_ret (v := .agg #[.int .i64 (-100), .string x]) (by simp [results, Tryz.results82, go_sem, kc, kf, hz]) rfl ⟨rfl, ?_⟩
  exact bl_set (bl_set (bl_then (bl_alloc (bl_refl w) _) HB2.out) (Nat.le_refl _) _) (Nat.le_refl _) _
def lks (xs : List Lk) : List Value := xs.flatMap fun x => [.int .i64 x.1, .string x.2]
theorem lks_append (xs ys : List Lk) : lks (xs ++ ys) = lks xs ++ lks ys := by simp [lks]
theorem lks_length (xs : List Lk) : (lks xs).length = 2 * xs.length := by
  induction xs with
  | nil => rfl
  | cons x l ih => simp [lks] at ih ⊢; omega
theorem lks_snoc (zs : List Lk) {i : Nat} (h : i < zs.length) : lks (zs.take i) ++ [.int .i64 (zs.getD i lk0).1, .string (zs.getD i lk0).2] = lks (zs.take (i + 1)) := by
  rw [List.take_succ_eq_append_getElem h, lks_append, List.getD_eq_getElem?_getD, List.getElem?_eq_getElem h]
  rfl
theorem lks_at (xs : List Lk) {j : Nat} (h : j < xs.length) : (lks xs)[j * 2]? = some (.int .i64 (xs.getD j lk0).1) ∧ (lks xs)[j * 2 + 1]? = some (.string (xs.getD j lk0).2) := by
  induction xs generalizing j with
  | nil => simp at h
  | cons x l ih =>
    cases j with
    | zero => exact ⟨rfl, rfl⟩
    | succ j =>
      have := ih (j := j) (by simpa using h)
      have e : lks (x :: l) = .int .i64 x.1 :: .string x.2 :: lks l := rfl
      rw [e, show (j + 1) * 2 = j * 2 + 2 by omega]
      simpa using this
def markL (m : Nat) : List Lk := (List.range m).map fun (i : Nat) => (-100, mkI (i : Int))
theorem markL_snoc (m : Nat) : markL m ++ [(-100, mkI (m : Int))] = markL (m + 1) := by simp [markL, List.range_succ]
theorem markL_at (zs : List Lk) {i : Nat} (h : i < zs.length + 16) : (zs ++ markL 16).getD i lk0 = if i < zs.length then zs.getD i lk0 else (-100, mkI ((i : Int) - (zs.length : Int))) := by
  rw [List.getD_eq_getElem?_getD, List.getD_eq_getElem?_getD, List.getElem?_append]
  by_cases hi : i < zs.length
  · rw [if_pos hi, if_pos hi]
  · rw [if_neg hi, if_neg hi]
    simp only [markL, List.getElem?_map]
    rw [List.getElem?_range (by omega)]
    simp only [Option.map_some, Option.getD_some]
    congr 2
    omega
/-- A slice of links reads so. -/
def RdL (w : World) (A : Option Addr) (n : Nat) (zs : List Lk) : Prop := zs.length = n ∧ ∀ i, i < n → ∃ ad, A = some ad ∧ w.cell? (ad.add (i * 2)) = some (.int .i64 (zs.getD i lk0).1) ∧ w.cell? (ad.add (i * 2 + 1)) = some (.string (zs.getD i lk0).2)
theorem RdL.at_ {w : World} {A : Option Addr} {n : Nat} {zs : List Lk} (h : RdL w A n zs) {i : Nat} (h1 : i < n) : ∃ ad, A = some ad ∧ w.cell? (ad.add (i * 2)) = some (.int .i64 (zs.getD i lk0).1) ∧ w.cell? (ad.add (i * 2 + 1)) = some (.string (zs.getD i lk0).2) := h.2 i h1
theorem second_at {w : World} {ad : Addr} {i : Nat} {v : Value} (h : w.cell? (ad.add (i * 2 + 1)) = some v) : w.cell? ⟨(ad.add (i * 2)).block, (ad.add (i * 2)).off + 1, none⟩ = some v := by
  have e : (⟨(ad.add (i * 2)).block, (ad.add (i * 2)).off + 1, none⟩ : Addr) = (ad.add (i * 2)).add 1 := rfl
  rw [e, Go.Deep.add_add]
  exact h
theorem RdL.below {w w1 : World} {A : Option Addr} {n : Nat} {zs : List Lk} (h : RdL w A n zs) (hb : Below w.heap.size w w1) : RdL w1 A n zs :=
  ⟨h.1, fun i hi => by obtain ⟨ad, e, hc, hd⟩ := h.2 i hi; exact ⟨ad, e, bl_cell hb hc, bl_cell hb hd⟩⟩
/-- What the form says of the elements. -/
def OkL (zs : List Lk) : Prop := ∀ i, I64 (zs.getD i lk0).1 ∧ (zs.getD i lk0).2.size ≤ 140737488351232
theorem link_key : Tryz.prog.keyTypeAt 3 112 = true := by kernel_rfl
theorem link_formed (a b : Value) : (Value.agg #[a, b]).formed Tryz.prog 112 = true := by kernel_rfl
theorem link_lits (k : Int) (s : ByteArray) (hk : I64 k) (hs : s.size ≤ 140737488351232) : Tryz.prog.keyLits 3 112 [.int .i64 k, .string s] = some [.int .i64 k, .string s.data.toList] := by
  have u1 := Tryz.underlying112
  have u2 := Tryz.underlying9
  have u3 := Tryz.underlying3
  have c1 : Tryz.prog.cellsOf 112 = 2 := by kernel_rfl
  have c2 : Tryz.prog.cellsOf 9 = 1 := by kernel_rfl
  have c3 : Tryz.prog.cellsOf 3 = 1 := by kernel_rfl
  have hs2 : s.size ≤ maxLen := by unfold maxLen; omega
  have wf : (Lit.int .i64 k).wf = true := by
    unfold I64 at hk
    have h1 : IntKind.i64.min = -9223372036854775808 := by decide
    have h2 : IntKind.i64.max = 9223372036854775807 := by decide
    simp only [Lit.wf, h1, h2, hk.1, hk.2, decide_true, Bool.and_self]
  simp [Program.keyLits, u1, u2, u3, c1, c2, c3, hs2, wf]
theorem link_neq (k : Int) (s : ByteArray) (hk : I64 k) (hs : s.size ≤ 140737488351232) (w : World) : (binOp .neq 112 (.agg #[.int .i64 k, .string s]) (.agg #[.int .i64 k, .string s])).run Tryz.prog w = .ok (.bool false) w :=
  neq_lits (m := 3) (r := true) (by decide) link_key (link_formed _ _) (link_formed _ _) (link_lits k s hk hs) (link_lits k s hk hs) (by simp) w
theorem A_infoL : (Tryz.prog.info? 112).map (fun i => (i.zero, i.size, i.bytes)) = some (some (.agg #[.int .i64 0, .string ⟨#[]⟩]), 2, 24) := by kernel_rfl
theorem link_desc : (match Tryz.prog.underlying 112 with | some (.struct _) => true | _ => false) = true := by kernel_rfl
theorem link_size : (Tryz.prog.info? 112).map (·.size) = some 2 := by kernel_rfl
theorem loadVar_at (P : Program) (w : World) (a : Addr) (ty : TypeId) (vs : List Value) (d : TypeDesc) (hu : P.underlying ty = some d) (hd : (match d with | .struct _ | .array _ _ => true | _ => false) = true) (hi : (P.info? ty).map (·.size) = some vs.length)
    (hc : ∀ j v, vs[j]? = some v → w.cell? (a.add j) = some v) : (loadVar ty a).run P w = .ok (.agg vs.toArray) w := by
  have hl : (loadCells a vs.length).run P w = .ok vs.toArray w := run_loadCells_list (P := P) w a vs hc
  cases hq : P.info? ty with
  | none => simp [hq] at hi
  | some i =>
    have hs : i.size = vs.length := by simpa [hq] using hi
    have hagg : (isAgg ty).run P w = .ok true w := by
      unfold isAgg
      rw [Sem.run_bind, run_underlying hu w]
      cases d <;> simp_all
    simp [loadVar, Sem.run_bind, hagg, sizeOf, typeInfo, hq, hs, hl]
theorem load_link {W : World} {ad : Addr} {i : Nat} {k : Int} {s : ByteArray} (h1 : W.cell? (ad.add (i * 2)) = some (.int .i64 k)) (h2 : W.cell? (ad.add (i * 2 + 1)) = some (.string s)) : (loadVar 112 (ad.add (i * 2))).run Tryz.prog W = .ok (.agg #[.int .i64 k, .string s]) W := by
  have hd := link_desc
  cases hu : Tryz.prog.underlying 112 with
  | none => rw [hu] at hd; cases hd
  | some d =>
    rw [hu] at hd
    refine loadVar_at Tryz.prog W _ _ [.int .i64 k, .string s] d hu (by cases d <;> simp_all) link_size fun j v hv => ?_
    rw [Go.Deep.add_add]
    match j, hv with
    | 0, hv => injection hv with hv; subst hv; exact h1
    | 1, hv => injection hv with hv; subst hv; exact h2
    | j + 2, hv => simp at hv
set_option maxHeartbeats 400000 in
theorem fullLinks (A0 : Option Addr) (n c : Nat) (zs : List Lk) (w : World) (hr : RdL w A0 n zs) (hn : n * 24 ≤ 140737488351232) :
    Calls Tryz.prog 69 #[.slice A0 n c] w fun e w' => ∃ v, e = .returned v ∧ w'.ownsRow w.heap.size 112 2 v (n + 16) (lks (zs ++ markL 16)) ∧ Below w.heap.size w w' := by
  have hl := hr.1
  obtain ⟨i0, hi, hz0, hz1, hz2⟩ := Sp.info_of A_infoL
  go_enter Tryz.func69, Tryz.ntmps69
  go_wp2
  go_loopw [3, 4] (fun v i wr => ∃ k : Nat, k ≤ n ∧ i = .int .i64 k ∧ wr.ownsRow w.heap.size 112 2 v k (lks (zs.take k)) ∧ Below w.heap.size w wr) (fun _ i _ => n - (intOf i).toNat)
  case atStart => exact ⟨0, Nat.zero_le _, rfl, ow_nil _ _ _ _, bl_refl w⟩
  case round =>
    obtain ⟨k, hk, rfl, hown, hb⟩ := hrel
    by_cases hlt : k < n
    · obtain ⟨ad, rfl, hcell, hcellb⟩ := (hr.below hb).at_ hlt
      have hs := lks_snoc zs (show k < zs.length by omega)
      generalize zs.getD k lk0 = x at hcell hcellb hs
      have HL := Lib.hid (load_link hcell hcellb)
      have HS := Lib.hid hs
      clear hs
      have hsz := hb.size
      obtain ⟨A1, c1, rfl⟩ := ow_slice hown
      go_wp2_with (first | (refine wpList_load_known rfl 112 _ rfl _ _ rfl HL.out ?_) | (at_builtin; refine wpList_append_own _ rfl _ _ 24 rfl w.heap.size 112 i0 (.agg #[.int .i64 0, .string ⟨#[]⟩]) 2 24 Tryz.underlying24 hi hz0 hz1 hz2 rfl (by decide) _ _ _ rfl (hown.alloc _) ⟨wr.heap.size, 0, none⟩ 1 1 [.int .i64 x.1, .string x.2] rfl rfl ?c1 ?c2 ?c3 ?c4 ?c5 ?_))
      case c1 => exact Sp.cell_two_new _ _ _ _
      case c2 => simp [Value.oneCell']
      case c3 => simp only [maxLen]; omega
      case c4 => omega
      case c5 => simp; omega
      intro v' w1 hown' hgrow _
      rw [HS.out] at hown'
      have hb1 := ow_below _ hown hb hsz hgrow
      clear hown hgrow hcell hcellb
      go_wp2
      go_roundw
      case rel => exact ⟨k + 1, by omega, by go_num, hown', hb1⟩
      case measure => simp [intOf]; omega
    · obtain rfl : k = n := by omega
      rw [List.take_of_length_le (by omega)] at hown
      obtain ⟨wo, rfl⟩ : ∃ wo : World, wo = wr := ⟨_, rfl⟩
      go_wp2
      go_loopw [3, 5] (fun v i wr => ∃ m : Nat, m ≤ 16 ∧ i = .int .i64 m ∧ wr.ownsRow w.heap.size 112 2 v (k + m) (lks (zs ++ markL m)) ∧ Below w.heap.size w wr) (fun _ i _ => 16 - (intOf i).toNat)
      case atStart => exact ⟨0, Nat.zero_le _, rfl, by simpa [markL] using hown, hb⟩
      case round =>
        clear hown hb
        obtain ⟨m, hm, rfl, hown, hb⟩ := hrel
        by_cases hlt : m < 16
        · have hs : lks (zs ++ markL m) ++ [.int .i64 (-100), .string (mkI (m : Int))] = lks (zs ++ markL (m + 1)) := by rw [← markL_snoc, ← List.append_assoc, lks_append (zs ++ markL m)]; rfl
          have HM := fun W => mkL_any (m : Int) W
          generalize mkI (m : Int) = y at hs HM
          have HS := Lib.hid hs
          clear hs
          have hsz := hb.size
          obtain ⟨A1, c1, rfl⟩ := ow_slice hown
          go_wp2_with (first | (go_at_call 82; refine (HM _).mono ?_; rintro e w2 ⟨rfl, hb2⟩; have hown2 := ow_then hown hb2; have hbb := bl_later hb hsz hb2; have hsz2 := hbb.size; clear hown hb hb2) | (at_builtin; refine wpList_append_own _ rfl _ _ 24 rfl w.heap.size 112 i0 (.agg #[.int .i64 0, .string ⟨#[]⟩]) 2 24 Tryz.underlying24 hi hz0 hz1 hz2 rfl (by decide) _ _ _ rfl (hown2.alloc _) ⟨w2.heap.size, 0, none⟩ 1 1 [.int .i64 (-100), .string y] rfl rfl ?c6 ?c7 ?c8 ?c9 ?c10 ?_))
          case c6 => exact Sp.cell_two_new _ _ _ _
          case c7 => simp [Value.oneCell']
          case c8 => simp only [maxLen]; omega
          case c9 => omega
          case c10 => simp; omega
          intro v' w1 hown' hgrow _
          rw [HS.out] at hown'
          have hb1 := ow_below _ hown2 hbb hsz2 hgrow
          clear hown2 hgrow hbb
          go_wp2
          go_roundw
          case rel => exact ⟨m + 1, by omega, by go_num, hown', hb1⟩
          case measure => simp [intOf]; omega
        · obtain rfl : m = 16 := by omega
          go_wp2
          go_ret
          exact ⟨_, rfl, hown, hb⟩
/-- LentLinks: the list at the head of a block of its own, 16 marks in its spare room. -/
def LentK (w' : World) (B : Nat) (v : Value) (zs : List Lk) : Prop := ∃ g cap, v = .slice (some ⟨g, 0, none⟩) zs.length cap ∧ B ≤ g ∧ zs.length + 16 ≤ cap ∧ w'.ownsRow B 112 2 (.slice (some ⟨g, 0, none⟩) (zs.length + 16) cap) (zs.length + 16) (lks (zs ++ markL 16))
theorem lentLinks (A0 : Option Addr) (n c : Nat) (zs : List Lk) (w : World) (hr : RdL w A0 n zs) (hn : n * 24 ≤ 140737488351232) :
    Calls Tryz.prog 40 #[.slice A0 n c] w fun e w' => ∃ v, e = .returned v ∧ LentK w' w.heap.size v zs ∧ Below w.heap.size w w' := by
  have hl := hr.1
  go_enter Tryz.func40, Tryz.ntmps40
  go_wp2_with (go_at_call 69; refine (fullLinks A0 n c zs _ hr hn).mono ?_; rintro e w1 ⟨v, rfl, hown, hb⟩; obtain ⟨g, cap, rfl, _, _⟩ := hown.form (by omega); have hcap : n + 16 ≤ cap := (hown.2.resolve_left (by simp)).elim fun g' h => by obtain ⟨cap', cur, he, _, _, h1, _⟩ := h; injection he with _ _ e3; omega)
  go_ret
  subst hl
  exact ⟨_, rfl, ⟨g, cap, rfl, ow_base hown g rfl, hcap, hown⟩, hb⟩
set_option maxHeartbeats 400000 in
theorem keptFullLinks (A0 : Option Addr) (n0 c0 : Nat) (A1 : Option Addr) (n c : Nat) (zs : List Lk) (w : World) (hok : OkL zs) (hn : n * 24 ≤ 140737488351232) (hn0 : n0 = n + 16) (hr0 : RdL w A0 n0 (zs ++ markL 16)) (hr1 : RdL w A1 n zs) :
    Calls Tryz.prog 76 #[.slice A0 n0 c0, .slice A1 n c] w fun e w' => e = .returned (.bool true) ∧ Below w.heap.size w w' := by
  have hl := hr1.1
  subst hn0
  have ht : (((n : Int) + 16) != (n : Int) + 16) = false := by simp
  go_enter Tryz.func76, Tryz.ntmps76
  go_wp2
  go_loopw [5] (fun i wr => UptoN (n + 16) i ∧ Below w.heap.size w wr) (fun i _ => n + 16 - (intOf i).toNat)
  case atStart => exact ⟨⟨0, Nat.zero_le _, rfl⟩, bl_refl w⟩
  case round =>
    obtain ⟨⟨k, hk, rfl⟩, hb⟩ := hrel
    by_cases hlt : k < n + 16
    · have hlt0 : (k : Int) < (n : Int) + 16 := by omega
      have hsz := hb.size
      by_cases h2 : k < n
      · have hx0 := markL_at zs (show k < zs.length + 16 by omega)
        rw [if_pos (by omega)] at hx0
        obtain ⟨ad, rfl, hcell, hcellb⟩ := (hr0.below hb).at_ (show k < n + 16 by omega)
        rw [hx0] at hcell hcellb
        obtain ⟨ad1, rfl, hcell1, hcell1b⟩ := (hr1.below hb).at_ h2
        have hxo := hok k
        generalize zs.getD k lk0 = x at hcell hcell1 hcellb hcell1b hxo
        have hne := fun W => link_neq x.1 x.2 hxo.1 hxo.2 W
        have hcellc := second_at hcellb
        have hcell1c := second_at hcell1b
        clear hr0 hr1 hx0 hok hcellb hcell1b
        have HM := fun W => mkL_any ((k : Int) - (n : Int)) W
        generalize mkI ((k : Int) - (n : Int)) = y at HM
        go_wp2_with (go_at_call 82; refine (HM _).mono ?_; rintro e w2 ⟨rfl, hb2⟩; have hcell2 := bl_cell hb2 hcell; have hcell2c := bl_cell hb2 hcellc; have hcell3 := bl_cell hb2 hcell1; have hcell3c := bl_cell hb2 hcell1c; have hbb := bl_later hb hsz hb2; have o1 := fun o => al_cell (o := o) hcell2; have o2 := fun o => al_cell (o := o) hcell2c; have o3 := fun o => al_cell (o := o) hcell3; have o4 := fun o => al_cell (o := o) hcell3c; clear hb hb2 hcell hcellc hcell1 hcell1c hcell2 hcell2c hcell3 hcell3c)
        go_quiet (fail)
        go_wp2
        go_roundw
        case rel => exact ⟨⟨k + 1, by omega, by go_num⟩, bl_drewN (bl_alloc hbb _) _⟩
        case measure => simp [intOf]; omega
      · have hx0 := markL_at zs (show k < zs.length + 16 by omega)
        rw [if_neg (by omega), hl] at hx0
        obtain ⟨ad, rfl, hcell, hcellb⟩ := (hr0.below hb).at_ (show k < n + 16 by omega)
        rw [hx0] at hcell hcellb
        have hcellc := second_at hcellb
        clear hr0 hr1 hx0 hok hcellb
        have HM := fun W => mkL_any ((k : Int) - (n : Int)) W
        have hys := mkI_le ((k : Int) - (n : Int))
        generalize mkI ((k : Int) - (n : Int)) = y at HM hcell hcellc hys
        have hne := fun W => link_neq (-100) y (by unfold I64; omega) (by omega) W
        go_wp2_with (go_at_call 82; refine (HM _).mono ?_; rintro e w2 ⟨rfl, hb2⟩; have hcell2 := bl_cell hb2 hcell; have hcell2c := bl_cell hb2 hcellc; have hbb := bl_later hb hsz hb2; have o1 := fun o => al_cell (o := o) hcell2; have o2 := fun o => al_cell (o := o) hcell2c; clear hb hb2 hcell hcellc hcell2 hcell2c)
        go_quiet (fail)
        go_wp2
        go_roundw
        case rel => exact ⟨⟨k + 1, by omega, by go_num⟩, bl_drewN (bl_alloc hbb _) _⟩
        case measure => simp [intOf]; omega
    · obtain rfl : k = n + 16 := by omega
      go_wp2
      go_ret
      exact ⟨rfl, hb⟩
theorem LentK.rd {w : World} {B : Nat} {v : Value} {zs : List Lk} (h : LentK w B v zs) : ∃ A c, v = .slice A zs.length c ∧ RdL w A zs.length zs ∧ zs.length ≤ c := by
  obtain ⟨g, cap, rfl, hB, hcap, hown⟩ := h
  refine ⟨_, _, rfl, ⟨rfl, fun j hj => ⟨_, rfl, hown.cells (g := g) rfl _ _ ?_, hown.cells (g := g) rfl _ _ ?_⟩⟩, by omega⟩
  · rw [(lks_at _ (by simp; omega)).1, markL_at zs (by omega), if_pos hj]
  · rw [(lks_at _ (by simp; omega)).2, markL_at zs (by omega), if_pos hj]
theorem LentK.below {w w1 : World} {B : Nat} {v : Value} {zs : List Lk} (h : LentK w B v zs) (hb : Below w.heap.size w w1) : LentK w1 B v zs := by
  obtain ⟨g, cap, rfl, hB, hcap, hown⟩ := h
  exact ⟨g, cap, rfl, hB, hcap, ow_then hown hb⟩
theorem keptLinks (v : Value) (A1 : Option Addr) (n c : Nat) (zs : List Lk) (B : Nat) (w : World) (hok : OkL zs) (hn : n * 24 ≤ 140737488351232) (hv : LentK w B v zs) (hr1 : RdL w A1 n zs) :
    Calls Tryz.prog 43 #[v, .slice A1 n c] w fun e w' => e = .returned (.bool true) ∧ Below w.heap.size w w' := by
  have hl := hr1.1
  obtain ⟨g, cap, rfl, hB, hcap, hown⟩ := hv
  rw [hl] at hown hcap ⊢
  have hrd : RdL w (some ⟨g, 0, none⟩) (n + 16) (zs ++ markL 16) := by
    refine ⟨by simp [markL, hl], fun j hj => ⟨_, rfl, hown.cells (g := g) rfl _ _ (lks_at _ (by simp [markL, hl]; omega)).1, hown.cells (g := g) rfl _ _ (lks_at _ (by simp [markL, hl]; omega)).2⟩⟩
  clear hown
  have ht : ((n : Int) != (n : Int)) = false := by simp
  have hc16 : (n : Int) + 16 ≤ (cap : Int) := by omega
  go_enter Tryz.func43, Tryz.ntmps43
  go_wp2_with (go_at_call 76; refine (keptFullLinks _ (n + 16) _ _ n c zs _ hok hn rfl hrd hr1).mono ?_; rintro e w2 ⟨rfl, hb⟩)
  go_ret
  exact ⟨rfl, hb⟩
end Go.Proofs.YtphabkaiheplpaaGreatDoor
