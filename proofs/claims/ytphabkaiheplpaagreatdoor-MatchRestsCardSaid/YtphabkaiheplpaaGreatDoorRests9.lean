/- Joined texts of this proof: Fit, Wide, RefFit, RefFitU, RefFitW. -/
import Derived.DeepKeys
import Derived.Laws.Tables
import Derived.Deep.Cut
import Derived.Deep.DeepCutAuto
import Derived.Test.YtphabkaiheplpaaGreatDoorRests2
import Derived.Test.YtphabkaiheplpaaGreatDoorRests6
/- match.Fit and the document's Fit, by contracts. -/
set_option linter.unusedVariables false
set_option linter.unusedSimpArgs false
set_option maxRecDepth 100000
namespace Go.Proofs.YtphabkaiheplpaaGreatDoor
open Go.RowKit Go.Shelf

def BicF (s : ByteArray) (w : World) (e : Ending) (w' : World) : Prop := ∃ n a : Int, e = .returned (.tuple #[.agg #[.string (bicP s 0), .string (bicP s 1), .string (bicP s 2), .string (bicP s 3)], .int .i64 n, .int .i64 a]) ∧ (n == 0) = bicOK s ∧ Below w.heap.size w w'
theorem refBic_four (s : ByteArray) (hs : s.size ≤ 140737488351232) (w : World) : Calls Tryz.prog 134 #[.string s] w (BicF s w) := refBic_any s hs w
theorem arr4_key : Tryz.prog.keyTypeAt 3 66 = true := by kernel_rfl
theorem arr4_lits (a b c d : ByteArray) (ha : a.size ≤ maxLen) (hb : b.size ≤ maxLen) (hc : c.size ≤ maxLen) (hd : d.size ≤ maxLen) :
    Tryz.prog.keyLits 3 66 [.string a, .string b, .string c, .string d] = some [.string a.data.toList, .string b.data.toList, .string c.data.toList, .string d.data.toList] := by
  have u1 := Tryz.underlying66
  have u2 := Tryz.underlying9
  have c1 : Tryz.prog.cellsOf 66 = 4 := by kernel_rfl
  have c2 : Tryz.prog.cellsOf 9 = 1 := by kernel_rfl
  simp [Program.keyLits, u1, u2, c1, c2, ha, hb, hc, hd, List.range, List.range.loop]
theorem arr4_formed (a b c d : Value) : (Value.agg #[a, b, c, d]).formed Tryz.prog 66 = true := by kernel_rfl
theorem ba_list {a b : ByteArray} : a.data.toList = b.data.toList ↔ a = b := by
  constructor
  · intro h
    exact ByteArray.ext (Array.toList_inj.1 h)
  · intro h
    rw [h]
theorem ba_data {a b : ByteArray} : a.data = b.data ↔ a = b := ⟨ByteArray.ext, fun h => by rw [h]⟩
theorem extract_le (s : ByteArray) (i j : Nat) : (s.extract i j).size ≤ s.size := by
  rw [ByteArray.size_extract]
  omega
theorem bicP_le (s : ByteArray) (k : Nat) (hs : s.size ≤ 140737488351232) : (bicP s k).size ≤ maxLen := by
  have h0 : (⟨#[]⟩ : ByteArray).size = 0 := rfl
  have e1 := extract_le s 0 4
  have e2 := extract_le s 4 6
  have e3 := extract_le s 6 8
  have e4 := extract_le s 8 s.size
  unfold maxLen bicP branch
  split
  · split
    · omega
    · split
      · omega
      · split
        · omega
        · split
          · omega
          · omega
  · omega
/-- The same four parts. -/
def sameP (a b : ByteArray) : Bool := decide (bicP a 0 = bicP b 0 ∧ bicP a 1 = bicP b 1 ∧ bicP a 2 = bicP b 2 ∧ bicP a 3 = bicP b 3)
theorem bic_eql (a b : ByteArray) (ha : a.size ≤ 140737488351232) (hb : b.size ≤ 140737488351232) (w : World) :
    (binOp .eql 66 (.agg #[.string (bicP a 0), .string (bicP a 1), .string (bicP a 2), .string (bicP a 3)]) (.agg #[.string (bicP b 0), .string (bicP b 1), .string (bicP b 2), .string (bicP b 3)])).run Tryz.prog w = .ok (.bool (sameP a b)) w :=
  eql_lits (m := 3) (by decide) arr4_key (arr4_formed _ _ _ _) (arr4_formed _ _ _ _) (arr4_lits _ _ _ _ (bicP_le a 0 ha) (bicP_le a 1 ha) (bicP_le a 2 ha) (bicP_le a 3 ha)) (arr4_lits _ _ _ _ (bicP_le b 0 hb) (bicP_le b 1 hb) (bicP_le b 2 hb) (bicP_le b 3 hb)) (by simp [sameP, ba_data]) w
def sameBic (a b : ByteArray) : Bool := bicOK a && bicOK b && sameP a b
theorem sameBic_any (a b : ByteArray) (ha : a.size ≤ 140737488351232) (hb : b.size ≤ 140737488351232) (w : World) :
    Calls Tryz.prog 115 #[.string a, .string b] w fun e w' => e = .returned (.bool (sameBic a b)) ∧ Below w.heap.size w w' := by
  have H1 := Lib.hid (fun w => refBic_four a ha w)
  have H2 := Lib.hid (fun w => refBic_four b hb w)
  have heq := fun w => bic_eql a b ha hb w
  go_enter Tryz.func115, Tryz.ntmps115
  go_wp2_with (first | (go_at_call 134; refine (H1.out _).mono ?_; rintro e w1 ⟨n, x, rfl, hn, hb1⟩; have HN := Lib.hid hn; clear hn H1) | (go_at_call 134; refine (H2.out _).mono ?_; rintro e w2 ⟨m, y, rfl, hm, hb2⟩; have HM := Lib.hid hm; clear hm; have c0 := bl_cell (a := ⟨w1.heap.size, 0, none⟩) (v := .string (bicP a 0)) hb2 (by simp); have c1 := bl_cell (a := ⟨w1.heap.size, 1, none⟩) (v := .string (bicP a 1)) hb2 (by simp); have c2 := bl_cell (a := ⟨w1.heap.size, 2, none⟩) (v := .string (bicP a 2)) hb2 (by simp); have c3 := bl_cell (a := ⟨w1.heap.size, 3, none⟩) (v := .string (bicP a 3)) hb2 (by simp); have z := new_size hb2))
  all_goals go_ret
  all_goals refine ⟨ret_b ?_, bl_alloc (bl_then (bl_alloc hb1 _) hb2) _⟩
  all_goals unfold sameBic
  all_goals rw [← HN.out, ← HM.out]
  all_goals simp [*]
def nearB (a b y : Int) : Bool := decide (0 ≤ y) && (if a < b then decide (b - a ≤ y) else decide (a - b ≤ y))
theorem u64_wrap (a : Int) : IntKind.u64.wrap a = a % 18446744073709551616 := rfl
theorem wrap_diff {a b : Int} (ha : I64 a) (hb : I64 b) (h : b ≤ a) : IntKind.u64.wrap (IntKind.u64.wrap a - IntKind.u64.wrap b) = a - b := by
  unfold I64 at ha hb
  simp only [u64_wrap]
  omega
theorem wrap_pos {a : Int} (ha : I64 a) (h : 0 ≤ a) : IntKind.u64.wrap a = a := by
  unfold I64 at ha
  simp only [u64_wrap]
  omega
theorem refNear_any (a b y : Int) (ha : I64 a) (hb : I64 b) (hy : I64 y) (w : World) :
    Calls Tryz.prog 110 #[.int .i64 a, .int .i64 b, .int .i64 y] w fun e w' => e = .returned (.bool (nearB a b y)) ∧ w = w' := by
  by_cases h0 : y < 0
  · go_enter Tryz.func110, Tryz.ntmps110
    go_wp2
    go_ret
    exact ⟨ret_b (by unfold nearB; simp; omega), rfl⟩
  · have e3 := wrap_pos hy (by omega)
    by_cases h : a < b
    · have e1 := wrap_diff hb ha (by omega)
      go_enter Tryz.func110, Tryz.ntmps110
      go_wp2
      go_ret
      exact ⟨ret_b (by unfold nearB; rw [if_pos h]; simp; omega), rfl⟩
    · have e1 := wrap_diff ha hb (by omega)
      go_enter Tryz.func110, Tryz.ntmps110
      go_wp2
      go_ret
      exact ⟨ret_b (by unfold nearB; rw [if_neg (by omega)]; simp; omega), rfl⟩
theorem near_any (a b y : Int) (ha : I64 a) (hb : I64 b) (hy : I64 y) (w : World) :
    Calls Tryz.prog 24 #[.int .i64 a, .int .i64 b, .int .i64 y] w fun e w' => e = .returned (.bool (nearB a b y)) ∧ w = w' := by
  by_cases h0 : y < 0
  · go_enter Tryz.func24, Tryz.ntmps24
    go_wp2
    go_ret
    exact ⟨ret_b (by unfold nearB; simp; omega), rfl⟩
  · have e3 := wrap_pos hy (by omega)
    by_cases h : a < b
    · have e1 := wrap_diff hb ha (by omega)
      have mx : max a b = b := by omega
      have mn : min a b = a := by omega
      go_enter Tryz.func24, Tryz.ntmps24
      go_wp2
      go_ret
      exact ⟨ret_b (by unfold nearB; rw [if_pos h]; simp; omega), rfl⟩
    · have e1 := wrap_diff ha hb (by omega)
      have mx : max a b = a := by omega
      have mn : min a b = b := by omega
      go_enter Tryz.func24, Tryz.ntmps24
      go_wp2
      go_ret
      exact ⟨ret_b (by unfold nearB; rw [if_neg (by omega)]; simp; omega), rfl⟩
/-- A slice of texts reads so. -/
def RdT (w : World) (A : Option Addr) (n : Nat) (zs : List ByteArray) : Prop := zs.length = n ∧ ∀ i, i < n → ∃ ad, A = some ad ∧ w.cell? (ad.add i) = some (.string (zs.getD i ⟨#[]⟩))
theorem RdT.at_ {w : World} {A : Option Addr} {n : Nat} {zs : List ByteArray} (h : RdT w A n zs) {i : Nat} (h1 : i < n) : ∃ ad, A = some ad ∧ w.cell? (ad.add i) = some (.string (zs.getD i ⟨#[]⟩)) := h.2 i h1
theorem RdT.below {w w1 : World} {A : Option Addr} {n : Nat} {zs : List ByteArray} (h : RdT w A n zs) (hb : Below w.heap.size w w1) : RdT w1 A n zs :=
  ⟨h.1, fun i hi => by obtain ⟨ad, e, hc⟩ := h.2 i hi; exact ⟨ad, e, bl_cell hb hc⟩⟩
/-- No text is longer than the reach. -/
def Short (zs : List ByteArray) : Prop := ∀ i, (zs.getD i ⟨#[]⟩).size ≤ 140737488351232
def isB (zs : List ByteArray) (p : Int) (b : ByteArray) : Bool := decide (0 ≤ p) && (decide (p < zs.length) && sameBic (zs.getD p.toNat ⟨#[]⟩) b)
theorem is22_any (A : Option Addr) (n c : Nat) (zs : List ByteArray) (p : Int) (b : ByteArray) (w : World) (hr : RdT w A n zs) (hsh : Short zs) (hb : b.size ≤ 140737488351232) (hn : n ≤ 140737488351232) :
    Calls Tryz.prog 78 #[.slice A n c, .int .i64 p, .string b] w fun e w' => e = .returned (.bool (isB zs p b)) ∧ Below w.heap.size w w' := by
  have hl := hr.1
  by_cases h0 : 0 ≤ p
  · by_cases h1 : p < n
    · obtain ⟨k, rfl⟩ : ∃ k : Nat, p = k := ⟨p.toNat, by omega⟩
      have hk : k < n := by omega
      obtain ⟨ad, rfl, hcell⟩ := hr.at_ hk
      have hsame := fun w => sameBic_any (zs.getD k ⟨#[]⟩) b (hsh k) hb w
      have hres : isB zs k b = sameBic (zs.getD k ⟨#[]⟩) b := by unfold isB; simp; intro; omega
      generalize zs.getD k ⟨#[]⟩ = z at hcell hsame hres
      have HR := Lib.hid hres
      clear hres
      go_enter Tryz.func78, Tryz.ntmps78
      go_wp2_with (go_at_call 115; refine (hsame _).mono ?_; rintro e w1 ⟨rfl, hb1⟩)
      go_ret
      exact ⟨ret_b HR.out.symm, hb1⟩
    · go_enter Tryz.func78, Tryz.ntmps78
      go_wp2
      go_ret
      exact ⟨ret_b (by unfold isB; simp; intros; omega), bl_refl w⟩
  · go_enter Tryz.func78, Tryz.ntmps78
    go_wp2
    go_ret
    exact ⟨ret_b (by unfold isB; simp; intros; omega), bl_refl w⟩
end Go.Proofs.YtphabkaiheplpaaGreatDoor
/- A whole struct stored into a fresh block at once, and loaded out of a box. -/
set_option linter.unusedVariables false
set_option linter.unusedSimpArgs false
set_option maxRecDepth 100000
namespace Go.Proofs.YtphabkaiheplpaaGreatDoor
open Go.RowKit Go.Shelf

end Go.Proofs.YtphabkaiheplpaaGreatDoor
/- match.Fit and the document's Fit: a side as a value; the document's Fit by contract. -/
set_option linter.unusedVariables false
set_option linter.unusedSimpArgs false
set_option maxRecDepth 100000
namespace Go.Proofs.YtphabkaiheplpaaGreatDoor
open Go.RowKit Go.Shelf

def sideV (p : Int) (x : Nt) : Value := .agg #[.int .i64 p, .string x.ref, .string x.prev, .bool x.cancel, .bool x.receive, .bool x.pay, .int .i64 x.trade, .int .i64 x.settle,
  .int .u8 (x.code 0), .int .u8 (x.code 1), .int .u8 (x.code 2), .int .u8 (x.code 3), .int .u8 (x.code 4), .int .u8 (x.code 5), .int .u8 (x.code 6), .int .u8 (x.code 7), .int .u8 (x.code 8), .int .u8 (x.code 9), .int .u8 (x.code 10), .int .u8 (x.code 11),
  .int .i64 x.qty, .string x.account, .string x.agent, .string x.other, .int .i64 x.amount, .string x.currency, .int .i64 x.priority, .slice x.la x.ln x.lc]
def sameCode (f g : Nat → Int) : Bool := decide (f 0 = g 0 ∧ f 1 = g 1 ∧ f 2 = g 2 ∧ f 3 = g 3 ∧ f 4 = g 4 ∧ f 5 = g 5 ∧ f 6 = g 6 ∧ f 7 = g 7 ∧ f 8 = g 8 ∧ f 9 = g 9 ∧ f 10 = g 10 ∧ f 11 = g 11)
theorem code_key : Tryz.prog.keyTypeAt 3 23 = true := by kernel_rfl
theorem code_lits (f : Nat → Int) (hf : ∀ i, 0 ≤ f i ∧ f i ≤ 255) : Tryz.prog.keyLits 3 23 (codeV f).toList =
    some [.int .u8 (f 0), .int .u8 (f 1), .int .u8 (f 2), .int .u8 (f 3), .int .u8 (f 4), .int .u8 (f 5), .int .u8 (f 6), .int .u8 (f 7), .int .u8 (f 8), .int .u8 (f 9), .int .u8 (f 10), .int .u8 (f 11)] := by
  have u1 := Tryz.underlying23
  have u2 := Tryz.underlying5
  have c1 : Tryz.prog.cellsOf 23 = 12 := by kernel_rfl
  have c2 : Tryz.prog.cellsOf 5 = 1 := by kernel_rfl
  have wf : ∀ i, (Lit.int .u8 (f i)).wf = true := fun i => by
    have h := hf i
    have h1 : IntKind.u8.min = 0 := by decide
    have h2 : IntKind.u8.max = 255 := by decide
    simp only [Lit.wf, h1, h2, h.1, h.2, decide_true, Bool.and_self]
  simp [codeV, Program.keyLits, u1, u2, c1, c2, wf, List.range, List.range.loop]
theorem code_formed (f : Nat → Int) : (Value.agg (codeV f)).formed Tryz.prog 23 = true := by kernel_rfl
theorem code_neq (f g : Nat → Int) (hf : ∀ i, 0 ≤ f i ∧ f i ≤ 255) (hg : ∀ i, 0 ≤ g i ∧ g i ≤ 255) (w : World) : (binOp .neq 23 (.agg (codeV f)) (.agg (codeV g))).run Tryz.prog w = .ok (.bool (!sameCode f g)) w :=
  neq_lits (m := 3) (by decide) code_key (code_formed f) (code_formed g) (code_lits f hf) (code_lits g hg) (by simp [sameCode]) w
/-- The two notices differ in what must be the same, or are not a deliverer's and a receiver's. -/
def unlike (x y : Nt) : Bool := x.receive || !y.receive || x.cancel || y.cancel || x.trade != y.trade || x.settle != y.settle || !sameCode x.code y.code || x.qty != y.qty || (x.pay != y.pay)
def fitE (p q : Int) (x y : Nt) (zs : List ByteArray) (tol : Int) : Int × Bool :=
  if unlike x y then (0, false)
  else if (x.account != y.other || x.other != y.account || !isB zs q x.agent || !isB zs p y.agent) then (0, false)
  else if !x.pay then (0, true)
  else if (x.currency != y.currency || !nearB x.amount y.amount tol) then (0, false)
  else (x.amount, true)
/-- The cells of a side and of its notice, hidden from the walk. -/
def sideC (p : Int) (x : Nt) : Array Value := match sideV p x with | .agg cs => cs | _ => #[]
end Go.Proofs.YtphabkaiheplpaaGreatDoor
/- The document's Fit: two notices that are unlike. -/
set_option linter.unusedVariables false
set_option linter.unusedSimpArgs false
set_option maxRecDepth 100000
namespace Go.Proofs.YtphabkaiheplpaaGreatDoor
open Go.RowKit Go.Shelf

theorem sideV_agg (p : Int) (x : Nt) : sideV p x = .agg (sideC p x) := rfl
theorem side_at (p : Int) (x : Nt) : ∀ (j : Nat) (v : Value), (noteC x).toList[j]? = some v → (sideC p x)[1 + j]? = some v := fun j v h => by
  rw [← Array.getElem?_toList, show (sideC p x).toList = .int .i64 p :: (noteC x).toList from rfl, Nat.add_comm]
  exact h
theorem load_note (p : Int) (x : Nt) (W : World) (g : Nat) (T : TypeId) (hg : W.heap[g]? = some (.cells (sideC p x) T (0, 0))) : (loadVar 26 ⟨g, 1, none⟩).run Tryz.prog W = .ok (.agg (noteC x)) W := by
  have hd := note_desc
  cases hu : Tryz.prog.underlying 26 with
  | none => rw [hu] at hd; cases hd
  | some d =>
    rw [hu] at hd
    refine loadVar_part Tryz.prog W g 1 _ (noteC x).toList d hu (by cases d <;> simp_all) note_size fun j v hv => ?_
    rw [cell_of_row W g (1 + j) _ T _ hg]
    exact side_at p x j v hv
theorem store_note (x : Nt) (W : World) (n : Nat) (hn : n = W.heap.size) (old : Array Value) (ho : old.size = 27) (T : TypeId) : (storeVar 26 ⟨n, 0, none⟩ (.agg (noteC x))).run Tryz.prog (W.alloc (.cells old T)) = .ok () (W.alloc (.cells (noteC x) T)) := by
  subst hn
  exact storeVar_new Tryz.prog W T _ old (noteC x) note_size (by rw [ho]; rfl) (noteC_one x)
/-- The cells of a notice that are compared. -/
theorem note_cells (x : Nt) : (noteC x)[2]? = some (.bool x.cancel) ∧ (noteC x)[3]? = some (.bool x.receive) ∧ (noteC x)[4]? = some (.bool x.pay) ∧ (noteC x)[5]? = some (.int .i64 x.trade) ∧ (noteC x)[6]? = some (.int .i64 x.settle) ∧
    (noteC x)[19]? = some (.int .i64 x.qty) ∧ (noteC x)[20]? = some (.string x.account) ∧ (noteC x)[21]? = some (.string x.agent) ∧ (noteC x)[22]? = some (.string x.other) ∧ (noteC x)[23]? = some (.int .i64 x.amount) ∧ (noteC x)[24]? = some (.string x.currency) :=
  ⟨rfl, rfl, rfl, rfl, rfl, rfl, rfl, rfl, rfl, rfl, rfl⟩
theorem is22_at {w W : World} (A : Option Addr) (n c : Nat) (zs : List ByteArray) (p : Int) (b : ByteArray) {v : Bool} (hv : isB zs p b = v) (hB : Below w.heap.size w W) (hr : RdT w A n zs) (hsh : Short zs) (hb : b.size ≤ 140737488351232) (hn : n ≤ 140737488351232) :
    Calls Tryz.prog 78 #[.slice A n c, .int .i64 p, .string b] W fun e w' => e = .returned (.bool v) ∧ Below W.heap.size W w' := by
  subst hv
  exact is22_any A n c zs p b W (hr.below hB) hsh hb hn
theorem refNear_at (a b y : Int) {v : Bool} (hv : nearB a b y = v) (ha : I64 a) (hb : I64 b) (hy : I64 y) (w : World) :
    Calls Tryz.prog 110 #[.int .i64 a, .int .i64 b, .int .i64 y] w fun e w' => e = .returned (.bool v) ∧ w = w' := by
  subst hv
  exact refNear_any a b y ha hb hy w
set_option maxHeartbeats 4000000 in
theorem refFit_unlike (p q : Int) (x y : Nt) (A : Option Addr) (n c : Nat) (zs : List ByteArray) (tol : Int) (w : World) (hp : I64 p) (hq : I64 q) (hx : x.wf) (hy : y.wf) (ht : I64 tol) (hr : RdT w A n zs) (hsh : Short zs) (hn : n ≤ 140737488351232) (hun : unlike x y = true) :
    Calls Tryz.prog 73 #[sideV p x, sideV q y, .slice A n c, .int .i64 tol] w fun e w' => e = .returned (.tuple #[.int .i64 (fitE p q x y zs tol).1, .bool (fitE p q x y zs tol).2]) ∧ Below w.heap.size w w' := by
  generalize hF : fitE p q x y zs tol = R
  have HF := Lib.hid hF
  clear hF
  rw [sideV_agg, sideV_agg]
  have L1 := Lib.hid (load_note p x ((w.alloc (.cells (sideC p x) 28)).alloc (.cells (sideC q y) 28)) w.heap.size _ (heap_alloc2_old w _ _))
  have L2 := Lib.hid (load_note q y (((w.alloc (.cells (sideC p x) 28)).alloc (.cells (sideC q y) 28)).alloc (.cells (noteC x) 26)) (w.heap.size + 1) _ (by rw [heap_alloc_old _ _ (by simp)]; exact heap_alloc2_new w _ _))
  have S1 := Lib.hid (store_note x)
  have S2 := Lib.hid (store_note y)
  have c0 : (sideC p x)[0]? = some (.int .i64 p) := rfl
  have d0 : (sideC q y)[0]? = some (.int .i64 q) := rfl
  generalize sideC p x = C at L1 L2 c0 ⊢
  generalize sideC q y = D at L1 L2 d0 ⊢
  obtain ⟨a2, a3, a4, a5, a6, a19, a20, a21, a22, a23, a24⟩ := note_cells x
  obtain ⟨b2, b3, b4, b5, b6, b19, b20, b21, b22, b23, b24⟩ := note_cells y
  have K1 := Lib.hid (load_code x)
  have K2 := Lib.hid (load_code y)
  have hcn := Lib.hid (fun w => code_neq x.code y.code hx.code hy.code w)
  generalize noteC x = NX at L1 L2 S1 K1 a2 a3 a4 a5 a6 a19 a20 a21 a22 a23 a24
  generalize noteC y = NY at L2 S2 K2 b2 b3 b4 b5 b6 b19 b20 b21 b22 b23 b24
  go_enter Tryz.func73, Tryz.ntmps73
  go_upto_region 1 with fail
  go_upto_region 2 with (first | (refine wpList_load_known rfl 26 _ rfl _ _ rfl L1.out ?_) | (refine wpList_store_known rfl 26 _ _ rfl _ _ rfl rfl (S1.out _ _ (by simp) _ rfl _) ?_))
  go_upto_region 3 with (first | (refine wpList_load_known rfl 26 _ rfl _ _ rfl L2.out ?_) | (refine wpList_store_known rfl 26 _ _ rfl _ _ rfl rfl (S2.out _ _ (by simp) _ rfl _) ?_))
  clear L1 L2 S1 S2
  have KL1 := Lib.hid (K1.out ((((w.alloc (.cells C 28)).alloc (.cells D 28)).alloc (.cells NX 26)).alloc (.cells NY 26)) (w.heap.size + 1 + 1) _ (by rw [heap_alloc_old _ _ (by simp)]; exact heap_at _ _ _ (by simp)))
  have KL2 := Lib.hid (K2.out ((((w.alloc (.cells C 28)).alloc (.cells D 28)).alloc (.cells NX 26)).alloc (.cells NY 26)) (w.heap.size + 1 + 1 + 1) _ (heap_at _ _ _ (by simp)))
  cases h1 : x.receive with
  | true =>
    rw [h1] at a3
    have hr2 : Hid (R = (0, false)) := Lib.hid (by rw [← HF.out]; unfold fitE unlike; simp [h1])
    clear KL1 KL2 K1 K2 hcn
    go_wp2
    go_ret2
    exact ⟨by rw [hr2.out]; rfl, bl_alloc (bl_alloc (bl_alloc (bl_alloc (bl_refl w) _) _) _) _⟩
  | false =>
    rw [h1] at a3
    cases h2 : y.receive with
    | false =>
      rw [h2] at b3
      have hr2 : Hid (R = (0, false)) := Lib.hid (by rw [← HF.out]; unfold fitE unlike; simp [h1, h2])
      clear KL1 KL2 K1 K2 hcn
      go_wp2
      go_ret2
      exact ⟨by rw [hr2.out]; rfl, bl_alloc (bl_alloc (bl_alloc (bl_alloc (bl_refl w) _) _) _) _⟩
    | true =>
      rw [h2] at b3
      cases h3 : x.cancel with
      | true =>
        rw [h3] at a2
        have hr2 : Hid (R = (0, false)) := Lib.hid (by rw [← HF.out]; unfold fitE unlike; simp [h1, h2, h3])
        clear KL1 KL2 K1 K2 hcn
        go_wp2
        go_ret2
        exact ⟨by rw [hr2.out]; rfl, bl_alloc (bl_alloc (bl_alloc (bl_alloc (bl_refl w) _) _) _) _⟩
      | false =>
        rw [h3] at a2
        cases h4 : y.cancel with
        | true =>
          rw [h4] at b2
          have hr2 : Hid (R = (0, false)) := Lib.hid (by rw [← HF.out]; unfold fitE unlike; simp [h1, h2, h3, h4])
          clear KL1 KL2 K1 K2 hcn
          go_wp2
          go_ret2
          exact ⟨by rw [hr2.out]; rfl, bl_alloc (bl_alloc (bl_alloc (bl_alloc (bl_refl w) _) _) _) _⟩
        | false =>
          rw [h4] at b2
          cases h5 : (x.trade != y.trade) with
          | true =>
            have hr2 : Hid (R = (0, false)) := Lib.hid (by rw [← HF.out]; unfold fitE unlike; simp [h1, h2, h3, h4, h5])
            clear KL1 KL2 K1 K2 hcn
            go_wp2
            go_ret2
            exact ⟨by rw [hr2.out]; rfl, bl_alloc (bl_alloc (bl_alloc (bl_alloc (bl_refl w) _) _) _) _⟩
          | false =>
            cases h6 : (x.settle != y.settle) with
            | true =>
              have hr2 : Hid (R = (0, false)) := Lib.hid (by rw [← HF.out]; unfold fitE unlike; simp [h1, h2, h3, h4, h5, h6])
              clear KL1 KL2 K1 K2 hcn; go_wp2
              go_ret2
              exact ⟨by rw [hr2.out]; rfl, bl_alloc (bl_alloc (bl_alloc (bl_alloc (bl_refl w) _) _) _) _⟩
            | false =>
              have hcc := hcn.out
              cases h7 : sameCode x.code y.code with
              | false =>
                rw [h7] at hcc
                have hr2 : Hid (R = (0, false)) := Lib.hid (by rw [← HF.out]; unfold fitE unlike; simp [h1, h2, h3, h4, h5, h6, h7])
                go_wp2_with (first | (refine wpList_load_guarded 23 _ rfl _ _ rfl KL1.out (by rfl) ?_) | (refine wpList_load_guarded 23 _ rfl _ _ rfl KL2.out (by rfl) ?_))
                go_ret2
                exact ⟨by rw [hr2.out]; rfl, bl_alloc (bl_alloc (bl_alloc (bl_alloc (bl_refl w) _) _) _) _⟩
              | true =>
                rw [h7] at hcc
                cases h8 : (x.qty != y.qty) with
                | true =>
                  have hr2 : Hid (R = (0, false)) := Lib.hid (by rw [← HF.out]; unfold fitE unlike; simp [h1, h2, h3, h4, h5, h6, h7, h8])
                  go_wp2_with (first | (refine wpList_load_guarded 23 _ rfl _ _ rfl KL1.out (by rfl) ?_) | (refine wpList_load_guarded 23 _ rfl _ _ rfl KL2.out (by rfl) ?_))
                  go_ret2
                  exact ⟨by rw [hr2.out]; rfl, bl_alloc (bl_alloc (bl_alloc (bl_alloc (bl_refl w) _) _) _) _⟩
                | false =>
                  cases h9 : x.pay <;> cases h10 : y.pay <;> rw [h9] at a4 <;> rw [h10] at b4
                  · exact absurd hun (by unfold unlike; simp [h1, h2, h3, h4, h5, h6, h7, h8, h9, h10])
                  · have hr2 : Hid (R = (0, false)) := Lib.hid (by rw [← HF.out]; unfold fitE unlike; simp [h1, h2, h3, h4, h5, h6, h7, h8, h9, h10])
                    go_wp2_with (first | (refine wpList_load_guarded 23 _ rfl _ _ rfl KL1.out (by rfl) ?_) | (refine wpList_load_guarded 23 _ rfl _ _ rfl KL2.out (by rfl) ?_))
                    go_ret2
                    exact ⟨by rw [hr2.out]; rfl, bl_alloc (bl_alloc (bl_alloc (bl_alloc (bl_refl w) _) _) _) _⟩
                  · have hr2 : Hid (R = (0, false)) := Lib.hid (by rw [← HF.out]; unfold fitE unlike; simp [h1, h2, h3, h4, h5, h6, h7, h8, h9, h10])
                    go_wp2_with (first | (refine wpList_load_guarded 23 _ rfl _ _ rfl KL1.out (by rfl) ?_) | (refine wpList_load_guarded 23 _ rfl _ _ rfl KL2.out (by rfl) ?_))
                    go_ret2
                    exact ⟨by rw [hr2.out]; rfl, bl_alloc (bl_alloc (bl_alloc (bl_alloc (bl_refl w) _) _) _) _⟩
                  · exact absurd hun (by unfold unlike; simp [h1, h2, h3, h4, h5, h6, h7, h8, h9, h10])
end Go.Proofs.YtphabkaiheplpaaGreatDoor
/- The document's Fit by contract. -/
set_option linter.unusedVariables false
set_option linter.unusedSimpArgs false
set_option maxRecDepth 100000
namespace Go.Proofs.YtphabkaiheplpaaGreatDoor
open Go.RowKit Go.Shelf

theorem ba_beq (a b : ByteArray) : (a == b) = decide (a.data = b.data) := by
  cases a with | mk x => cases b with | mk y =>
  show (x == y) = _
  rw [Bool.eq_iff_iff]; simp
theorem txt_ne (a b : ByteArray) : (a != b) = !decide (a.toList = b.toList) := by
  have q : (a == b) = decide (a.toList = b.toList) := by
    rw [ba_beq, ByteArray.toList_eq, ByteArray.toList_eq]
    simp [Array.toList_inj]
  simp [bne, q]
/-- What the document answers where nothing is unlike. -/
theorem fit_like {p q : Int} {x y : Nt} {zs : List ByteArray} {tol : Int} {R : Int × Bool} (h1 : Hid (x.receive = false)) (h2 : Hid (y.receive = true)) (h3 : Hid (x.cancel = false)) (h4 : Hid (y.cancel = false)) (h5 : Hid ((x.trade != y.trade) = false)) (h6 : Hid ((x.settle != y.settle) = false)) (h7 : Hid (sameCode x.code y.code = true)) (h8 : Hid ((x.qty != y.qty) = false)) (h9 : Hid (x.pay = y.pay)) (hF : Hid (fitE p q x y zs tol = R)) :
    ((x.account != y.other || x.other != y.account || !isB zs q x.agent || !isB zs p y.agent) = true → R = (0, false)) ∧ ((x.account != y.other || x.other != y.account || !isB zs q x.agent || !isB zs p y.agent) = false → (x.pay = false → R = (0, true)) ∧ (x.pay = true → R = if (x.currency != y.currency || !nearB x.amount y.amount tol) then (0, false) else (x.amount, true))) := by
  have hu : unlike x y = false := by unfold unlike; simp [h1.out, h2.out, h3.out, h4.out, h5.out, h6.out, h7.out, h8.out, h9.out]
  have hF := hF.out
  unfold fitE at hF
  rw [hu] at hF
  subst hF
  refine ⟨fun h => ?_, fun h => ⟨fun hp => ?_, fun hp => ?_⟩⟩
  · rw [if_neg (by simp), if_pos (by simpa using h)]
  · rw [if_neg (by simp), if_neg (by simpa using h), if_pos (by simp [hp])]
  · rw [if_neg (by simp), if_neg (by simpa using h), if_neg (by simp [hp])]
set_option maxHeartbeats 16000000 in
theorem refFit_like (p q : Int) (x y : Nt) (A : Option Addr) (n c : Nat) (zs : List ByteArray) (tol : Int) (w : World) (hp : I64 p) (hq : I64 q) (hx : x.wf) (hy : y.wf) (ht : I64 tol) (hr : RdT w A n zs) (hsh : Short zs) (hn : n ≤ 140737488351232) (h1 : x.receive = false) (h2 : y.receive = true) (h3 : x.cancel = false) (h4 : y.cancel = false) (h5 : (x.trade != y.trade) = false) (h6 : (x.settle != y.settle) = false) (h7 : sameCode x.code y.code = true) (h8 : (x.qty != y.qty) = false) (h9 : x.pay = y.pay) :
    Calls Tryz.prog 73 #[sideV p x, sideV q y, .slice A n c, .int .i64 tol] w fun e w' => e = .returned (.tuple #[.int .i64 (fitE p q x y zs tol).1, .bool (fitE p q x y zs tol).2]) ∧ Below w.heap.size w w' := by
  generalize hF : fitE p q x y zs tol = R
  have HF := Lib.hid hF
  clear hF
  rw [sideV_agg, sideV_agg]
  have L1 := Lib.hid (load_note p x ((w.alloc (.cells (sideC p x) 28)).alloc (.cells (sideC q y) 28)) w.heap.size _ (heap_alloc2_old w _ _))
  have L2 := Lib.hid (load_note q y (((w.alloc (.cells (sideC p x) 28)).alloc (.cells (sideC q y) 28)).alloc (.cells (noteC x) 26)) (w.heap.size + 1) _ (by rw [heap_alloc_old _ _ (by simp)]; exact heap_alloc2_new w _ _))
  have S1 := Lib.hid (store_note x)
  have S2 := Lib.hid (store_note y)
  have c0 : (sideC p x)[0]? = some (.int .i64 p) := rfl
  have d0 : (sideC q y)[0]? = some (.int .i64 q) := rfl
  generalize sideC p x = C at L1 L2 c0 ⊢
  generalize sideC q y = D at L1 L2 d0 ⊢
  obtain ⟨a2, a3, a4, a5, a6, a19, a20, a21, a22, a23, a24⟩ := note_cells x
  obtain ⟨b2, b3, b4, b5, b6, b19, b20, b21, b22, b23, b24⟩ := note_cells y
  have K1 := Lib.hid (load_code x)
  have K2 := Lib.hid (load_code y)
  have hcn := Lib.hid (fun w => code_neq x.code y.code hx.code hy.code w)
  generalize noteC x = NX at L1 L2 S1 K1 a2 a3 a4 a5 a6 a19 a20 a21 a22 a23 a24
  generalize noteC y = NY at L2 S2 K2 b2 b3 b4 b5 b6 b19 b20 b21 b22 b23 b24
  go_enter Tryz.func73, Tryz.ntmps73
  go_upto_region 1 with fail
  go_upto_region 2 with (first | (refine wpList_load_known rfl 26 _ rfl _ _ rfl L1.out ?_) | (refine wpList_store_known rfl 26 _ _ rfl _ _ rfl rfl (S1.out _ _ (by simp) _ rfl _) ?_))
  go_upto_region 3 with (first | (refine wpList_load_known rfl 26 _ rfl _ _ rfl L2.out ?_) | (refine wpList_store_known rfl 26 _ _ rfl _ _ rfl rfl (S2.out _ _ (by simp) _ rfl _) ?_))
  clear L1 L2 S1 S2
  have KL1 := Lib.hid (K1.out ((((w.alloc (.cells C 28)).alloc (.cells D 28)).alloc (.cells NX 26)).alloc (.cells NY 26)) (w.heap.size + 1 + 1) _ (by rw [heap_alloc_old _ _ (by simp)]; exact heap_at _ _ _ (by simp)))
  have KL2 := Lib.hid (K2.out ((((w.alloc (.cells C 28)).alloc (.cells D 28)).alloc (.cells NX 26)).alloc (.cells NY 26)) (w.heap.size + 1 + 1 + 1) _ (heap_at _ _ _ (by simp)))
  have g1 := Lib.hid h1
  have g2 := Lib.hid h2
  have g3 := Lib.hid h3
  have g4 := Lib.hid h4
  have g5 := Lib.hid h5
  have g6 := Lib.hid h6
  have g7 := Lib.hid h7
  have g8 := Lib.hid h8
  have g9 := Lib.hid h9
  rw [h1] at a3
  rw [h2] at b3
  rw [h3] at a2
  rw [h4] at b2
  have hcc := hcn.out
  rw [h7] at hcc
  clear h1 h2 h3 h4
  have G5 := Lib.hid h5
  have hqp : Hid (y.pay = x.pay) := Lib.hid h9.symm
  rw [← h9] at b4
  clear h9
  have HB4 : Hid (Below w.heap.size w ((((w.alloc (.cells C 28)).alloc (.cells D 28)).alloc (.cells NX 26)).alloc (.cells NY 26))) := Lib.hid (bl_alloc (bl_alloc (bl_alloc (bl_alloc (bl_refl w) _) _) _) _)
  go_upto_region 5 with (first | (refine wpList_load_guarded 23 _ rfl _ _ rfl KL1.out (by rfl) ?_) | (refine wpList_load_guarded 23 _ rfl _ _ rfl KL2.out (by rfl) ?_))
  have HR := Lib.hid hr
  have HSH := Lib.hid hsh
  have hxa := hx.agent
  have hya := hy.agent
  have hxm := hx.amount
  have hym := hy.amount
  clear hr hsh hx hy a2 a3 a5 a6 a19 b2 b3 b4 b5 b6 b19 K1 K2 KL1 KL2 hcn hcc
  clear h5 h6 h7 h8
  go_cut [95] (fun cc wx => cc = .bool (x.account != y.other || x.other != y.account || !isB zs q x.agent || !isB zs p y.agent) ∧ Below ((((w.alloc (.cells C 28)).alloc (.cells D 28)).alloc (.cells NX 26)).alloc (.cells NY 26)).heap.size ((((w.alloc (.cells C 28)).alloc (.cells D 28)).alloc (.cells NX 26)).alloc (.cells NY 26)) wx)
  case first =>
    generalize hv3 : isB zs q x.agent = v3
    generalize hv4 : isB zs p y.agent = v4
    have H3 := Lib.hid hv3
    have H4 := Lib.hid hv4
    clear hv3 hv4
    go_wp2_with (first | (go_at_call 78; (with_reducible refine (is22_at A n c zs q x.agent H3.out HB4.out HR.out HSH.out hxa hn).mono ?_); rintro e w1 ⟨rfl, hb1⟩; obtain ⟨kc1, kf1⟩ := bcell hb1; have HB5 := Lib.hid (bl_then HB4.out hb1); have hb1' := Lib.hid hb1; clear hb1) | (go_at_call 78; (with_reducible refine (is22_at A n c zs p y.agent H4.out HB5.out HR.out HSH.out hya hn).mono ?_); rintro e w2 ⟨rfl, hb2⟩; have HB6 := Lib.hid (bl_then hb1'.out hb2); clear hb2))
    all_goals go_meet
    all_goals refine ⟨?_, ?_⟩
    all_goals first | exact HB6.out | exact hb1'.out | exact bl_refl _ | (simp only [txt_ne, *]; simp only [decide_true, decide_false, Bool.not_true, Bool.not_false, Bool.true_or, Bool.or_true, Bool.false_or, Bool.or_false]; done) | (have k3 := H3.out; have k4 := H4.out; simp only [txt_ne, k3, k4]; simp [*]; done)
  case rest =>
    obtain ⟨rfl, hbx⟩ := hcut
    obtain ⟨kc, kf⟩ := bcell hbx
    have HBX := Lib.hid (bl_then HB4.out hbx)
    clear hbx HR HSH
    have HF2 := Lib.hid (fit_like g1 g2 g3 g4 g5 g6 g7 g8 g9 HF)
    generalize (x.account != y.other || x.other != y.account || !isB zs q x.agent || !isB zs p y.agent) = bad at HF2 ⊢
    have hun := HF2.out
    clear HF2 g1 g2 g3 g4 g5 g6 g7 g8 g9
    cases bad with
    | true =>
      have hr2 := Lib.hid (hun.1 rfl)
      clear hun
      go_wp2
      go_ret2
      exact ⟨by rw [hr2.out]; rfl, HBX.out⟩
    | false =>
      have hun2 := hun.2 rfl
      clear hun
      cases hp5 : x.pay with
      | false =>
        rw [hp5] at a4
        have hr2 := Lib.hid (hun2.1 hp5)
        clear hun2 hp5
        go_wp2
        go_ret2
        exact ⟨by rw [hr2.out]; rfl, HBX.out⟩
      | true =>
        rw [hp5] at a4
        have hun3 := Lib.hid (hun2.2 hp5)
        clear hun2 hp5
        generalize hv3 : nearB x.amount y.amount tol = v3 at hun3
        have H6 := Lib.hid hv3
        clear hv3
        go_wp2_with (go_at_call 110; (with_reducible refine (refNear_at x.amount y.amount tol H6.out hxm hym ht _).mono ?_); rintro e w3 ⟨rfl, rfl⟩)
        all_goals go_ret2
        all_goals refine ⟨?_, HBX.out⟩
        all_goals rw [hun3.out]
        all_goals simp only [txt_ne]
        all_goals first | (rw [if_pos (by simp [*])]; rfl) | (rw [if_neg (by simp [*])]; rfl)
theorem refFit_any (p q : Int) (x y : Nt) (A : Option Addr) (n c : Nat) (zs : List ByteArray) (tol : Int) (w : World) (hp : I64 p) (hq : I64 q) (hx : x.wf) (hy : y.wf) (ht : I64 tol) (hr : RdT w A n zs) (hsh : Short zs) (hn : n ≤ 140737488351232) :
    Calls Tryz.prog 73 #[sideV p x, sideV q y, .slice A n c, .int .i64 tol] w fun e w' => e = .returned (.tuple #[.int .i64 (fitE p q x y zs tol).1, .bool (fitE p q x y zs tol).2]) ∧ Below w.heap.size w w' := by
  cases hu : unlike x y with
  | true => exact refFit_unlike p q x y A n c zs tol w hp hq hx hy ht hr hsh hn hu
  | false =>
    unfold unlike at hu
    simp only [Bool.or_eq_false_iff, Bool.not_eq_false'] at hu
    obtain ⟨⟨⟨⟨⟨⟨⟨⟨h1, h2⟩, h3⟩, h4⟩, h5⟩, h6⟩, h7⟩, h8⟩, h9⟩ := hu
    exact refFit_like p q x y A n c zs tol w hp hq hx hy ht hr hsh hn h1 h2 h3 h4 h5 h6 h7 h8 (by simpa using h9)
end Go.Proofs.YtphabkaiheplpaaGreatDoor
