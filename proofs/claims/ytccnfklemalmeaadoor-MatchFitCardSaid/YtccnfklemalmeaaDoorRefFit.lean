/- match.Fit and the document's Fit: a side as a value; the document's Fit by contract. -/
import Derived.Test.YtccnfklemalmeaaDoorWide
set_option linter.unusedVariables false
set_option linter.unusedSimpArgs false
set_option maxRecDepth 100000
namespace Go.Proofs.YtccnfklemalmeaaDoor
open Go.RowKit Go.Shelf

/-- A notice as its cells hold it. -/
structure Nt where
  ref : ByteArray
  prev : ByteArray
  cancel : Bool
  receive : Bool
  pay : Bool
  trade : Int
  settle : Int
  code : Nat → Int
  qty : Int
  account : ByteArray
  agent : ByteArray
  other : ByteArray
  amount : Int
  currency : ByteArray
  priority : Int
  la : Option Addr
  ln : Nat
  lc : Nat
def sideV (p : Int) (x : Nt) : Value := .agg #[.int .i64 p, .string x.ref, .string x.prev, .bool x.cancel, .bool x.receive, .bool x.pay, .int .i64 x.trade, .int .i64 x.settle,
  .int .u8 (x.code 0), .int .u8 (x.code 1), .int .u8 (x.code 2), .int .u8 (x.code 3), .int .u8 (x.code 4), .int .u8 (x.code 5), .int .u8 (x.code 6), .int .u8 (x.code 7), .int .u8 (x.code 8), .int .u8 (x.code 9), .int .u8 (x.code 10), .int .u8 (x.code 11),
  .int .i64 x.qty, .string x.account, .string x.agent, .string x.other, .int .i64 x.amount, .string x.currency, .int .i64 x.priority, .slice x.la x.ln x.lc]
def codeV (f : Nat → Int) : Array Value := #[.int .u8 (f 0), .int .u8 (f 1), .int .u8 (f 2), .int .u8 (f 3), .int .u8 (f 4), .int .u8 (f 5), .int .u8 (f 6), .int .u8 (f 7), .int .u8 (f 8), .int .u8 (f 9), .int .u8 (f 10), .int .u8 (f 11)]
/-- What the input's form says of it. -/
structure Nt.wf (x : Nt) : Prop where
  trade : I64 x.trade
  settle : I64 x.settle
  code : ∀ i, 0 ≤ x.code i ∧ x.code i ≤ 255
  qty : I64 x.qty
  account : x.account.size ≤ 140737488351232
  agent : x.agent.size ≤ 140737488351232
  other : x.other.size ≤ 140737488351232
  amount : I64 x.amount
  currency : x.currency.size ≤ 140737488351232
def sameCode (f g : Nat → Int) : Bool := decide (f 0 = g 0 ∧ f 1 = g 1 ∧ f 2 = g 2 ∧ f 3 = g 3 ∧ f 4 = g 4 ∧ f 5 = g 5 ∧ f 6 = g 6 ∧ f 7 = g 7 ∧ f 8 = g 8 ∧ f 9 = g 9 ∧ f 10 = g 10 ∧ f 11 = g 11)
theorem code_key : Tryd.prog.keyTypeAt 3 54 = true := by kernel_rfl
theorem code_lits (f : Nat → Int) (hf : ∀ i, 0 ≤ f i ∧ f i ≤ 255) : Tryd.prog.keyLits 3 54 (codeV f).toList =
    some [.int .u8 (f 0), .int .u8 (f 1), .int .u8 (f 2), .int .u8 (f 3), .int .u8 (f 4), .int .u8 (f 5), .int .u8 (f 6), .int .u8 (f 7), .int .u8 (f 8), .int .u8 (f 9), .int .u8 (f 10), .int .u8 (f 11)] := by
  have u1 := Tryd.underlying54
  have u2 := Tryd.underlying5
  have c1 : Tryd.prog.cellsOf 54 = 12 := by kernel_rfl
  have c2 : Tryd.prog.cellsOf 5 = 1 := by kernel_rfl
  have wf : ∀ i, (Lit.int .u8 (f i)).wf = true := fun i => by
    have h := hf i
    have h1 : IntKind.u8.min = 0 := by decide
    have h2 : IntKind.u8.max = 255 := by decide
    simp only [Lit.wf, h1, h2, h.1, h.2, decide_true, Bool.and_self]
  simp [codeV, Program.keyLits, u1, u2, c1, c2, wf, List.range, List.range.loop]
theorem code_formed (f : Nat → Int) : (Value.agg (codeV f)).formed Tryd.prog 54 = true := by kernel_rfl
theorem code_neq (f g : Nat → Int) (hf : ∀ i, 0 ≤ f i ∧ f i ≤ 255) (hg : ∀ i, 0 ≤ g i ∧ g i ≤ 255) (w : World) : (binOp .neq 54 (.agg (codeV f)) (.agg (codeV g))).run Tryd.prog w = .ok (.bool (!sameCode f g)) w :=
  neq_lits (m := 3) (by decide) code_key (code_formed f) (code_formed g) (code_lits f hf) (code_lits g hg) (by simp [sameCode]) w
/-- The two notices differ in what must be the same, or are not a deliverer's and a receiver's. -/
def unlike (x y : Nt) : Bool := x.receive || !y.receive || x.cancel || y.cancel || x.trade != y.trade || x.settle != y.settle || !sameCode x.code y.code || x.qty != y.qty || (x.pay != y.pay)
def fitE (p q : Int) (x y : Nt) (zs : List ByteArray) (tol : Int) : Int × Bool :=
  if unlike x y then (0, false)
  else if (x.account != y.other || x.other != y.account || !isB zs q x.agent || !isB zs p y.agent) then (0, false)
  else if !x.pay then (0, true)
  else if (x.currency != y.currency || !nearB x.amount y.amount tol) then (0, false)
  else (x.amount, true)
/-- The cells of a side and of its notice, hidden from the walk. -/
def sideC (p : Int) (x : Nt) : Array Value := match sideV p x with | .agg cs => cs | _ => #[]
def noteC (x : Nt) : Array Value := #[.string x.ref, .string x.prev, .bool x.cancel, .bool x.receive, .bool x.pay, .int .i64 x.trade, .int .i64 x.settle,
  .int .u8 (x.code 0), .int .u8 (x.code 1), .int .u8 (x.code 2), .int .u8 (x.code 3), .int .u8 (x.code 4), .int .u8 (x.code 5), .int .u8 (x.code 6), .int .u8 (x.code 7), .int .u8 (x.code 8), .int .u8 (x.code 9), .int .u8 (x.code 10), .int .u8 (x.code 11),
  .int .i64 x.qty, .string x.account, .string x.agent, .string x.other, .int .i64 x.amount, .string x.currency, .int .i64 x.priority, .slice x.la x.ln x.lc]
theorem noteC_one (x : Nt) : (noteC x).all (·.oneCell') = true := by simp [noteC, Value.oneCell']
theorem noteC_size (x : Nt) : (noteC x).size = 27 := rfl
end Go.Proofs.YtccnfklemalmeaaDoor
