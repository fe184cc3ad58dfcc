/- The Luhn sum in plain Lean: kept for both ways that the turns may fall, and reckoned from the end: one number. -/
import Derived.KernelRfl
set_option linter.unusedVariables false
set_option linter.unusedSimpArgs false
set_option maxRecDepth 100000
namespace Go.Proofs.YtblfobepaipebaaGreatDoor

/-- The digits of one sign. -/
def spread1 (c : Int) : List Int := if 48 ≤ c ∧ c ≤ 57 then [c - 48] else [(c - 65) / 10 + 1, (c - 65) % 10]
/-- A digit counted twice. -/
def tw (d : Int) : Int := if 4 < d then d * 2 % 10 + 1 else d * 2 % 10
/-- The digits in turns, once and twice. -/
def alt : Bool → List Int → Int
  | _, [] => 0
  | b, d :: r => (if b then tw d else d) + alt (!b) r
/-- The sum where the last digit counts once, and where it counts twice. -/
def luhn1 (ds : List Int) : Int := alt false ds.reverse
def luhn2 (ds : List Int) : Int := alt true ds.reverse
theorem luhn1_snoc (ds : List Int) (d : Int) : luhn1 (ds ++ [d]) = d + luhn2 ds := by simp [luhn1, luhn2, alt]
theorem luhn2_snoc (ds : List Int) (d : Int) : luhn2 (ds ++ [d]) = tw d + luhn1 ds := by simp [luhn1, luhn2, alt]
theorem tw_small {d : Int} (h0 : 0 ≤ d) (h : d ≤ 4) : tw d = 2 * d := by
  unfold tw
  rw [if_neg (by omega)]
  omega
theorem tw_great {d : Int} (h : 5 ≤ d) (h1 : d ≤ 9) : tw d = 2 * d - 9 := by
  unfold tw
  rw [if_pos (by omega)]
  omega
/-- All of them are digits. -/
def Dig (ds : List Int) : Prop := ∀ d ∈ ds, 0 ≤ d ∧ d ≤ 9
theorem alt_nonneg : ∀ (b : Bool) (ds : List Int), Dig ds → 0 ≤ alt b ds ∧ alt b ds ≤ 9 * ds.length
  | _, [], _ => by simp [alt]
  | b, d :: r, h => by
    have hd := h d (by simp)
    have ih := alt_nonneg (!b) r fun x hx => h x (by simp [hx])
    simp only [alt, List.length_cons]
    have ht : 0 ≤ tw d ∧ tw d ≤ 9 := by
      by_cases e : d ≤ 4
      · rw [tw_small hd.1 e]; omega
      · rw [tw_great (by omega) hd.2]; omega
    cases b <;> simp at ih ⊢ <;> omega
/-- Where the program's fold stands. -/
def Evo (ds : List Int) (even odd : Int) : Prop := even = luhn1 ds % 10 ∧ odd = luhn2 ds % 10
theorem Evo.start : Evo [] 0 0 := ⟨rfl, rfl⟩
theorem Evo.step {ds : List Int} {even odd d : Int} (h : Evo ds even odd) : Evo (ds ++ [d]) ((odd + d) % 10) ((even + tw d) % 10) := by
  obtain ⟨rfl, rfl⟩ := h
  refine ⟨?_, ?_⟩
  · rw [luhn1_snoc]; omega
  · rw [luhn2_snoc]; omega
/-- The document's loop, from the end. -/
theorem from_end {ds : List Int} {i : Nat} {b : Bool} {sum : Int} (hi : i < ds.length) (h : sum + alt b (ds.take (i + 1)).reverse = luhn1 ds) : (sum + (if b then tw (ds.getD i 0) else ds.getD i 0)) + alt (!b) (ds.take i).reverse = luhn1 ds := by
  have e : ds.take (i + 1) = ds.take i ++ [ds.getD i 0] := by
    rw [List.take_succ_eq_append_getElem hi]
    simp [List.getD_eq_getElem?_getD, hi]
  rw [e, List.reverse_append] at h
  simp only [List.reverse_cons, List.reverse_nil, List.nil_append, List.singleton_append, alt] at h
  omega
end Go.Proofs.YtblfobepaipebaaGreatDoor
