/- The largest remainder in plain Lean: what is dealt out by whole parts and by the order of the rests. -/
import Derived.Test.YtccnfklemalmeaaSortP
import Derived.Test.YtccnfklemalmeaaShBase
set_option linter.unusedVariables false
set_option linter.unusedSimpArgs false
set_option maxRecDepth 100000
namespace Go.Proofs.Ytccnfklemalmeaa
open Go.Sort

/-- May n be dealt out by these weights? -/
def FitS (n : Int) (xs : List Int) : Prop := 0 ≤ n ∧ xs.any (fun x => decide (x < 0)) = false ∧ xs.any (fun x => decide (0 < x)) = true ∧ theSum xs ≤ 9223372036854775807

/-- The sum of the first so many. -/
def sumTo (f : Nat → Int) : Nat → Int
  | 0 => 0
  | k + 1 => sumTo f k + f k
theorem sumTo_congr {f g : Nat → Int} : ∀ (l : Nat), (∀ j, j < l → f j = g j) → sumTo f l = sumTo g l
  | 0, _ => rfl
  | l + 1, h => by simp only [sumTo]; rw [sumTo_congr l fun j hj => h j (by omega), h l (by omega)]
theorem sumTo_one {f g : Nat → Int} {i : Nat} (hi : g i = f i + 1) (ho : ∀ j, j ≠ i → g j = f j) : ∀ (l : Nat), i < l → sumTo g l = sumTo f l + 1
  | 0, h => by omega
  | l + 1, h => by
    simp only [sumTo]
    by_cases e : i = l
    · subst e
      rw [sumTo_congr (f := g) (g := f) i fun j hj => ho j (by omega), hi]
      omega
    · rw [sumTo_one hi ho l (by omega), ho l (by omega)]
      omega
theorem sumTo_list (xs : List Int) : ∀ k, k ≤ xs.length → theSum (xs.take k) = sumTo (fun j => xs.getD j 0) k
  | 0, _ => by simp [theSum, sumTo]
  | k + 1, h => by
    rw [take_next xs k (by omega), theSum_append, sumTo_list xs k (by omega)]
    simp [theSum, sumTo]
theorem sumTo_all {xs : List Int} {l : Nat} (h : xs.length = l) : theSum xs = sumTo (fun j => xs.getD j 0) l := by
  have := sumTo_list xs l (by omega)
  rw [List.take_of_length_le (by omega)] at this
  exact this
theorem sumTo_nonneg {f : Nat → Int} : ∀ (l : Nat), (∀ j, j < l → 0 ≤ f j) → 0 ≤ sumTo f l
  | 0, _ => Int.le_refl 0
  | l + 1, h => by
    have := sumTo_nonneg l fun j hj => h j (by omega)
    have := h l (by omega)
    simp only [sumTo]
    omega
theorem sumTo_mono {f : Nat → Int} (l : Nat) : ∀ (k : Nat), (∀ j, j < k + l → 0 ≤ f j) → sumTo f k ≤ sumTo f (k + l) := by
  induction l with
  | zero => intro k h; exact Int.le_refl _
  | succ l ih =>
    intro k h
    have := ih k fun j hj => h j (by omega)
    have := h (k + l) (by omega)
    show sumTo f k ≤ sumTo f (k + l) + f (k + l)
    omega
theorem sumTo_part {f : Nat → Int} {k l : Nat} (hk : k ≤ l) (h : ∀ j, j < l → 0 ≤ f j) : sumTo f k ≤ sumTo f l := by
  obtain ⟨m, rfl⟩ : ∃ m, l = k + m := ⟨l - k, by omega⟩
  exact sumTo_mono m k h
theorem sumTo_elem {f : Nat → Int} {k l : Nat} (hk : k < l) (h : ∀ j, j < l → 0 ≤ f j) : f k ≤ sumTo f l := by
  have a := sumTo_part (f := f) (k := k + 1) (l := l) (by omega) h
  have b := sumTo_nonneg (f := f) k fun j hj => h j (by omega)
  simp only [sumTo] at a
  omega
theorem sumTo_mul (c : Int) (f : Nat → Int) : ∀ l, sumTo (fun j => c * f j) l = c * sumTo f l
  | 0 => by simp [sumTo]
  | l + 1 => by simp only [sumTo]; rw [sumTo_mul c f l, Int.mul_add]
theorem sumTo_add (f g : Nat → Int) : ∀ l, sumTo (fun j => f j + g j) l = sumTo f l + sumTo g l
  | 0 => by simp [sumTo]
  | l + 1 => by simp only [sumTo]; rw [sumTo_add f g l]; omega
/-- At most p of them count, each no more than T. -/
theorem sumTo_few {f : Nat → Int} {T : Int} {p : Nat} (hT : 0 ≤ T) (hf : ∀ x, f x ≤ T) : ∀ (l : Nat), (∀ x, p ≤ x → x < l → f x ≤ 0) → sumTo f l ≤ T * (p : Int)
  | 0, _ => by
    have : 0 ≤ T * (p : Int) := Int.mul_nonneg hT (by omega)
    simpa [sumTo] using this
  | l + 1, h => by
    simp only [sumTo]
    by_cases e : p ≤ l
    · have := sumTo_few hT hf l fun x x1 x2 => h x x1 (by omega)
      have := h l e (by omega)
      omega
    · have a : sumTo f l ≤ T * (l : Int) := sumTo_few hT hf l fun x x1 x2 => by omega
      have b := hf l
      have c : T * ((l : Int) + 1) ≤ T * (p : Int) := Int.mul_le_mul_of_nonneg_left (by omega) hT
      rw [Int.mul_add, Int.mul_one] at c
      omega

theorem theSum_perm {a b : List Int} (h : a.Perm b) : theSum a = theSum b := by
  induction h with
  | nil => rfl
  | cons x _ ih => simp only [theSum, ih]
  | swap x y l => simp only [theSum]; omega
  | trans _ _ ih1 ih2 => rw [ih1, ih2]

/-! ### an order of the places -/
def Places (l : Nat) : Array Nat := Array.range l
theorem places_size (l : Nat) : (Places l).size = l := by simp [Places]
theorem places_at {l i : Nat} (h : i < l) : (Places l)[i]! = i := by
  unfold Places
  rw [getElem!_pos _ i (by simpa using h)]
  simp
theorem places_fresh (l : Nat) : Fresh 0 l (Places l) := fun i h1 h2 => places_at h2
theorem order_list {l : Nat} {d : Array Nat} (h : PermIn 0 l (Places l) d) : ((List.range' 0 l).map (fun i => d[i]!)).Perm ((List.range' 0 l).map (fun i => (Places l)[i]!)) := by
  have h1 := h.2.2
  have hs : d.size = l := h.1.trans (places_size l)
  rw [extract_toList d 0 l (by omega), extract_toList (Places l) 0 l (by rw [places_size]; exact Nat.le_refl _)] at h1
  exact h1
theorem places_list (l : Nat) : (List.range' 0 l).map (fun i => (Places l)[i]!) = List.range' 0 l := by
  rw [List.map_congr_left (g := id) fun i hi => ?_]
  · simp
  · have : i < l := by
      have := List.mem_range'_1.1 hi
      omega
    exact places_at this
theorem order_inj {l : Nat} {d : Array Nat} (h : PermIn 0 l (Places l) d) {i j : Nat} (hi : i < l) (hj : j < l) (e : d[i]! = d[j]!) : i = j := by
  have hn : ((List.range' 0 l).map (fun i => d[i]!)).Nodup := by
    rw [(order_list h).nodup_iff, places_list]
    exact List.nodup_range'
  have H : ∀ a b : Nat, a < b → b < l → d[a]! ≠ d[b]! := fun a b hab hb => by
    have := (List.pairwise_iff_getElem.1 hn) a b (by simp; omega) (by simp; omega) hab
    simpa using this
  by_cases h1 : i < j
  · exact absurd e (H i j h1 hj)
  · by_cases h2 : j < i
    · exact absurd e.symm (H j i h2 hi)
    · omega
theorem order_lt {l : Nat} {d : Array Nat} (h : PermIn 0 l (Places l) d) {i : Nat} (hi : i < l) : d[i]! < l :=
  perm_all (p := fun x => x < l) h (by rw [places_size]; exact Nat.le_refl _) (fun k k1 k2 => by show (Places l)[k]! < l; rw [places_at k2]; exact k2) i (Nat.zero_le _) hi
theorem order_surj {l : Nat} {d : Array Nat} (h : PermIn 0 l (Places l) d) {j : Nat} (hj : j < l) : ∃ x, x < l ∧ d[x]! = j := by
  have hm : j ∈ (List.range' 0 l).map (fun i => d[i]!) := by
    rw [(order_list h).mem_iff, places_list]
    exact List.mem_range'_1.2 ⟨Nat.zero_le _, by omega⟩
  obtain ⟨x, hx, e⟩ := List.mem_map.1 hm
  have := List.mem_range'_1.1 hx
  exact ⟨x, by omega, e⟩
theorem sumTo_range (f : Nat → Int) : ∀ l, theSum ((List.range' 0 l).map f) = sumTo f l
  | 0 => rfl
  | l + 1 => by
    rw [List.range'_concat, List.map_append, theSum_append, sumTo_range f l]
    simp [theSum, sumTo]
theorem order_sum {l : Nat} {d : Array Nat} (h : PermIn 0 l (Places l) d) (f : Nat → Int) : sumTo (fun x => f d[x]!) l = sumTo f l := by
  have := theSum_perm ((order_list h).map f)
  rw [places_list, List.map_map] at this
  rw [← sumTo_range, ← sumTo_range]
  exact this
/-- The order is one alone. -/
theorem order_one {key : Nat → Int} {l : Nat} {d d2 : Array Nat} (h : PermIn 0 l (Places l) d) (h2 : PermIn 0 l (Places l) d2) (s : SegS key 0 l d) (s2 : SegS key 0 l d2) : d = d2 := by
  have A : ∀ x y : Nat, aheadB key x y = false → aheadB key y x = false → x = y := fun x y h1 h2 => by
    simp only [aheadB, decide_eq_false_iff_not] at h1 h2
    omega
  have S : ∀ {d : Array Nat}, SegS key 0 l d → SortedIn (aheadB key) 0 (Places l).size d := fun {d} s i j i1 i2 i3 => by
    have := s i j i1 i2 (by rw [places_size] at i3; exact i3)
    simp only [aheadB, decide_eq_false_iff_not]
    unfold Ahead at this
    omega
  have e := places_size l
  have a := sorted_unique_holds (aheadB_swo key) A (Places l) d (by rw [e]; exact h) (S s)
  have b := sorted_unique_holds (aheadB_swo key) A (Places l) d2 (by rw [e]; exact h2) (S s2)
  exact Array.toList_inj.1 (a.trans b.symm)
theorem seg_scale {key : Nat → Int} {c : Int} (hc : 0 < c) {a b : Nat} {d : Array Nat} (h : SegS (fun x => c * key x) a b d) : SegS key a b d := fun i j i1 i2 i3 => by
  have := h i j i1 i2 i3
  unfold Ahead at *
  rcases this with t | ⟨t, u⟩
  · exact .inl (Int.lt_of_mul_lt_mul_left t (by omega))
  · exact .inr ⟨Int.eq_of_mul_eq_mul_left (by omega) t, u⟩
end Go.Proofs.Ytccnfklemalmeaa
