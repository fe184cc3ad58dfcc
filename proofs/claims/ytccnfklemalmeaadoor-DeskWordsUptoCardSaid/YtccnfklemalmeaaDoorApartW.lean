/- Words for lists that were handed out: several rows of the call's own, each in a block of its own; an append says whether the old block was left; what is read in blocks that nobody writes any more. -/
import Derived.Test.YtccnfklemalmeaaDoorOwn
set_option linter.unusedVariables false
set_option linter.unusedSimpArgs false
namespace Go.Proofs.YtccnfklemalmeaaDoor
open Go.RowKit

section
variable {P : Program} (w : World)
/-- append onto a row of the call's own: the same block, which alone has turned; or a new one, and nothing that was has turned. -/
theorem run_append_two (base : Nat) (t ty e : TypeId) (i : TypeInfo) (z : Value) (size bytes : Nat) (ht : P.underlying t = some (.slice e)) (hi : P.info? e = some i) (hz : i.zero = some z)
    (hsize : i.size = size) (hby : i.bytes = bytes) (hzs : z.cells.size = size) (hsz : 0 < size)
    (v : Value) (n : Nat) (xs : List Value) (hown : w.ownsRow base e size v n xs)
    (a : Addr) (m c : Nat) (news : List Value) (hl : news.length = m * size) (hnews : ∀ j u, news[j]? = some u → w.cell? (a.add j) = some u) (h1 : ∀ u ∈ news, u.oneCell' = true)
    (h63 : n + m ≤ maxLen) (hbytes : (n + m) * bytes ≤ 140737488355328) (hbase : base ≤ w.heap.size) :
    ∃ v' w', (Builtin.append_ #[t, t] ty #[v, .slice (some a) m c]).run P w = .ok v' w' ∧ w'.ownsRow base e size v' (n + m) (xs ++ news) ∧
      ((v'.ownBlock = v.ownBlock ∧ w.grownBy w' v.ownBlock) ∨ (v'.ownBlock = some w.heap.size ∧ w.grownBy w' none)) := by
  obtain ⟨v', w', hr, h2, h3, h4, h5⟩ := run_append_own_at (P := P) w base t ty e i z size bytes ht hi hz hsize hby hzs hsz v n xs hown a m c news hl hnews h1 h63 hbytes hbase
  refine ⟨v', w', hr, h2, ?_⟩
  rcases h5 with h5 | h5
  · exact .inl ⟨h5, h3⟩
  · have hsmall : n + m ≤ 9223372036854775807 := by simp only [maxLen] at h63; omega
    rcases hown.2 with ⟨rfl, rfl⟩ | ⟨g, cap, cur, rfl, hbg, hg, hnc, hcm, hcs, htake⟩
    · exact .inr ⟨h5, h3⟩
    · subst hsize
      by_cases hroom : n + m ≤ cap
      · have hfit : n * i.size + news.length ≤ cur.size := by rw [hl, hcs, ← Nat.add_mul]; exact Nat.mul_le_mul_right _ hroom
        have hr2 := run_append_room (P := P) w t ty e i ht hi g n cap cur hg a m c news hl hnews h1 hroom hfit
        rw [hr] at hr2
        injection hr2 with e1 e2
        subst e1
        exact .inl ⟨rfl, h3⟩
      · have holds : ∀ j u, xs[j]? = some u → w.cell? ((⟨g, 0, none⟩ : Addr).add j) = some u := hown.cells (g := g) rfl
        subst hby
        have hr2 := run_append_grow (P := P) w t ty e i z ht hi hz ⟨g, 0, none⟩ n cap xs hown.1 holds a m c news hl hnews (by omega) (by omega) (growslice_fits (by omega) hbytes)
        rw [hr] at hr2
        injection hr2 with e1 e2
        subst e2
        exact .inr ⟨h5, ⟨rfl, rfl, rfl, by simp, fun k hk _ => heap_alloc_old w.drew _ hk⟩⟩
theorem wpList_append_two {ops : Array Oper} {rest : List Oper} {o : Oper} {a : Act} {Q : Exit → Act → World → Prop} (hgd : o.guard = none) (s x : Operand) (t : TypeId)
    (ho : o.op = .call { callee := .builtin .append, args := #[s, x], argTypes := #[t, t] })
    (base : Nat) (e : TypeId) (i : TypeInfo) (z : Value) (size bytes : Nat) (ht : P.underlying t = some (.slice e)) (hi : P.info? e = some i) (hz : i.zero = some z)
    (hsize : i.size = size) (hby : i.bytes = bytes) (hzs : z.cells.size = size) (hsz : 0 < size)
    (v : Value) (n : Nat) (xs : List Value) (hs : a.eval s = v) (hown : w.ownsRow base e size v n xs)
    (ad : Addr) (m c : Nat) (news : List Value) (hx : a.eval x = .slice (some ad) m c) (hl : news.length = m * size) (hnews : ∀ j u, news[j]? = some u → w.cell? (ad.add j) = some u) (h1 : ∀ u ∈ news, u.oneCell' = true)
    (h63 : n + m ≤ maxLen) (hbytes : (n + m) * bytes ≤ 140737488355328) (hbase : base ≤ w.heap.size)
    (h : ∀ v' w', w'.ownsRow base e size v' (n + m) (xs ++ news) → ((v'.ownBlock = v.ownBlock ∧ w.grownBy w' v.ownBlock) ∨ (v'.ownBlock = some w.heap.size ∧ w.grownBy w' none)) → wpList P ops Q rest (a.put o.dst v') w') :
    wpList P ops Q (o :: rest) a w := by
  refine wpList_plain hgd fun K hK => ?_
  obtain ⟨v', w', hr, h2, h3⟩ := run_append_two (P := P) w base t o.type e i z size bytes ht hi hz hsize hby hzs hsz v n xs hown ad m c news hl hnews h1 h63 hbytes hbase
  unfold Oper.wp execOp
  simp only [ho, resolve, invoke, builtin, Sem.run_bind, Sem.run_pure, Result.andThen_ok, List.map_toArray, List.map_cons, List.map_nil, hs, hx, hr]
  exact hK _ _ (h v' w' h2 h3)
end

def upd {α : Type} (F : Nat → α) (k : Nat) (x : α) : Nat → α := fun j => if j = k then x else F j
theorem upd_at {α : Type} (F : Nat → α) (k : Nat) (x : α) : upd F k x k = x := by simp [upd]
theorem upd_ne {α : Type} (F : Nat → α) {k j : Nat} (x : α) (h : j ≠ k) : upd F k x j = F j := by simp [upd, h]
/-- What lies in blocks D stays. -/
def KeepD (D : List Nat) (w w' : World) : Prop := ∀ b, b ∈ D → w'.heap[b]? = w.heap[b]?
theorem KeepD.trans {D : List Nat} {w w1 w2 : World} (h : KeepD D w w1) (k : KeepD D w1 w2) : KeepD D w w2 := fun b hb => (k b hb).trans (h b hb)
theorem KeepD.refl (D : List Nat) (w : World) : KeepD D w w := fun _ _ => rfl
theorem KeepD.cell {D : List Nat} {w w1 : World} (h : KeepD D w w1) {a : Addr} {u : Value} (ha : a.block ∈ D) (hc : w.cell? a = some u) : w1.cell? a = some u := by
  have := h _ ha
  rw [← hc]
  simp only [World.cell?, this]
/-- A slice's cells, in blocks D. -/
def RdD (w : World) (D : List Nat) (v : Value) (n : Nat) (f : Nat → Value) : Prop := ∃ A c, v = .slice A n c ∧ n ≤ 9223372036854775807 ∧ (0 < n → ∃ ad, A = some ad ∧ ad.block ∈ D ∧ ∀ i, i < n → w.cell? (ad.add i) = some (f i))
theorem add_blk (a : Addr) (i : Nat) : (a.add i).block = a.block := by unfold Addr.add; split <;> rfl
theorem RdD.keep {w w1 : World} {D : List Nat} {v : Value} {n : Nat} {f : Nat → Value} (h : RdD w D v n f) (k : KeepD D w w1) : RdD w1 D v n f := by
  obtain ⟨A, c, e, hn, hr⟩ := h
  refine ⟨A, c, e, hn, fun hp => ?_⟩
  obtain ⟨ad, e1, hb, hc⟩ := hr hp
  exact ⟨ad, e1, hb, fun i hi => k.cell (by rw [add_blk]; exact hb) (hc i hi)⟩
theorem RdD.more {w : World} {D D' : List Nat} {v : Value} {n : Nat} {f : Nat → Value} (h : RdD w D v n f) (k : ∀ b, b ∈ D → b ∈ D') : RdD w D' v n f := by
  obtain ⟨A, c, e, hn, hr⟩ := h
  refine ⟨A, c, e, hn, fun hp => ?_⟩
  obtain ⟨ad, e1, hb, hc⟩ := hr hp
  exact ⟨ad, e1, k _ hb, hc⟩
/-- An owned row read; a shorter beginning of it too. -/
theorem RdD.of_own {w : World} {B : Nat} {E : TypeId} {g : Nat} {n cap : Nat} {xs : List Value} {D : List Nat} (h : w.ownsRow B E 1 (.slice (some ⟨g, 0, none⟩) n cap) n xs) (m c : Nat) (hm : m ≤ n) (f : Nat → Value) (hf : ∀ i, i < m → xs[i]? = some (f i)) (hg : g ∈ D) (hn : n ≤ 9223372036854775807) :
    RdD w D (.slice (some ⟨g, 0, none⟩) m c) m f :=
  ⟨_, _, rfl, by omega, fun _ => ⟨_, rfl, hg, fun i hi => h.cells (g := g) rfl i _ (hf i hi)⟩⟩

/-- Rows lo .. m-1, each in a block of its own (type E), a row v of slices (type T), and blocks D that none of them is. -/
structure St (E T : TypeId) (w0 : World) (B : Nat) (D : List Nat) (lo m : Nat) (V : Nat → Value) (C : Nat → List Value) (v : Value) (gv : List Value) (wr : World) : Prop where
  below : Below B w0 wr
  base : B ≤ w0.heap.size
  own : ∀ j, lo ≤ j → j < m → wr.ownsRow B E 1 (V j) (C j).length (C j)
  apart : ∀ i j, lo ≤ i → i < m → lo ≤ j → j < m → i ≠ j → (V i).ownBlock = none ∨ (V i).ownBlock ≠ (V j).ownBlock
  gs : wr.ownsRow B T 1 v gv.length gv
  far : ∀ b, b ∈ D → b < wr.heap.size ∧ v.ownBlock ≠ some b ∧ ∀ j, lo ≤ j → j < m → (V j).ownBlock ≠ some b
section
variable {E T : TypeId} {w0 : World} {B : Nat} {D : List Nat} {lo m : Nat} {V : Nat → Value} {C : Nat → List Value} {v : Value} {gv : List Value} {wr w1 : World}
theorem St.size (h : St E T w0 B D lo m V C v gv wr) : B ≤ wr.heap.size := Nat.le_trans h.base h.below.size
theorem St.quiet (h : St E T w0 B D lo m V C v gv wr) (hb : Below wr.heap.size wr w1) : St E T w0 B D lo m V C v gv w1 ∧ KeepD D wr w1 :=
  ⟨⟨h.below.trans (hb.mono h.size), h.base, fun j h1 h2 => ow_keep (h.own j h1 h2) hb, h.apart, ow_keep h.gs hb, fun b hb' => ⟨Nat.lt_of_lt_of_le (h.far b hb').1 hb.size, (h.far b hb').2⟩⟩, fun b hb' => hb.block b (h.far b hb').1⟩
theorem ow_types {w : World} {b b' : Nat} {e e' : TypeId} {s s' n n' : Nat} {v v' : Value} {xs xs' : List Value} (h : w.ownsRow b e s v n xs) (h' : w.ownsRow b' e' s' v' n' xs') (hne : e ≠ e') : v.ownBlock = none ∨ v.ownBlock ≠ v'.ownBlock := by
  rcases h.2 with ⟨rfl, _⟩ | ⟨g, cap, cur, rfl, _, hg, _⟩
  · exact .inl rfl
  · rcases h'.2 with ⟨rfl, _⟩ | ⟨g', cap', cur', rfl, _, hg', _⟩
    · exact .inr (by simp [Value.ownBlock])
    · refine .inr fun he => hne ?_
      have e0 : g = g' := by simpa [Value.ownBlock] using he
      subst e0
      rw [hg] at hg'
      injection hg' with h1
      injection h1
/-- Row k turns (its block alone, or it lies in a new one). -/
theorem St.row (h : St E T w0 B D lo m V C v gv wr) (hET : E ≠ T) (k : Nat) (h1 : lo ≤ k) (h2 : k < m) {v' : Value} {xs' : List Value} (hown : w1.ownsRow B E 1 v' xs'.length xs') (hg : wr.grownBy w1 (V k).ownBlock)
    (hat : v'.ownBlock = (V k).ownBlock ∨ v'.ownBlock = some wr.heap.size) : St E T w0 B D lo m (upd V k v') (upd C k xs') v gv w1 ∧ KeepD D wr w1 := by
  have hvk := h.own k h1 h2
  refine ⟨⟨h.below.grown hg h.size (fun b hb => ow_base hvk b hb), h.base, fun j a b => ?_, fun i j a b c d hij => ?_, ?_, fun b hb => ?_⟩, fun b hb => hg.block b (h.far b hb).1 (fun e => (h.far b hb).2.2 k h1 h2 e.symm)⟩
  · by_cases hj : j = k
    · subst hj; rw [upd_at, upd_at]; exact hown
    · rw [upd_ne _ _ hj, upd_ne _ _ hj]
      exact (h.own j a b).kept hg (h.apart j k a b h1 h2 hj)
  · by_cases hi : i = k
    · subst hi
      rw [upd_at, upd_ne _ _ (Ne.symm hij)]
      rcases hat with e | e
      · rw [e]; exact h.apart i j a b c d hij
      · rw [e]
        refine .inr fun e2 => ?_
        have := ow_lt (h.own j c d) _ e2.symm
        omega
    · rw [upd_ne _ _ hi]
      by_cases hj : j = k
      · subst hj
        rw [upd_at]
        rcases hat with e | e
        · rw [e]; exact h.apart i j a b c d hij
        · rw [e]
          refine .inr fun e2 => ?_
          have := ow_lt (h.own i a b) _ e2
          omega
      · rw [upd_ne _ _ hj]; exact h.apart i j a b c d hij
  · exact h.gs.kept hg (ow_types h.gs hvk (Ne.symm hET))
  · obtain ⟨f1, f2, f3⟩ := h.far b hb
    refine ⟨Nat.lt_of_lt_of_le f1 hg.size, f2, fun j a c => ?_⟩
    by_cases hj : j = k
    · subst hj
      rw [upd_at]
      rcases hat with e | e
      · rw [e]; exact f3 j a c
      · rw [e]; intro e2; injection e2 with e2; omega
    · rw [upd_ne _ _ hj]; exact f3 j a c
/-- The row of slices turns. -/
theorem St.gsrow (h : St E T w0 B D lo m V C v gv wr) (hET : E ≠ T) {v' : Value} {gv' : List Value} (hown : w1.ownsRow B T 1 v' gv'.length gv') (hg : wr.grownBy w1 v.ownBlock)
    (hat : v'.ownBlock = v.ownBlock ∨ v'.ownBlock = some wr.heap.size) : St E T w0 B D lo m V C v' gv' w1 ∧ KeepD D wr w1 := by
  refine ⟨⟨h.below.grown hg h.size (fun b hb => ow_base h.gs b hb), h.base, fun j a b => (h.own j a b).kept hg (ow_types (h.own j a b) h.gs hET), h.apart, hown, fun b hb => ?_⟩, fun b hb => hg.block b (h.far b hb).1 (fun e => (h.far b hb).2.1 e.symm)⟩
  obtain ⟨f1, f2, f3⟩ := h.far b hb
  refine ⟨Nat.lt_of_lt_of_le f1 hg.size, ?_, f3⟩
  rcases hat with e | e
  · rw [e]; exact f2
  · rw [e]; intro e2; injection e2 with e2; omega
/-- Row lo is no more written: its block is one of D. -/
theorem St.retire (h : St E T w0 B D lo m V C v gv wr) (hET : E ≠ T) (hlo : lo < m) : St E T w0 B ((V lo).ownBlock.toList ++ D) (lo + 1) m V C v gv wr := by
  refine ⟨h.below, h.base, fun j a b => h.own j (by omega) b, fun i j a b c d => h.apart i j (by omega) b (by omega) d, h.gs, fun b hb => ?_⟩
  rcases List.mem_append.1 hb with hb | hb
  · have e : (V lo).ownBlock = some b := by simpa using hb
    refine ⟨ow_lt (h.own lo (by omega) hlo) b e, fun e2 => ?_, fun j a c e2 => ?_⟩
    · rcases ow_types (h.own lo (by omega) hlo) h.gs hET with x | x
      · rw [x] at e; cases e
      · exact x (e.trans e2.symm)
    · rcases h.apart lo j (by omega) hlo (by omega) c (by omega) with x | x
      · rw [x] at e; cases e
      · exact x (e.trans e2.symm)
  · obtain ⟨f1, f2, f3⟩ := h.far b hb
    exact ⟨f1, f2, fun j a c => f3 j (by omega) c⟩
/-- The old block of row k, which has been left for a new one, is one of D. -/
theorem St.left_ (h : St E T w0 B D lo m V C v gv wr) (b : Nat) (hb : b < wr.heap.size) (hv : v.ownBlock ≠ some b) (hV : ∀ j, lo ≤ j → j < m → (V j).ownBlock ≠ some b) : St E T w0 B (b :: D) lo m V C v gv wr :=
  ⟨h.below, h.base, h.own, h.apart, h.gs, fun x hx => by
    rcases List.mem_cons.1 hx with rfl | hx
    · exact ⟨hb, hv, hV⟩
    · exact h.far x hx⟩
end
end Go.Proofs.YtccnfklemalmeaaDoor
