/- Joined texts of this proof: BkCl, BkI, BkS. -/
import Derived.Outline
import Derived.Test.YtphabkaiheplpaaGreatDoorTurns15
import Derived.Test.YtphabkaiheplpaaGreatDoorTurns16
import Derived.Test.YtphabkaiheplpaaGreatDoorTurns17
/- slices.Clone of texts and of links; match.copied; match.New. -/
set_option linter.unusedVariables false
set_option linter.unusedSimpArgs false
set_option maxRecDepth 100000
namespace Go.Proofs.YtphabkaiheplpaaGreatDoor
open Go.RowKit Go.Shelf

theorem infoT : (Tryz.prog.info? 9).map (fun i => (i.zero, i.size, i.bytes)) = some (some (.string ⟨#[]⟩), 1, 16) := by kernel_rfl
theorem infoL : (Tryz.prog.info? 112).map (fun i => (i.zero, i.size, i.bytes)) = some (some (.agg #[.int .i64 0, .string ⟨#[]⟩]), 2, 24) := by kernel_rfl
set_option maxHeartbeats 1000000 in
theorem cloneTexts (A : Option Addr) (n c : Nat) (news : List Value) (w : World) (hA : A = none → n = 0) (hl : news.length = n * 1) (hbig : n * 16 ≤ 140737488355328) (hc : ∀ ad, A = some ad → ∀ j u, news[j]? = some u → w.cell? (ad.add j) = some u) (h1 : ∀ u ∈ news, u.oneCell' = true) :
    Calls Tryz.prog 29 #[.slice A n c] w fun e w' => ∃ v', e = .returned v' ∧ w'.ownsRow w.heap.size 9 1 v' n news ∧ Below w.heap.size w w' := by
  obtain ⟨i0, hi, hz0, hz1, hz2⟩ := Sp.info_of infoT
  cases A with
  | none =>
    obtain rfl := hA rfl
    obtain rfl : news = [] := List.length_eq_zero_iff.1 (by simpa using hl)
    clear hc hbig h1 hA hl
    have q : ∀ (w : World) (a : Option Addr) (n c n' c' : Nat), (binOp .eql 29 (.slice a n c) (.slice none n' c')).run Tryz.prog w = .ok (.bool a.isNone) w := fun w a n c n' c' => Lib.run_eql_slice_nil w _ _ a n c n' c' Tryz.underlying29
    go_enter Tryz.func29, Tryz.ntmps29
    go_wp2
    go_ret
    exact ⟨_, rfl, ow_nil _ _ _ _, bl_refl w⟩
  | some ad =>
    have H := Lib.hid (hc ad rfl)
    have q : ∀ (w : World) (a : Option Addr) (n c n' c' : Nat), (binOp .eql 29 (.slice a n c) (.slice none n' c')).run Tryz.prog w = .ok (.bool a.isNone) w := fun w a n c n' c' => Lib.run_eql_slice_nil w _ _ a n c n' c' Tryz.underlying29
    have hm : n ≤ maxLen := by unfold maxLen; omega
    clear hc hA
    go_enter Tryz.func29, Tryz.ntmps29
    go_wp2_with (at_builtin; refine wpList_append_own _ rfl _ _ 29 rfl w.heap.size 9 i0 (.string ⟨#[]⟩) 1 16 Tryz.underlying29 hi hz0 hz1 hz2 rfl (by decide) _ _ _ rfl (World.ownsRow_made w #[] 0 (Nat.le_refl _) (Nat.zero_le _) (by simp)) ad n c news rfl hl ?q2 h1 ?q4 ?q5 ?q6 ?_)
    case q2 =>
      intro j u hj
      exact al_cell (H.out j u hj)
    case q4 => rw [Nat.zero_add]; exact hm
    case q5 => rw [Nat.zero_add]; exact hbig
    case q6 => simp
    intro v' w1 hown hgrow hnil
    go_wp2
    go_ret
    exact ⟨v', rfl, by simpa using hown, ((Below.refl _ w).alloc (Nat.le_refl _) _).grown hgrow (by simp) (by intro k hk; simp [Value.ownBlock] at hk; omega)⟩
set_option maxHeartbeats 1000000 in
theorem cloneLinks (A : Option Addr) (n c : Nat) (news : List Value) (w : World) (hA : A = none → n = 0) (hl : news.length = n * 2) (hbig : n * 24 ≤ 140737488355328) (hc : ∀ ad, A = some ad → ∀ j u, news[j]? = some u → w.cell? (ad.add j) = some u) (h1 : ∀ u ∈ news, u.oneCell' = true) :
    Calls Tryz.prog 66 #[.slice A n c] w fun e w' => ∃ v', e = .returned v' ∧ w'.ownsRow w.heap.size 112 2 v' n news ∧ Below w.heap.size w w' := by
  obtain ⟨i0, hi, hz0, hz1, hz2⟩ := Sp.info_of infoL
  cases A with
  | none =>
    obtain rfl := hA rfl
    obtain rfl : news = [] := List.length_eq_zero_iff.1 (by simpa using hl)
    clear hc hbig h1 hA hl
    have q : ∀ (w : World) (a : Option Addr) (n c n' c' : Nat), (binOp .eql 24 (.slice a n c) (.slice none n' c')).run Tryz.prog w = .ok (.bool a.isNone) w := fun w a n c n' c' => Lib.run_eql_slice_nil w _ _ a n c n' c' Tryz.underlying24
    go_enter Tryz.func66, Tryz.ntmps66
    go_wp2
    go_ret
    exact ⟨_, rfl, ow_nil _ _ _ _, bl_refl w⟩
  | some ad =>
    have H := Lib.hid (hc ad rfl)
    have q : ∀ (w : World) (a : Option Addr) (n c n' c' : Nat), (binOp .eql 24 (.slice a n c) (.slice none n' c')).run Tryz.prog w = .ok (.bool a.isNone) w := fun w a n c n' c' => Lib.run_eql_slice_nil w _ _ a n c n' c' Tryz.underlying24
    have hm : n ≤ maxLen := by unfold maxLen; omega
    clear hc hA
    go_enter Tryz.func66, Tryz.ntmps66
    go_wp2_with (at_builtin; refine wpList_append_own _ rfl _ _ 24 rfl w.heap.size 112 i0 (.agg #[.int .i64 0, .string ⟨#[]⟩]) 2 24 Tryz.underlying24 hi hz0 hz1 hz2 rfl (by decide) _ _ _ rfl (World.ownsRow_made w #[] 0 (Nat.le_refl _) (Nat.zero_le _) (by simp)) ad n c news rfl hl ?q2 h1 ?q4 ?q5 ?q6 ?_)
    case q2 =>
      intro j u hj
      exact al_cell (H.out j u hj)
    case q4 => rw [Nat.zero_add]; exact hm
    case q5 => rw [Nat.zero_add]; exact hbig
    case q6 => simp
    intro v' w1 hown hgrow hnil
    go_wp2
    go_ret
    exact ⟨v', rfl, by simpa using hown, ((Below.refl _ w).alloc (Nat.le_refl _) _).grown hgrow (by simp) (by intro k hk; simp [Value.ownBlock] at hk; omega)⟩
theorem lks_one (lx : List Lk) : ∀ u ∈ lks lx, u.oneCell' = true := by
  intro u hu
  unfold lks at hu
  obtain ⟨x, _, hx⟩ := List.mem_flatMap.1 hu
  simp at hx
  rcases hx with rfl | rfl <;> rfl
theorem add_le {ad : Addr} {k : Nat} : ad.add k = ad.add (k / 2 * 2 + k % 2) := by rw [Nat.div_add_mod']
theorem lks_read {w : World} {A : Option Addr} {n : Nat} {lx : List Lk} (h : RdL w A n lx) (ad : Addr) (hA : A = some ad) : ∀ j u, (lks lx)[j]? = some u → w.cell? (ad.add j) = some u := by
  intro j u hj
  have hlt : j < 2 * lx.length := by
    have := (List.getElem?_eq_some_iff.1 hj).1
    rwa [lks_length] at this
  obtain ⟨ad', e, h1, h2⟩ := h.2 (j / 2) (by rw [← h.1]; omega)
  rw [hA] at e
  obtain rfl := Option.some.inj e
  have hl := lks_at lx (j := j / 2) (by omega)
  rcases Nat.mod_two_eq_zero_or_one j with h0 | h0
  · have ej : j = j / 2 * 2 := by omega
    rw [ej] at hj
    rw [ej, h1]
    exact (hl.1.symm.trans hj)
  · have ej : j = j / 2 * 2 + 1 := by omega
    rw [ej] at hj
    rw [ej, h2]
    exact (hl.2.symm.trans hj)
theorem RdL_of_own {W : World} {base n : Nat} {v : Value} {lx : List Lk} (h : W.ownsRow base 112 2 v n (lks lx)) : ∃ A c, v = .slice A n c ∧ RdL W A n lx ∧ (∀ a, A = some a → v.ownBlock = some a.block) := by
  have hl : lx.length = n := by
    have := h.1
    rw [lks_length] at this
    omega
  rcases h.2 with ⟨rfl, rfl⟩ | ⟨g, cap, cur, rfl, _⟩
  · exact ⟨none, 0, rfl, ⟨hl, fun i hi => absurd hi (Nat.not_lt_zero _)⟩, by simp⟩
  · refine ⟨some ⟨g, 0, none⟩, cap, rfl, ⟨hl, fun j hj => ⟨_, rfl, h.cells (g := g) rfl _ _ (lks_at _ (by omega)).1, h.cells (g := g) rfl _ _ (lks_at _ (by omega)).2⟩⟩, ?_⟩
    intro a ha
    obtain rfl := Option.some.inj ha
    rfl
/-- slices.Clone of links that read. -/
theorem cloneLk (A : Option Addr) (n c : Nat) (lx : List Lk) (w : World) (hr : RdL w A n lx) (hn : n * 24 ≤ 140737488351232) :
    Calls Tryz.prog 66 #[.slice A n c] w fun e w' => ∃ v', e = .returned v' ∧ w'.ownsRow w.heap.size 112 2 v' n (lks lx) ∧ Below w.heap.size w w' :=
  cloneLinks A n c (lks lx) w (fun h => by
    cases n with
    | zero => rfl
    | succ n => obtain ⟨ad, e, _⟩ := hr.2 0 (by omega); rw [h] at e; cases e) (by rw [lks_length, hr.1]; omega) (by omega) (fun ad hA => lks_read hr ad hA) (lks_one lx)
theorem txs_read {w : World} {A : Option Addr} {n : Nat} {zs : List ByteArray} (h : RdT w A n zs) (ad : Addr) (hA : A = some ad) : ∀ j u, (zs.map Value.string)[j]? = some u → w.cell? (ad.add j) = some u := by
  intro j u hj
  rw [List.getElem?_map] at hj
  obtain ⟨s, hs, rfl⟩ := Option.map_eq_some_iff.1 hj
  have hlt := (List.getElem?_eq_some_iff.1 hs).1
  obtain ⟨ad', e, h1⟩ := h.2 j (by rw [← h.1]; exact hlt)
  rw [hA] at e
  obtain rfl := Option.some.inj e
  rw [h1, List.getD_eq_getElem?_getD, hs]
  rfl
theorem RdT_of_own {W : World} {base n : Nat} {v : Value} {zs : List ByteArray} (h : W.ownsRow base 9 1 v n (zs.map Value.string)) : ∃ A c, v = .slice A n c ∧ RdT W A n zs ∧ (∀ a, A = some a → v.ownBlock = some a.block) := by
  have hl : zs.length = n := by simpa using h.1
  rcases h.2 with ⟨rfl, rfl⟩ | ⟨g, cap, cur, rfl, _⟩
  · exact ⟨none, 0, rfl, ⟨hl, fun i hi => absurd hi (Nat.not_lt_zero _)⟩, by simp⟩
  · refine ⟨some ⟨g, 0, none⟩, cap, rfl, ⟨hl, fun j hj => ⟨_, rfl, h.cells (g := g) rfl _ _ ?_⟩⟩, ?_⟩
    · rw [List.getElem?_map, List.getD_eq_getElem?_getD, List.getElem?_eq_getElem (by omega)]
      rfl
    · intro a ha
      obtain rfl := Option.some.inj ha
      rfl
theorem cloneTx (A : Option Addr) (n c : Nat) (zs : List ByteArray) (w : World) (hr : RdT w A n zs) (hn : n * 16 ≤ 140737488351232) :
    Calls Tryz.prog 29 #[.slice A n c] w fun e w' => ∃ v', e = .returned v' ∧ w'.ownsRow w.heap.size 9 1 v' n (zs.map Value.string) ∧ Below w.heap.size w w' :=
  cloneTexts A n c (zs.map Value.string) w (fun h => by
    cases n with
    | zero => rfl
    | succ n => obtain ⟨ad, e, _⟩ := hr.2 0 (by omega); rw [h] at e; cases e) (by simp [hr.1]) (by omega) (fun ad hA => txs_read hr ad hA) (by
      intro u hu
      obtain ⟨x, _, rfl⟩ := List.mem_map.1 hu
      rfl)
end Go.Proofs.YtphabkaiheplpaaGreatDoor
/- A book in memory: its own blocks, what each change of one of them leaves. -/
set_option linter.unusedVariables false
set_option linter.unusedSimpArgs false
set_option maxRecDepth 100000
namespace Go.Proofs.YtphabkaiheplpaaGreatDoor
open Go.RowKit Go.Shelf
open Go.ChangeMaps (setBlock)

/-- What is not of the footprint has stayed. -/
structure Fr (F : Nat → Prop) (w W : World) : Prop where
  os : W.os = w.os
  tape : W.tape = w.tape
  output : W.output = w.output
  size : w.heap.size ≤ W.heap.size
  block : ∀ i, i < w.heap.size → ¬ F i → W.heap[i]? = w.heap[i]?
theorem Fr.refl (F : Nat → Prop) (w : World) : Fr F w w := ⟨rfl, rfl, rfl, Nat.le_refl _, fun _ _ _ => rfl⟩
def inF (F : Nat → Prop) (B i : Nat) : Prop := F i ∨ B ≤ i
theorem Fr.step {F : Nat → Prop} {w W W1 : World} {row : Option Nat} (h : Fr F w W) (hg : W.grownBy W1 row) (hr : ∀ g, row = some g → inF F w.heap.size g) : Fr F w W1 :=
  ⟨hg.os.trans h.os, hg.tape.trans h.tape, hg.output.trans h.output, Nat.le_trans h.size hg.size, fun i hi hF => (hg.block i (Nat.lt_of_lt_of_le hi h.size) (fun e => by
    rcases hr i e.symm with h1 | h1
    · exact hF h1
    · omega)).trans (h.block i hi hF)⟩
theorem Fr.below {F : Nat → Prop} {w W : World} {B : Nat} (h : Fr F w W) (hF : ∀ i, F i → B ≤ i) (hB : B ≤ w.heap.size) : Below B w W :=
  ⟨h.os, h.tape, h.output, h.size, fun i hi => h.block i (by omega) (fun hf => by have := hF i hf; omega)⟩
theorem gb_below {W W1 : World} (h : Below W.heap.size W W1) : W.grownBy W1 none := ⟨h.os, h.tape, h.output, h.size, fun i hi _ => h.block i hi⟩
theorem gb_block (W : World) (m : Nat) (o : Obj) : W.grownBy (setBlock W m o) (some m) := ⟨rfl, rfl, rfl, by simp [setBlock], fun i _ hne => setBlock_other (fun e => hne (by rw [e]))⟩
theorem gb_cell (W : World) (a : Addr) (v : Value) : W.grownBy (W.setCell a v) (some a.block) := ⟨rfl, rfl, rfl, by simp [World.setCell], fun i _ hne => Below.heap_setCell _ _ _ _ (fun e => hne (by rw [e]))⟩
theorem gb_drew {W W1 : World} {r : Option Nat} (h : W.grownBy W1 r) : W.grownBy W1.drew r := ⟨h.os, h.tape, h.output, h.size, h.block⟩
/-- A row of one kind stays when a block of another kind is written. -/
theorem ow_other {W W1 : World} {base : Nat} {e T : TypeId} {size n : Nat} {v : Value} {xs : List Value} {g : Nat} {cur : Array Value} {fr : Nat × Nat} (h : W.ownsRow base e size v n xs) (hg : W.heap[g]? = some (.cells cur T fr)) (hne : e ≠ T) (hs : W.grownBy W1 (some g)) : W1.ownsRow base e size v n xs := by
  refine h.kept hs ?_
  rcases h.2 with ⟨rfl, _⟩ | ⟨g', cap, c', rfl, _, hh, _⟩
  · exact .inl rfl
  · right
    intro e1
    have e2 : g' = g := by simpa [Value.ownBlock] using e1
    subst e2
    rw [hg] at hh
    injection hh with hh
    injection hh with _ h2 _
    exact hne h2.symm
theorem ow_map {W W1 : World} {base : Nat} {e : TypeId} {size n : Nat} {v : Value} {xs : List Value} {g : Nat} {kv : List (Value × Value)} (h : W.ownsRow base e size v n xs) (hg : MapIs W g kv) (hs : W.grownBy W1 (some g)) : W1.ownsRow base e size v n xs := by
  refine h.kept hs ?_
  obtain ⟨es, cl, hg, _⟩ := hg
  rcases h.2 with ⟨rfl, _⟩ | ⟨g', cap, c', rfl, _, hh, _⟩
  · exact .inl rfl
  · right
    intro e1
    have e2 : g' = g := by simpa [Value.ownBlock] using e1
    subst e2
    rw [hg] at hh
    injection hh with hh
    cases hh
theorem ow_none {W W1 : World} {base : Nat} {e : TypeId} {size n : Nat} {v : Value} {xs : List Value} (h : W.ownsRow base e size v n xs) (hs : W.grownBy W1 none) : W1.ownsRow base e size v n xs := h.kept hs (by by_cases h : v.ownBlock = none <;> simp [h])
theorem map_other {W W1 : World} {m g : Nat} {kv : List (Value × Value)} {cur : Array Value} {T : TypeId} {fr : Nat × Nat} (h : MapIs W m kv) (hg : W.heap[g]? = some (.cells cur T fr)) (hs : W.grownBy W1 (some g)) : MapIs W1 m kv := by
  refine h.of_heap (hs.block m h.lt (fun e => ?_))
  obtain rfl := Option.some.inj e
  obtain ⟨es, cl, h1, _⟩ := h
  rw [hg] at h1
  injection h1 with h1
  cases h1
theorem map_none {W W1 : World} {m : Nat} {kv : List (Value × Value)} (h : MapIs W m kv) (hs : W.grownBy W1 none) : MapIs W1 m kv := h.of_heap (hs.block m h.lt (by simp))
theorem map_ne {W W1 : World} {m g : Nat} {kv : List (Value × Value)} (h : MapIs W m kv) (hne : m ≠ g) (hs : W.grownBy W1 (some g)) : MapIs W1 m kv := h.of_heap (hs.block m h.lt (by simpa using hne))
theorem blk_none {W W1 : World} {b : Nat} {o : Obj} (h : W.heap[b]? = some o) (hs : W.grownBy W1 none) : W1.heap[b]? = some o := (hs.block b (Array.getElem?_eq_some_iff.1 h).1 (by simp)).trans h
theorem blk_ne {W W1 : World} {b g : Nat} {o : Obj} (h : W.heap[b]? = some o) (hne : b ≠ g) (hs : W.grownBy W1 (some g)) : W1.heap[b]? = some o := (hs.block b (Array.getElem?_eq_some_iff.1 h).1 (by simpa using hne)).trans h

def natV (k : Nat) : Value := .int .i64 k
def entC (e : Ent) : List Value := (sideC e.p e.x).toList ++ [.int .i64 e.pair, .bool e.asked, .bool e.gone]
def prC (q : Pr) : List Value := [.int .i64 q.d, .int .i64 q.r, .int .i64 q.a, .bool q.gone]
def keyF (f : Fc) : Value := .agg (faceC f)
def nameV (p : Int) (r : ByteArray) : Value := .agg #[.int .i64 p, .string r]
theorem entC_length (e : Ent) : (entC e).length = 31 := rfl
theorem prC_length (q : Pr) : (prC q).length = 4 := rfl
/-- A book's parts in memory, its block holding C. -/
structure BkM (F : Nat → Prop) (w W : World) (b : Nat) (tv ev pv : Value) (m1 m2 : Nat) (kw : List (Value × Value)) (C : Array Value) (zs : List ByteArray) (nm : List (Value × Value)) (es : List Ent) (ps : List Pr) : Prop where
  low : Fr F w W
  book : W.heap[b]? = some (.cells C 82 (0, 0))
  rT : W.ownsRow 0 9 1 tv zs.length (zs.map Value.string)
  rE : W.ownsRow 0 93 31 ev es.length (es.flatMap entC)
  rP : W.ownsRow 0 97 4 pv ps.length (ps.flatMap prC)
  mN : MapIs W m1 nm
  mW : MapIs W m2 kw
  ne : m1 ≠ m2
  rL : ∀ e ∈ es, W.ownsRow 0 112 2 (.slice e.x.la e.x.ln e.x.lc) e.x.ln (lks e.lx)
  iB : inF F w.heap.size b
  iT : ∀ g, tv.ownBlock = some g → inF F w.heap.size g
  iE : ∀ g, ev.ownBlock = some g → inF F w.heap.size g
  iP : ∀ g, pv.ownBlock = some g → inF F w.heap.size g
  iN : inF F w.heap.size m1
  iW : inF F w.heap.size m2
  iL : ∀ e ∈ es, ∀ a, e.x.la = some a → inF F w.heap.size a.block
section
variable {F : Nat → Prop} {w W W1 : World} {b : Nat} {tv ev pv : Value} {m1 m2 : Nat} {kw : List (Value × Value)} {C : Array Value} {zs : List ByteArray} {nm : List (Value × Value)} {es : List Ent} {ps : List Pr}
/-- New blocks alone. -/
theorem BkM.grow (h : BkM F w W b tv ev pv m1 m2 kw C zs nm es ps) (hb : Below W.heap.size W W1) : BkM F w W1 b tv ev pv m1 m2 kw C zs nm es ps :=
  have hs := gb_below hb
  ⟨h.low.step hs (fun g e => by cases e), blk_none h.book hs, ow_none h.rT hs, ow_none h.rE hs, ow_none h.rP hs, map_none h.mN hs, map_none h.mW hs, h.ne, fun e he => ow_none (h.rL e he) hs, h.iB, h.iT, h.iE, h.iP, h.iN, h.iW, h.iL⟩
theorem BkM.drew (h : BkM F w W b tv ev pv m1 m2 kw C zs nm es ps) : BkM F w W.drew b tv ev pv m1 m2 kw C zs nm es ps := h.grow (bl_drew (bl_refl W))
theorem map_ne_book {W : World} {m b : Nat} {kv : List (Value × Value)} {C : Array Value} {T : TypeId} {fr : Nat × Nat} (h : MapIs W m kv) (hb : W.heap[b]? = some (.cells C T fr)) : b ≠ m := by
  obtain ⟨es, cl, h1, _⟩ := h
  intro e
  subst e
  rw [hb] at h1
  injection h1 with h1
  cases h1
/-- A cell of the book's block. -/
theorem BkM.cell (h : BkM F w W b tv ev pv m1 m2 kw C zs nm es ps) (k : Nat) (v : Value) : BkM F w (W.setCell ⟨b, k, none⟩ v) b tv ev pv m1 m2 kw (C.setIfInBounds k v) zs nm es ps := by
  have hs : W.grownBy (W.setCell ⟨b, k, none⟩ v) (some b) := gb_cell W ⟨b, k, none⟩ v
  exact ⟨h.low.step hs (fun g e => by obtain rfl := Option.some.inj e; exact h.iB), heap_setCell_same W b k C _ v h.book, ow_other h.rT h.book (by decide) hs, ow_other h.rE h.book (by decide) hs, ow_other h.rP h.book (by decide) hs, map_other h.mN h.book hs, map_other h.mW h.book hs, h.ne, fun e he => ow_other (h.rL e he) h.book (by decide) hs, h.iB, h.iT, h.iE, h.iP, h.iN, h.iW, h.iL⟩
/-- The map of names. -/
theorem BkM.names (h : BkM F w W b tv ev pv m1 m2 kw C zs nm es ps) (o : Obj) (nm' : List (Value × Value)) (hm : MapIs (setBlock W m1 o) m1 nm') : BkM F w (setBlock W m1 o) b tv ev pv m1 m2 kw C zs nm' es ps := by
  have hs : W.grownBy (setBlock W m1 o) (some m1) := gb_block W m1 o
  exact ⟨h.low.step hs (fun g e => by obtain rfl := Option.some.inj e; exact h.iN), blk_ne h.book (map_ne_book h.mN h.book) hs, ow_map h.rT h.mN hs, ow_map h.rE h.mN hs, ow_map h.rP h.mN hs, hm, map_ne h.mW (Ne.symm h.ne) hs, h.ne, fun e he => ow_map (h.rL e he) h.mN hs, h.iB, h.iT, h.iE, h.iP, h.iN, h.iW, h.iL⟩
/-- The map of who waits. -/
theorem BkM.waits (h : BkM F w W b tv ev pv m1 m2 kw C zs nm es ps) (o : Obj) (kw' : List (Value × Value)) (hm : MapIs (setBlock W m2 o) m2 kw') : BkM F w (setBlock W m2 o) b tv ev pv m1 m2 kw' C zs nm es ps := by
  have hs : W.grownBy (setBlock W m2 o) (some m2) := gb_block W m2 o
  exact ⟨h.low.step hs (fun g e => by obtain rfl := Option.some.inj e; exact h.iW), blk_ne h.book (map_ne_book h.mW h.book) hs, ow_map h.rT h.mW hs, ow_map h.rE h.mW hs, ow_map h.rP h.mW hs, map_ne h.mN h.ne hs, hm, h.ne,
    fun e he => ow_map (h.rL e he) h.mW hs, h.iB, h.iT, h.iE, h.iP, h.iN, h.iW, h.iL⟩
theorem row_obj {W : World} {base : Nat} {e : TypeId} {size n : Nat} {v : Value} {xs : List Value} (h : W.ownsRow base e size v n xs) {g : Nat} (hg : v.ownBlock = some g) : ∃ cur, W.heap[g]? = some (.cells cur e (0, 0)) := by
  rcases h.2 with ⟨rfl, _⟩ | ⟨g', cap, c', rfl, _, hh, _⟩
  · cases hg
  · have e2 : g' = g := by simpa [Value.ownBlock] using hg
    subst e2
    exact ⟨_, hh⟩
theorem gb_row {W W1 : World} {v : Value} (h : W.grownBy W1 v.ownBlock) (hv : v.ownBlock = none) : W.grownBy W1 none := by rw [hv] at h; exact h
/-- The row of entries. -/
theorem BkM.ents (h : BkM F w W b tv ev pv m1 m2 kw C zs nm es ps) (hs : W.grownBy W1 ev.ownBlock) (ev' : Value) (es' : List Ent) (hown : W1.ownsRow 0 93 31 ev' es'.length (es'.flatMap entC)) (hi : ∀ g, ev'.ownBlock = some g → inF F w.heap.size g)
    (hl : ∀ e ∈ es', W.ownsRow 0 112 2 (.slice e.x.la e.x.ln e.x.lc) e.x.ln (lks e.lx)) (hil : ∀ e ∈ es', ∀ a, e.x.la = some a → inF F w.heap.size a.block) : BkM F w W1 b tv ev' pv m1 m2 kw C zs nm es' ps := by
  cases hv : ev.ownBlock with
  | none =>
    rw [hv] at hs
    exact ⟨h.low.step hs (fun g e => by cases e), blk_none h.book hs, ow_none h.rT hs, hown, ow_none h.rP hs, map_none h.mN hs, map_none h.mW hs, h.ne, fun e he => ow_none (hl e he) hs, h.iB, h.iT, hi, h.iP, h.iN, h.iW, hil⟩
  | some g =>
    rw [hv] at hs
    obtain ⟨cur, ho⟩ := row_obj h.rE hv
    have hbg : b ≠ g := fun e => by
      have := h.book
      rw [e, ho] at this
      injection this with this
      injection this with _ h2 _
      exact absurd h2 (by decide)
    exact ⟨h.low.step hs (fun g' e => by obtain rfl := Option.some.inj e; exact h.iE _ hv), blk_ne h.book hbg hs, ow_other h.rT ho (by decide) hs, hown, ow_other h.rP ho (by decide) hs, map_other h.mN ho hs, map_other h.mW ho hs, h.ne, fun e he => ow_other (hl e he) ho (by decide) hs, h.iB, h.iT, hi, h.iP, h.iN, h.iW, hil⟩
/-- The row of pairs. -/
theorem BkM.pairs (h : BkM F w W b tv ev pv m1 m2 kw C zs nm es ps) (hs : W.grownBy W1 pv.ownBlock) (pv' : Value) (ps' : List Pr) (hown : W1.ownsRow 0 97 4 pv' ps'.length (ps'.flatMap prC)) (hi : ∀ g, pv'.ownBlock = some g → inF F w.heap.size g) : BkM F w W1 b tv ev pv' m1 m2 kw C zs nm es ps' := by
  cases hv : pv.ownBlock with
  | none =>
    rw [hv] at hs
    exact ⟨h.low.step hs (fun g e => by cases e), blk_none h.book hs, ow_none h.rT hs, ow_none h.rE hs, hown, map_none h.mN hs, map_none h.mW hs, h.ne, fun e he => ow_none (h.rL e he) hs, h.iB, h.iT, h.iE, hi, h.iN, h.iW, h.iL⟩
  | some g =>
    rw [hv] at hs
    obtain ⟨cur, ho⟩ := row_obj h.rP hv
    have hbg : b ≠ g := fun e => by
      have := h.book
      rw [e, ho] at this
      injection this with this
      injection this with _ h2 _
      exact absurd h2 (by decide)
    exact ⟨h.low.step hs (fun g' e => by obtain rfl := Option.some.inj e; exact h.iP _ hv), blk_ne h.book hbg hs, ow_other h.rT ho (by decide) hs, ow_other h.rE ho (by decide) hs, hown, map_other h.mN ho hs, map_other h.mW ho hs, h.ne, fun e he => ow_other (h.rL e he) ho (by decide) hs, h.iB, h.iT, h.iE, hi, h.iN, h.iW, h.iL⟩
/-- A row of those who wait. -/
theorem BkM.introw (h : BkM F w W b tv ev pv m1 m2 kw C zs nm es ps) {r : Option Nat} (hs : W.grownBy W1 r) (hr : ∀ g, r = some g → inF F w.heap.size g ∧ ∃ cur, W.heap[g]? = some (.cells cur 3 (0, 0))) : BkM F w W1 b tv ev pv m1 m2 kw C zs nm es ps := by
  cases r with
  | none => exact ⟨h.low.step hs (fun g e => by cases e), blk_none h.book hs, ow_none h.rT hs, ow_none h.rE hs, ow_none h.rP hs, map_none h.mN hs, map_none h.mW hs, h.ne, fun e he => ow_none (h.rL e he) hs, h.iB, h.iT, h.iE, h.iP, h.iN, h.iW, h.iL⟩
  | some g =>
    obtain ⟨hi, cur, ho⟩ := hr g rfl
    have hbg : b ≠ g := fun e => by
      have := h.book
      rw [e, ho] at this
      injection this with this
      injection this with _ h2 _
      exact absurd h2 (by decide)
    exact ⟨h.low.step hs (fun g' e => by obtain rfl := Option.some.inj e; exact hi), blk_ne h.book hbg hs, ow_other h.rT ho (by decide) hs, ow_other h.rE ho (by decide) hs, ow_other h.rP ho (by decide) hs, map_other h.mN ho hs, map_other h.mW ho hs, h.ne, fun e he => ow_other (h.rL e he) ho (by decide) hs, h.iB, h.iT, h.iE, h.iP, h.iN, h.iW, h.iL⟩
end
/-- The rows of those who wait. -/
structure WsR (F : Nat → Prop) (B : Nat) (W : World) (ws : List (Fc × Value × List Nat)) : Prop where
  rW : ∀ q ∈ ws, W.ownsRow 0 3 1 q.2.1 q.2.2.length (q.2.2.map natV)
  rD : ws.Pairwise fun p q => p.2.1.ownBlock = none ∨ p.2.1.ownBlock ≠ q.2.1.ownBlock
  iV : ∀ q ∈ ws, ∀ g, q.2.1.ownBlock = some g → inF F B g
section
variable {F : Nat → Prop} {B : Nat} {W W1 : World} {ws : List (Fc × Value × List Nat)}
theorem WsR.grow (h : WsR F B W ws) (hb : Below W.heap.size W W1) : WsR F B W1 ws := ⟨fun q hq => ow_none (h.rW q hq) (gb_below hb), h.rD, h.iV⟩
theorem WsR.drew (h : WsR F B W ws) : WsR F B W.drew ws := h.grow (bl_drew (bl_refl W))
theorem WsR.other (h : WsR F B W ws) {g : Nat} {cur : Array Value} {T : TypeId} {fr : Nat × Nat} (hg : W.heap[g]? = some (.cells cur T fr)) (hne : 3 ≠ T) (hs : W.grownBy W1 (some g)) : WsR F B W1 ws := ⟨fun q hq => ow_other (h.rW q hq) hg hne hs, h.rD, h.iV⟩
theorem WsR.map_ (h : WsR F B W ws) {g : Nat} {kv : List (Value × Value)} (hg : MapIs W g kv) (hs : W.grownBy W1 (some g)) : WsR F B W1 ws := ⟨fun q hq => ow_map (h.rW q hq) hg hs, h.rD, h.iV⟩
theorem WsR.row (h : WsR F B W ws) {base : Nat} {e : TypeId} {size n : Nat} {v : Value} {xs : List Value} (hv : W.ownsRow base e size v n xs) (hne : 3 ≠ e) (hs : W.grownBy W1 v.ownBlock) : WsR F B W1 ws := by
  cases ho : v.ownBlock with
  | none => rw [ho] at hs; exact ⟨fun q hq => ow_none (h.rW q hq) hs, h.rD, h.iV⟩
  | some g =>
    rw [ho] at hs
    obtain ⟨cur, hc⟩ := row_obj hv ho
    exact h.other hc hne hs
end
end Go.Proofs.YtphabkaiheplpaaGreatDoor
/- A book as it stands between calls; match.New. -/
set_option linter.unusedVariables false
set_option linter.unusedSimpArgs false
set_option maxRecDepth 100000
namespace Go.Proofs.YtphabkaiheplpaaGreatDoor
open Go.RowKit Go.Shelf
open Go.ChangeMaps (setBlock)

def nmOf (es : List Ent) : List (Value × Value) := es.zipIdx.map fun q => (nameV q.1.p q.1.x.ref, natV q.2)
def kwF (q : Fc × Value × List Nat) : Value × Value := (keyF q.1, q.2.1)
noncomputable def wsGet (ws : List (Fc × Value × List Nat)) (f : Fc) : List Nat := ((ws.find? fun q => sameFace q.1 f).map (·.2.2)).getD []
structure StOk (zs : List ByteArray) (es : List Ent) (ps : List Pr) : Prop where
  ent : ∀ e ∈ es, e.x.wf ∧ I64 e.p ∧ 0 ≤ e.p ∧ e.p < zs.length ∧ -1 ≤ e.pair ∧ e.pair < ps.length ∧ OkL e.lx ∧ e.x.ln * 24 ≤ 140737488351232
  prs : ∀ q ∈ ps, q.d < es.length ∧ q.r < es.length ∧ I64 q.a
  nodup : es.Pairwise fun a b => ¬ (a.p = b.p ∧ a.x.ref = b.x.ref)
structure WsOk (zs : List ByteArray) (es : List Ent) (ws : List (Fc × Value × List Nat)) : Prop where
  fwf : ∀ q ∈ ws, q.1.wf
  keys : ws.Pairwise fun p q => sameFace p.1 q.1 = false
  get : ∀ f : Fc, f.wf → wsGet ws f = wl zs es f
/-- The book between calls. -/
def BkI (F : Nat → Prop) (W : World) (b : Nat) (zs : List ByteArray) (tol : Int) (es : List Ent) (ps : List Pr) : Prop :=
  ∃ tv ev pv m1 m2 ws, BkM F W W b tv ev pv m1 m2 (ws.map kwF) #[tv, .int .i64 tol, ev, .map (some m1), .map (some m2), pv] zs (nmOf es) es ps ∧ WsR F W.heap.size W ws ∧ StOk zs es ps ∧ WsOk zs es ws ∧ ∀ i, F i → i < W.heap.size
/-- The footprint behind a call: what was of it, and what is new. -/
def newF (F : Nat → Prop) (w W : World) (i : Nat) : Prop := F i ∨ (w.heap.size ≤ i ∧ i < W.heap.size)
theorem inF_new {F : Nat → Prop} {w W : World} {g : Nat} (h : inF F w.heap.size g) (hg : g < W.heap.size) : newF F w W g := by
  rcases h with h | h
  · exact .inl h
  · exact .inr ⟨h, hg⟩
theorem row_lt {W : World} {base : Nat} {e : TypeId} {size n : Nat} {v : Value} {xs : List Value} (h : W.ownsRow base e size v n xs) {g : Nat} (hg : v.ownBlock = some g) : g < W.heap.size := by
  obtain ⟨cur, ho⟩ := row_obj h hg
  exact (Array.getElem?_eq_some_iff.1 ho).1
theorem BkI.fin {F : Nat → Prop} {w W : World} {b : Nat} {tv ev pv : Value} {m1 m2 : Nat} {ws : List (Fc × Value × List Nat)} {zs : List ByteArray} {tol : Int} {es : List Ent} {ps : List Pr}
    (h : BkM F w W b tv ev pv m1 m2 (ws.map kwF) #[tv, .int .i64 tol, ev, .map (some m1), .map (some m2), pv] zs (nmOf es) es ps) (hw : WsR F w.heap.size W ws) (h1 : StOk zs es ps) (h2 : WsOk zs es ws) (hF : ∀ i, F i → i < w.heap.size) : BkI (newF F w W) W b zs tol es ps := by
  have k : ∀ {g : Nat}, inF F w.heap.size g → g < W.heap.size → inF (newF F w W) W.heap.size g := fun h1 h2 => .inl (inF_new h1 h2)
  refine ⟨tv, ev, pv, m1, m2, ws, ⟨Fr.refl _ _, h.book, h.rT, h.rE, h.rP, h.mN, h.mW, h.ne, h.rL, k h.iB (Array.getElem?_eq_some_iff.1 h.book).1, fun g hg => k (h.iT g hg) (row_lt h.rT hg), fun g hg => k (h.iE g hg) (row_lt h.rE hg), fun g hg => k (h.iP g hg) (row_lt h.rP hg), k h.iN h.mN.lt, k h.iW h.mW.lt, fun e he a ha => k (h.iL e he a ha) (row_lt (h.rL e he) (by rw [ha]; rfl))⟩,
    ⟨hw.rW, hw.rD, fun q hq g hg => k (hw.iV q hq g hg) (row_lt (hw.rW q hq) hg)⟩, h1, h2, fun i hi => ?_⟩
  rcases hi with hi | hi
  · exact Nat.lt_of_lt_of_le (hF i hi) h.low.size
  · exact hi.2
/-- Another book is as it was. -/
theorem BkI.other {F G : Nat → Prop} {w W : World} {b : Nat} {zs : List ByteArray} {tol : Int} {es : List Ent} {ps : List Pr} (h : BkI F w b zs tol es ps) (hf : Fr G w W) (hd : ∀ i, F i → ¬ G i) : BkI F W b zs tol es ps := by
  obtain ⟨tv, ev, pv, m1, m2, ws, hm, hw, h1, h2, hF⟩ := h
  have hin : ∀ {g : Nat}, inF F w.heap.size g → g < w.heap.size → F g := fun h1 h2 => by
    rcases h1 with h1 | h1
    · exact h1
    · omega
  have blk : ∀ {g : Nat}, inF F w.heap.size g → g < w.heap.size → W.heap[g]? = w.heap[g]? := fun h1 h2 => hf.block _ h2 (hd _ (hin h1 h2))
  have row : ∀ {e : TypeId} {size n : Nat} {v : Value} {xs : List Value}, w.ownsRow 0 e size v n xs → (∀ g, v.ownBlock = some g → inF F w.heap.size g) → W.ownsRow 0 e size v n xs := fun {e size n v xs} hr hi => by
    refine ⟨hr.1, ?_⟩
    rcases hr.2 with h0 | ⟨g, cap, cur, rfl, hb, hg, rest⟩
    · exact .inl h0
    · exact .inr ⟨g, cap, cur, rfl, hb, (blk (hi g rfl) (Array.getElem?_eq_some_iff.1 hg).1).trans hg, rest⟩
  have k : ∀ {g : Nat}, inF F w.heap.size g → g < w.heap.size → inF F W.heap.size g := fun h1 h2 => .inl (hin h1 h2)
  refine ⟨tv, ev, pv, m1, m2, ws, ⟨Fr.refl _ _, (blk hm.iB (Array.getElem?_eq_some_iff.1 hm.book).1).trans hm.book, row hm.rT hm.iT, row hm.rE hm.iE, row hm.rP hm.iP, hm.mN.of_heap (blk hm.iN hm.mN.lt), hm.mW.of_heap (blk hm.iW hm.mW.lt), hm.ne, fun e he => row (hm.rL e he) (fun g hg => ?_), k hm.iB (Array.getElem?_eq_some_iff.1 hm.book).1, fun g hg => k (hm.iT g hg) (row_lt hm.rT hg), fun g hg => k (hm.iE g hg) (row_lt hm.rE hg), fun g hg => k (hm.iP g hg) (row_lt hm.rP hg), k hm.iN hm.mN.lt, k hm.iW hm.mW.lt, fun e he a ha => k (hm.iL e he a ha) (row_lt (hm.rL e he) (by rw [ha]; rfl))⟩,
    ⟨fun q hq => row (hw.rW q hq) (hw.iV q hq), hw.rD, fun q hq g hg => k (hw.iV q hq g hg) (row_lt (hw.rW q hq) hg)⟩, h1, h2, fun i hi => Nat.lt_of_lt_of_le (hF i hi) hf.size⟩
  · cases ha : e.x.la with
    | none => rw [ha] at hg; cases hg
    | some a =>
      rw [ha] at hg
      have e2 : a.block = g := by simpa [Value.ownBlock] using hg
      rw [← e2]
      exact hm.iL e he a ha
theorem fr_below {F : Nat → Prop} {w W : World} (h : Below w.heap.size w W) : Fr F w W := ⟨h.os, h.tape, h.output, h.size, fun i hi _ => h.block i hi⟩
theorem BkI.grow {F : Nat → Prop} {w W : World} {b : Nat} {zs : List ByteArray} {tol : Int} {es : List Ent} {ps : List Pr} (h : BkI F w b zs tol es ps) (hb : Below w.heap.size w W) : BkI F W b zs tol es ps :=
  h.other (G := fun _ => False) (fr_below hb) (fun _ _ h => h)
theorem BkM.fin0 {w W : World} {b : Nat} {tv : Value} {m1 m2 : Nat} {zs : List ByteArray} {tol : Int}
    (h : BkM (fun _ => False) w W b tv (.slice none 0 0) (.slice none 0 0) m1 m2 ([].map kwF) #[tv, .int .i64 tol, .slice none 0 0, .map (some m1), .map (some m2), .slice none 0 0] zs (nmOf []) [] []) : BkI (fun i => w.heap.size ≤ i ∧ i < W.heap.size) W b zs tol [] [] := by
  have hm := BkI.fin h ⟨(fun q hq => by cases hq), .nil, (fun q hq => by cases hq)⟩ ⟨(fun e he => by cases he), (fun q hq => by cases hq), .nil⟩ ⟨(fun q hq => by cases hq), .nil, fun f hf => rfl⟩ (fun i hi => False.elim hi)
  have e : newF (fun _ => False) w W = fun i => w.heap.size ≤ i ∧ i < W.heap.size := by
    funext i
    simp [newF]
  rw [e] at hm
  exact hm
set_option maxHeartbeats 1000000 in
theorem new_any (A : Option Addr) (n c : Nat) (zs : List ByteArray) (tol : Int) (w : World) (hr : RdT w A n zs) (hn : n * 16 ≤ 140737488351232) :
    Calls Tryz.prog 9 #[.slice A n c, .int .i64 tol] w fun e w' => ∃ b, e = .returned (.pointer (some ⟨b, 0, none⟩)) ∧ BkI (fun i => w.heap.size ≤ i ∧ i < w'.heap.size) w' b zs tol [] [] ∧ Below w.heap.size w w' := by
  have hl := hr.1
  have HC := Lib.hid (cloneTx A n c zs w hr hn)
  have hmm := @run_makeMap Tryz.prog
  clear hr
  subst hl
  go_enter Tryz.func9, Tryz.ntmps9
  go_upto_region 1 with fail
  go_wp2_with (go_at_call 29; (with_reducible refine HC.out.mono ?_); rintro e w1 ⟨tv, rfl, hown, hb⟩; obtain ⟨A1, c1, rfl⟩ := ow_slice hown; have HO := Lib.hid hown; have HBL := Lib.hid hb; clear hown hb)
  go_ret
  refine ⟨_, rfl, ?_, bl_alloc (bl_alloc (bl_alloc HBL.out _) _) _⟩
  have hs := HBL.out.size
  have hlow : Below w.heap.size w (((w1.alloc (Obj.map #[] 0)).alloc (Obj.map #[] 0)).alloc (.cells #[.slice A1 zs.length c1, .int .i64 tol, .slice none 0 0, .map (some w1.heap.size), .map (some (w1.heap.size + 1)), .slice none 0 0] 82)) := bl_alloc (bl_alloc (bl_alloc HBL.out _) _) _
  have hbook : (((w1.alloc (Obj.map #[] 0)).alloc (Obj.map #[] 0)).alloc (.cells #[.slice A1 zs.length c1, .int .i64 tol, .slice none 0 0, .map (some w1.heap.size), .map (some (w1.heap.size + 1)), .slice none 0 0] 82)).heap[w1.heap.size + 1 + 1]? = some (.cells #[.slice A1 zs.length c1, .int .i64 tol, .slice none 0 0, .map (some w1.heap.size), .map (some (w1.heap.size + 1)), .slice none 0 0] 82 (0, 0)) := heap_at _ _ _ (by simp)
  have hrow : (((w1.alloc (Obj.map #[] 0)).alloc (Obj.map #[] 0)).alloc (.cells #[.slice A1 zs.length c1, .int .i64 tol, .slice none 0 0, .map (some w1.heap.size), .map (some (w1.heap.size + 1)), .slice none 0 0] 82)).ownsRow w.heap.size 9 1 (.slice A1 zs.length c1) zs.length (zs.map Value.string) := ((HO.out.alloc _).alloc _).alloc _
  have hm1 : MapIs (((w1.alloc (Obj.map #[] 0)).alloc (Obj.map #[] 0)).alloc (.cells #[.slice A1 zs.length c1, .int .i64 tol, .slice none 0 0, .map (some w1.heap.size), .map (some (w1.heap.size + 1)), .slice none 0 0] 82)) w1.heap.size [] := (MapIs.made w1).of_heap (by rw [heap_alloc_old _ _ (by simp; omega), heap_alloc_old _ _ (by simp)])
  have hm2 : MapIs (((w1.alloc (Obj.map #[] 0)).alloc (Obj.map #[] 0)).alloc (.cells #[.slice A1 zs.length c1, .int .i64 tol, .slice none 0 0, .map (some w1.heap.size), .map (some (w1.heap.size + 1)), .slice none 0 0] 82)) (w1.heap.size + 1) [] := by
    have h := MapIs.made (w1.alloc (Obj.map #[] 0))
    rw [show (w1.alloc (Obj.map #[] 0)).heap.size = w1.heap.size + 1 by simp] at h
    exact h.of_heap (heap_alloc_old _ _ (by simp))
  generalize ((w1.alloc (Obj.map #[] 0)).alloc (Obj.map #[] 0)).alloc (.cells #[.slice A1 zs.length c1, .int .i64 tol, .slice none 0 0, .map (some w1.heap.size), .map (some (w1.heap.size + 1)), .slice none 0 0] 82) = W4 at hlow hbook hrow hm1 hm2 ⊢
  have hrow0 : W4.ownsRow 0 9 1 (.slice A1 zs.length c1) zs.length (zs.map Value.string) := ⟨hrow.1, hrow.2.imp id (fun ⟨g, cap, cur, h1, h2, h3⟩ => ⟨g, cap, cur, h1, Nat.zero_le _, h3⟩)⟩
  have hM : BkM (fun _ => False) w W4 (w1.heap.size + 1 + 1) (.slice A1 zs.length c1) (.slice none 0 0) (.slice none 0 0) w1.heap.size (w1.heap.size + 1) ([].map kwF) #[.slice A1 zs.length c1, .int .i64 tol, .slice none 0 0, .map (some w1.heap.size), .map (some (w1.heap.size + 1)), .slice none 0 0] zs (nmOf []) [] [] :=
    { low := fr_below hlow, book := hbook, rT := hrow0, rE := ow_nil _ _ _ _, rP := ow_nil _ _ _ _, mN := hm1, mW := hm2, ne := by omega, rL := (fun e he => by cases he), iB := .inr (by omega), iT := (fun g hg => .inr (ow_base HO.out g hg)), iE := (fun g hg => by cases hg), iP := (fun g hg => by cases hg), iN := .inr (by omega), iW := .inr (by omega), iL := (fun e he => by cases he) }
  have hm := hM.fin0
  exact hm
end Go.Proofs.YtphabkaiheplpaaGreatDoor
