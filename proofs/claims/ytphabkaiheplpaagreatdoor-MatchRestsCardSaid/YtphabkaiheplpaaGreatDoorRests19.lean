/- Joined texts of this proof: BkCl, BkI, BkS, BkK, BkW, BkA, BkA33, BkD. -/
import Derived.Outline
import Derived.Test.YtphabkaiheplpaaGreatDoorRests1
import Derived.Test.YtphabkaiheplpaaGreatDoorRests16
import Derived.Test.YtphabkaiheplpaaGreatDoorRests17
import Derived.Test.YtphabkaiheplpaaGreatDoorRests18
/- slices.Clone of texts and of links; match.copied; match.New. -/
set_option linter.unusedVariables false
set_option linter.unusedSimpArgs false
set_option maxRecDepth 100000
namespace Go.Proofs.YtphabkaiheplpaaGreatDoor
open Go.RowKit Go.Shelf

theorem infoT : (Tryz.prog.info? 9).map (fun i => (i.zero, i.size, i.bytes)) = some (some (.string ⟨#[]⟩), 1, 16) := by kernel_rfl
theorem infoL : (Tryz.prog.info? 112).map (fun i => (i.zero, i.size, i.bytes)) = some (some (.agg #[.int .i64 0, .string ⟨#[]⟩]), 2, 24) := by kernel_rfl
set_option maxHeartbeats 1000000 in
theorem cloneTexts (A : Option Addr) (n c : Nat) (news : List Value) (w : World) (hA : A = none → n = 0) (hl : news.length = n * 1) (hbig : n * 16 ≤ 140737488355328) (hc : ∀ ad, A = some ad → ∀ j u, news[j]? = some u → w.cell? (ad.add j) = some u) (h1 : ∀ u ∈ news, u.oneCell' = true) :
    Calls Tryz.prog 29 #[.slice A n c] w fun e w' => ∃ v', e = .returned v' ∧ w'.ownsRow w.heap.size 9 1 v' n news ∧ Below w.heap.size w w' := by
  obtain ⟨i0, hi, hz0, hz1, hz2⟩ := Sp.info_of infoT
  cases A with
  | none =>
    obtain rfl := hA rfl
    obtain rfl : news = [] := List.length_eq_zero_iff.1 (by simpa using hl)
    clear hc hbig h1 hA hl
    have q : ∀ (w : World) (a : Option Addr) (n c n' c' : Nat), (binOp .eql 29 (.slice a n c) (.slice none n' c')).run Tryz.prog w = .ok (.bool a.isNone) w := fun w a n c n' c' => Lib.run_eql_slice_nil w _ _ a n c n' c' Tryz.underlying29
    go_enter Tryz.func29, Tryz.ntmps29
    go_wp2
    go_ret
    exact ⟨_, rfl, ow_nil _ _ _ _, bl_refl w⟩
  | some ad =>
    have H := Lib.hid (hc ad rfl)
    have q : ∀ (w : World) (a : Option Addr) (n c n' c' : Nat), (binOp .eql 29 (.slice a n c) (.slice none n' c')).run Tryz.prog w = .ok (.bool a.isNone) w := fun w a n c n' c' => Lib.run_eql_slice_nil w _ _ a n c n' c' Tryz.underlying29
    have hm : n ≤ maxLen := by unfold maxLen; omega
    clear hc hA
    go_enter Tryz.func29, Tryz.ntmps29
    go_wp2_with (at_builtin; refine wpList_append_own _ rfl _ _ 29 rfl w.heap.size 9 i0 (.string ⟨#[]⟩) 1 16 Tryz.underlying29 hi hz0 hz1 hz2 rfl (by decide) _ _ _ rfl (World.ownsRow_made w #[] 0 (Nat.le_refl _) (Nat.zero_le _) (by simp)) ad n c news rfl hl ?q2 h1 ?q4 ?q5 ?q6 ?_)
    case q2 =>
      intro j u hj
      exact al_cell (H.out j u hj)
    case q4 => rw [Nat.zero_add]; exact hm
    case q5 => rw [Nat.zero_add]; exact hbig
    case q6 => simp
    intro v' w1 hown hgrow hnil
    go_wp2
    go_ret
    exact ⟨v', rfl, by simpa using hown, ((Below.refl _ w).alloc (Nat.le_refl _) _).grown hgrow (by simp) (by intro k hk; simp [Value.ownBlock] at hk; omega)⟩
set_option maxHeartbeats 1000000 in
theorem cloneLinks (A : Option Addr) (n c : Nat) (news : List Value) (w : World) (hA : A = none → n = 0) (hl : news.length = n * 2) (hbig : n * 24 ≤ 140737488355328) (hc : ∀ ad, A = some ad → ∀ j u, news[j]? = some u → w.cell? (ad.add j) = some u) (h1 : ∀ u ∈ news, u.oneCell' = true) :
    Calls Tryz.prog 66 #[.slice A n c] w fun e w' => ∃ v', e = .returned v' ∧ w'.ownsRow w.heap.size 112 2 v' n news ∧ Below w.heap.size w w' := by
  obtain ⟨i0, hi, hz0, hz1, hz2⟩ := Sp.info_of infoL
  cases A with
  | none =>
    obtain rfl := hA rfl
    obtain rfl : news = [] := List.length_eq_zero_iff.1 (by simpa using hl)
    clear hc hbig h1 hA hl
    have q : ∀ (w : World) (a : Option Addr) (n c n' c' : Nat), (binOp .eql 24 (.slice a n c) (.slice none n' c')).run Tryz.prog w = .ok (.bool a.isNone) w := fun w a n c n' c' => Lib.run_eql_slice_nil w _ _ a n c n' c' Tryz.underlying24
    go_enter Tryz.func66, Tryz.ntmps66
    go_wp2
    go_ret
    exact ⟨_, rfl, ow_nil _ _ _ _, bl_refl w⟩
  | some ad =>
    have H := Lib.hid (hc ad rfl)
    have q : ∀ (w : World) (a : Option Addr) (n c n' c' : Nat), (binOp .eql 24 (.slice a n c) (.slice none n' c')).run Tryz.prog w = .ok (.bool a.isNone) w := fun w a n c n' c' => Lib.run_eql_slice_nil w _ _ a n c n' c' Tryz.underlying24
    have hm : n ≤ maxLen := by unfold maxLen; omega
    clear hc hA
    go_enter Tryz.func66, Tryz.ntmps66
    go_wp2_with (at_builtin; refine wpList_append_own _ rfl _ _ 24 rfl w.heap.size 112 i0 (.agg #[.int .i64 0, .string ⟨#[]⟩]) 2 24 Tryz.underlying24 hi hz0 hz1 hz2 rfl (by decide) _ _ _ rfl (World.ownsRow_made w #[] 0 (Nat.le_refl _) (Nat.zero_le _) (by simp)) ad n c news rfl hl ?q2 h1 ?q4 ?q5 ?q6 ?_)
    case q2 =>
      intro j u hj
      exact al_cell (H.out j u hj)
    case q4 => rw [Nat.zero_add]; exact hm
    case q5 => rw [Nat.zero_add]; exact hbig
    case q6 => simp
    intro v' w1 hown hgrow hnil
    go_wp2
    go_ret
    exact ⟨v', rfl, by simpa using hown, ((Below.refl _ w).alloc (Nat.le_refl _) _).grown hgrow (by simp) (by intro k hk; simp [Value.ownBlock] at hk; omega)⟩
theorem lks_one (lx : List Lk) : ∀ u ∈ lks lx, u.oneCell' = true := by
  intro u hu
  unfold lks at hu
  obtain ⟨x, _, hx⟩ := List.mem_flatMap.1 hu
  simp at hx
  rcases hx with rfl | rfl <;> rfl
theorem add_le {ad : Addr} {k : Nat} : ad.add k = ad.add (k / 2 * 2 + k % 2) := by rw [Nat.div_add_mod']
theorem lks_read {w : World} {A : Option Addr} {n : Nat} {lx : List Lk} (h : RdL w A n lx) (ad : Addr) (hA : A = some ad) : ∀ j u, (lks lx)[j]? = some u → w.cell? (ad.add j) = some u := by
  intro j u hj
  have hlt : j < 2 * lx.length := by
    have := (List.getElem?_eq_some_iff.1 hj).1
    rwa [lks_length] at this
  obtain ⟨ad', e, h1, h2⟩ := h.2 (j / 2) (by rw [← h.1]; omega)
  rw [hA] at e
  obtain rfl := Option.some.inj e
  have hl := lks_at lx (j := j / 2) (by omega)
  rcases Nat.mod_two_eq_zero_or_one j with h0 | h0
  · have ej : j = j / 2 * 2 := by omega
    rw [ej] at hj
    rw [ej, h1]
    exact (hl.1.symm.trans hj)
  · have ej : j = j / 2 * 2 + 1 := by omega
    rw [ej] at hj
    rw [ej, h2]
    exact (hl.2.symm.trans hj)
theorem RdL_of_own {W : World} {base n : Nat} {v : Value} {lx : List Lk} (h : W.ownsRow base 112 2 v n (lks lx)) : ∃ A c, v = .slice A n c ∧ RdL W A n lx ∧ (∀ a, A = some a → v.ownBlock = some a.block) := by
  have hl : lx.length = n := by
    have := h.1
    rw [lks_length] at this
    omega
  rcases h.2 with ⟨rfl, rfl⟩ | ⟨g, cap, cur, rfl, _⟩
  · exact ⟨none, 0, rfl, ⟨hl, fun i hi => absurd hi (Nat.not_lt_zero _)⟩, by simp⟩
  · refine ⟨some ⟨g, 0, none⟩, cap, rfl, ⟨hl, fun j hj => ⟨_, rfl, h.cells (g := g) rfl _ _ (lks_at _ (by omega)).1, h.cells (g := g) rfl _ _ (lks_at _ (by omega)).2⟩⟩, ?_⟩
    intro a ha
    obtain rfl := Option.some.inj ha
    rfl
/-- slices.Clone of links that read. -/
theorem cloneLk (A : Option Addr) (n c : Nat) (lx : List Lk) (w : World) (hr : RdL w A n lx) (hn : n * 24 ≤ 140737488351232) :
    Calls Tryz.prog 66 #[.slice A n c] w fun e w' => ∃ v', e = .returned v' ∧ w'.ownsRow w.heap.size 112 2 v' n (lks lx) ∧ Below w.heap.size w w' :=
  cloneLinks A n c (lks lx) w (fun h => by
    cases n with
    | zero => rfl
    | succ n => obtain ⟨ad, e, _⟩ := hr.2 0 (by omega); rw [h] at e; cases e) (by rw [lks_length, hr.1]; omega) (by omega) (fun ad hA => lks_read hr ad hA) (lks_one lx)
theorem txs_read {w : World} {A : Option Addr} {n : Nat} {zs : List ByteArray} (h : RdT w A n zs) (ad : Addr) (hA : A = some ad) : ∀ j u, (zs.map Value.string)[j]? = some u → w.cell? (ad.add j) = some u := by
  intro j u hj
  rw [List.getElem?_map] at hj
  obtain ⟨s, hs, rfl⟩ := Option.map_eq_some_iff.1 hj
  have hlt := (List.getElem?_eq_some_iff.1 hs).1
  obtain ⟨ad', e, h1⟩ := h.2 j (by rw [← h.1]; exact hlt)
  rw [hA] at e
  obtain rfl := Option.some.inj e
  rw [h1, List.getD_eq_getElem?_getD, hs]
  rfl
theorem RdT_of_own {W : World} {base n : Nat} {v : Value} {zs : List ByteArray} (h : W.ownsRow base 9 1 v n (zs.map Value.string)) : ∃ A c, v = .slice A n c ∧ RdT W A n zs ∧ (∀ a, A = some a → v.ownBlock = some a.block) := by
  have hl : zs.length = n := by simpa using h.1
  rcases h.2 with ⟨rfl, rfl⟩ | ⟨g, cap, cur, rfl, _⟩
  · exact ⟨none, 0, rfl, ⟨hl, fun i hi => absurd hi (Nat.not_lt_zero _)⟩, by simp⟩
  · refine ⟨some ⟨g, 0, none⟩, cap, rfl, ⟨hl, fun j hj => ⟨_, rfl, h.cells (g := g) rfl _ _ ?_⟩⟩, ?_⟩
    · rw [List.getElem?_map, List.getD_eq_getElem?_getD, List.getElem?_eq_getElem (by omega)]
      rfl
    · intro a ha
      obtain rfl := Option.some.inj ha
      rfl
theorem cloneTx (A : Option Addr) (n c : Nat) (zs : List ByteArray) (w : World) (hr : RdT w A n zs) (hn : n * 16 ≤ 140737488351232) :
    Calls Tryz.prog 29 #[.slice A n c] w fun e w' => ∃ v', e = .returned v' ∧ w'.ownsRow w.heap.size 9 1 v' n (zs.map Value.string) ∧ Below w.heap.size w w' :=
  cloneTexts A n c (zs.map Value.string) w (fun h => by
    cases n with
    | zero => rfl
    | succ n => obtain ⟨ad, e, _⟩ := hr.2 0 (by omega); rw [h] at e; cases e) (by simp [hr.1]) (by omega) (fun ad hA => txs_read hr ad hA) (by
      intro u hu
      obtain ⟨x, _, rfl⟩ := List.mem_map.1 hu
      rfl)
end Go.Proofs.YtphabkaiheplpaaGreatDoor
/- A book in memory: its own blocks, what each change of one of them leaves. -/
set_option linter.unusedVariables false
set_option linter.unusedSimpArgs false
set_option maxRecDepth 100000
namespace Go.Proofs.YtphabkaiheplpaaGreatDoor
open Go.RowKit Go.Shelf
open Go.ChangeMaps (setBlock)

/-- What is not of the footprint has stayed. -/
structure Fr (F : Nat → Prop) (w W : World) : Prop where
  os : W.os = w.os
  tape : W.tape = w.tape
  output : W.output = w.output
  size : w.heap.size ≤ W.heap.size
  block : ∀ i, i < w.heap.size → ¬ F i → W.heap[i]? = w.heap[i]?
theorem Fr.refl (F : Nat → Prop) (w : World) : Fr F w w := ⟨rfl, rfl, rfl, Nat.le_refl _, fun _ _ _ => rfl⟩
def inF (F : Nat → Prop) (B i : Nat) : Prop := F i ∨ B ≤ i
theorem Fr.step {F : Nat → Prop} {w W W1 : World} {row : Option Nat} (h : Fr F w W) (hg : W.grownBy W1 row) (hr : ∀ g, row = some g → inF F w.heap.size g) : Fr F w W1 :=
  ⟨hg.os.trans h.os, hg.tape.trans h.tape, hg.output.trans h.output, Nat.le_trans h.size hg.size, fun i hi hF => (hg.block i (Nat.lt_of_lt_of_le hi h.size) (fun e => by
    rcases hr i e.symm with h1 | h1
    · exact hF h1
    · omega)).trans (h.block i hi hF)⟩
theorem Fr.below {F : Nat → Prop} {w W : World} {B : Nat} (h : Fr F w W) (hF : ∀ i, F i → B ≤ i) (hB : B ≤ w.heap.size) : Below B w W :=
  ⟨h.os, h.tape, h.output, h.size, fun i hi => h.block i (by omega) (fun hf => by have := hF i hf; omega)⟩
theorem gb_below {W W1 : World} (h : Below W.heap.size W W1) : W.grownBy W1 none := ⟨h.os, h.tape, h.output, h.size, fun i hi _ => h.block i hi⟩
theorem gb_block (W : World) (m : Nat) (o : Obj) : W.grownBy (setBlock W m o) (some m) := ⟨rfl, rfl, rfl, by simp [setBlock], fun i _ hne => setBlock_other (fun e => hne (by rw [e]))⟩
theorem gb_cell (W : World) (a : Addr) (v : Value) : W.grownBy (W.setCell a v) (some a.block) := ⟨rfl, rfl, rfl, by simp [World.setCell], fun i _ hne => Below.heap_setCell _ _ _ _ (fun e => hne (by rw [e]))⟩
theorem gb_drew {W W1 : World} {r : Option Nat} (h : W.grownBy W1 r) : W.grownBy W1.drew r := ⟨h.os, h.tape, h.output, h.size, h.block⟩
/-- A row of one kind stays when a block of another kind is written. -/
theorem ow_other {W W1 : World} {base : Nat} {e T : TypeId} {size n : Nat} {v : Value} {xs : List Value} {g : Nat} {cur : Array Value} {fr : Nat × Nat} (h : W.ownsRow base e size v n xs) (hg : W.heap[g]? = some (.cells cur T fr)) (hne : e ≠ T) (hs : W.grownBy W1 (some g)) : W1.ownsRow base e size v n xs := by
  refine h.kept hs ?_
  rcases h.2 with ⟨rfl, _⟩ | ⟨g', cap, c', rfl, _, hh, _⟩
  · exact .inl rfl
  · right
    intro e1
    have e2 : g' = g := by simpa [Value.ownBlock] using e1
    subst e2
    rw [hg] at hh
    injection hh with hh
    injection hh with _ h2 _
    exact hne h2.symm
theorem ow_map {W W1 : World} {base : Nat} {e : TypeId} {size n : Nat} {v : Value} {xs : List Value} {g : Nat} {kv : List (Value × Value)} (h : W.ownsRow base e size v n xs) (hg : MapIs W g kv) (hs : W.grownBy W1 (some g)) : W1.ownsRow base e size v n xs := by
  refine h.kept hs ?_
  obtain ⟨es, cl, hg, _⟩ := hg
  rcases h.2 with ⟨rfl, _⟩ | ⟨g', cap, c', rfl, _, hh, _⟩
  · exact .inl rfl
  · right
    intro e1
    have e2 : g' = g := by simpa [Value.ownBlock] using e1
    subst e2
    rw [hg] at hh
    injection hh with hh
    cases hh
theorem ow_none {W W1 : World} {base : Nat} {e : TypeId} {size n : Nat} {v : Value} {xs : List Value} (h : W.ownsRow base e size v n xs) (hs : W.grownBy W1 none) : W1.ownsRow base e size v n xs := h.kept hs (by by_cases h : v.ownBlock = none <;> simp [h])
theorem map_other {W W1 : World} {m g : Nat} {kv : List (Value × Value)} {cur : Array Value} {T : TypeId} {fr : Nat × Nat} (h : MapIs W m kv) (hg : W.heap[g]? = some (.cells cur T fr)) (hs : W.grownBy W1 (some g)) : MapIs W1 m kv := by
  refine h.of_heap (hs.block m h.lt (fun e => ?_))
  obtain rfl := Option.some.inj e
  obtain ⟨es, cl, h1, _⟩ := h
  rw [hg] at h1
  injection h1 with h1
  cases h1
theorem map_none {W W1 : World} {m : Nat} {kv : List (Value × Value)} (h : MapIs W m kv) (hs : W.grownBy W1 none) : MapIs W1 m kv := h.of_heap (hs.block m h.lt (by simp))
theorem map_ne {W W1 : World} {m g : Nat} {kv : List (Value × Value)} (h : MapIs W m kv) (hne : m ≠ g) (hs : W.grownBy W1 (some g)) : MapIs W1 m kv := h.of_heap (hs.block m h.lt (by simpa using hne))
theorem blk_none {W W1 : World} {b : Nat} {o : Obj} (h : W.heap[b]? = some o) (hs : W.grownBy W1 none) : W1.heap[b]? = some o := (hs.block b (Array.getElem?_eq_some_iff.1 h).1 (by simp)).trans h
theorem blk_ne {W W1 : World} {b g : Nat} {o : Obj} (h : W.heap[b]? = some o) (hne : b ≠ g) (hs : W.grownBy W1 (some g)) : W1.heap[b]? = some o := (hs.block b (Array.getElem?_eq_some_iff.1 h).1 (by simpa using hne)).trans h

def natV (k : Nat) : Value := .int .i64 k
def entC (e : Ent) : List Value := (sideC e.p e.x).toList ++ [.int .i64 e.pair, .bool e.asked, .bool e.gone]
def prC (q : Pr) : List Value := [.int .i64 q.d, .int .i64 q.r, .int .i64 q.a, .bool q.gone]
def keyF (f : Fc) : Value := .agg (faceC f)
def nameV (p : Int) (r : ByteArray) : Value := .agg #[.int .i64 p, .string r]
theorem entC_length (e : Ent) : (entC e).length = 31 := rfl
theorem prC_length (q : Pr) : (prC q).length = 4 := rfl
/-- A book's parts in memory, its block holding C. -/
structure BkM (F : Nat → Prop) (w W : World) (b : Nat) (tv ev pv : Value) (m1 m2 : Nat) (kw : List (Value × Value)) (C : Array Value) (zs : List ByteArray) (nm : List (Value × Value)) (es : List Ent) (ps : List Pr) : Prop where
  low : Fr F w W
  book : W.heap[b]? = some (.cells C 82 (0, 0))
  rT : W.ownsRow 0 9 1 tv zs.length (zs.map Value.string)
  rE : W.ownsRow 0 93 31 ev es.length (es.flatMap entC)
  rP : W.ownsRow 0 97 4 pv ps.length (ps.flatMap prC)
  mN : MapIs W m1 nm
  mW : MapIs W m2 kw
  ne : m1 ≠ m2
  rL : ∀ e ∈ es, W.ownsRow 0 112 2 (.slice e.x.la e.x.ln e.x.lc) e.x.ln (lks e.lx)
  iB : inF F w.heap.size b
  iT : ∀ g, tv.ownBlock = some g → inF F w.heap.size g
  iE : ∀ g, ev.ownBlock = some g → inF F w.heap.size g
  iP : ∀ g, pv.ownBlock = some g → inF F w.heap.size g
  iN : inF F w.heap.size m1
  iW : inF F w.heap.size m2
  iL : ∀ e ∈ es, ∀ a, e.x.la = some a → inF F w.heap.size a.block
section
variable {F : Nat → Prop} {w W W1 : World} {b : Nat} {tv ev pv : Value} {m1 m2 : Nat} {kw : List (Value × Value)} {C : Array Value} {zs : List ByteArray} {nm : List (Value × Value)} {es : List Ent} {ps : List Pr}
/-- New blocks alone. -/
theorem BkM.grow (h : BkM F w W b tv ev pv m1 m2 kw C zs nm es ps) (hb : Below W.heap.size W W1) : BkM F w W1 b tv ev pv m1 m2 kw C zs nm es ps :=
  have hs := gb_below hb
  ⟨h.low.step hs (fun g e => by cases e), blk_none h.book hs, ow_none h.rT hs, ow_none h.rE hs, ow_none h.rP hs, map_none h.mN hs, map_none h.mW hs, h.ne, fun e he => ow_none (h.rL e he) hs, h.iB, h.iT, h.iE, h.iP, h.iN, h.iW, h.iL⟩
theorem BkM.drew (h : BkM F w W b tv ev pv m1 m2 kw C zs nm es ps) : BkM F w W.drew b tv ev pv m1 m2 kw C zs nm es ps := h.grow (bl_drew (bl_refl W))
theorem map_ne_book {W : World} {m b : Nat} {kv : List (Value × Value)} {C : Array Value} {T : TypeId} {fr : Nat × Nat} (h : MapIs W m kv) (hb : W.heap[b]? = some (.cells C T fr)) : b ≠ m := by
  obtain ⟨es, cl, h1, _⟩ := h
  intro e
  subst e
  rw [hb] at h1
  injection h1 with h1
  cases h1
/-- A cell of the book's block. -/
theorem BkM.cell (h : BkM F w W b tv ev pv m1 m2 kw C zs nm es ps) (k : Nat) (v : Value) : BkM F w (W.setCell ⟨b, k, none⟩ v) b tv ev pv m1 m2 kw (C.setIfInBounds k v) zs nm es ps := by
  have hs : W.grownBy (W.setCell ⟨b, k, none⟩ v) (some b) := gb_cell W ⟨b, k, none⟩ v
  exact ⟨h.low.step hs (fun g e => by obtain rfl := Option.some.inj e; exact h.iB), heap_setCell_same W b k C _ v h.book, ow_other h.rT h.book (by decide) hs, ow_other h.rE h.book (by decide) hs, ow_other h.rP h.book (by decide) hs, map_other h.mN h.book hs, map_other h.mW h.book hs, h.ne, fun e he => ow_other (h.rL e he) h.book (by decide) hs, h.iB, h.iT, h.iE, h.iP, h.iN, h.iW, h.iL⟩
/-- The map of names. -/
theorem BkM.names (h : BkM F w W b tv ev pv m1 m2 kw C zs nm es ps) (o : Obj) (nm' : List (Value × Value)) (hm : MapIs (setBlock W m1 o) m1 nm') : BkM F w (setBlock W m1 o) b tv ev pv m1 m2 kw C zs nm' es ps := by
  have hs : W.grownBy (setBlock W m1 o) (some m1) := gb_block W m1 o
  exact ⟨h.low.step hs (fun g e => by obtain rfl := Option.some.inj e; exact h.iN), blk_ne h.book (map_ne_book h.mN h.book) hs, ow_map h.rT h.mN hs, ow_map h.rE h.mN hs, ow_map h.rP h.mN hs, hm, map_ne h.mW (Ne.symm h.ne) hs, h.ne, fun e he => ow_map (h.rL e he) h.mN hs, h.iB, h.iT, h.iE, h.iP, h.iN, h.iW, h.iL⟩
/-- The map of who waits. -/
theorem BkM.waits (h : BkM F w W b tv ev pv m1 m2 kw C zs nm es ps) (o : Obj) (kw' : List (Value × Value)) (hm : MapIs (setBlock W m2 o) m2 kw') : BkM F w (setBlock W m2 o) b tv ev pv m1 m2 kw' C zs nm es ps := by
  have hs : W.grownBy (setBlock W m2 o) (some m2) := gb_block W m2 o
  exact ⟨h.low.step hs (fun g e => by obtain rfl := Option.some.inj e; exact h.iW), blk_ne h.book (map_ne_book h.mW h.book) hs, ow_map h.rT h.mW hs, ow_map h.rE h.mW hs, ow_map h.rP h.mW hs, map_ne h.mN h.ne hs, hm, h.ne,
    fun e he => ow_map (h.rL e he) h.mW hs, h.iB, h.iT, h.iE, h.iP, h.iN, h.iW, h.iL⟩
theorem row_obj {W : World} {base : Nat} {e : TypeId} {size n : Nat} {v : Value} {xs : List Value} (h : W.ownsRow base e size v n xs) {g : Nat} (hg : v.ownBlock = some g) : ∃ cur, W.heap[g]? = some (.cells cur e (0, 0)) := by
  rcases h.2 with ⟨rfl, _⟩ | ⟨g', cap, c', rfl, _, hh, _⟩
  · cases hg
  · have e2 : g' = g := by simpa [Value.ownBlock] using hg
    subst e2
    exact ⟨_, hh⟩
theorem gb_row {W W1 : World} {v : Value} (h : W.grownBy W1 v.ownBlock) (hv : v.ownBlock = none) : W.grownBy W1 none := by rw [hv] at h; exact h
/-- The row of entries. -/
theorem BkM.ents (h : BkM F w W b tv ev pv m1 m2 kw C zs nm es ps) (hs : W.grownBy W1 ev.ownBlock) (ev' : Value) (es' : List Ent) (hown : W1.ownsRow 0 93 31 ev' es'.length (es'.flatMap entC)) (hi : ∀ g, ev'.ownBlock = some g → inF F w.heap.size g)
    (hl : ∀ e ∈ es', W.ownsRow 0 112 2 (.slice e.x.la e.x.ln e.x.lc) e.x.ln (lks e.lx)) (hil : ∀ e ∈ es', ∀ a, e.x.la = some a → inF F w.heap.size a.block) : BkM F w W1 b tv ev' pv m1 m2 kw C zs nm es' ps := by
  cases hv : ev.ownBlock with
  | none =>
    rw [hv] at hs
    exact ⟨h.low.step hs (fun g e => by cases e), blk_none h.book hs, ow_none h.rT hs, hown, ow_none h.rP hs, map_none h.mN hs, map_none h.mW hs, h.ne, fun e he => ow_none (hl e he) hs, h.iB, h.iT, hi, h.iP, h.iN, h.iW, hil⟩
  | some g =>
    rw [hv] at hs
    obtain ⟨cur, ho⟩ := row_obj h.rE hv
    have hbg : b ≠ g := fun e => by
      have := h.book
      rw [e, ho] at this
      injection this with this
      injection this with _ h2 _
      exact absurd h2 (by decide)
    exact ⟨h.low.step hs (fun g' e => by obtain rfl := Option.some.inj e; exact h.iE _ hv), blk_ne h.book hbg hs, ow_other h.rT ho (by decide) hs, hown, ow_other h.rP ho (by decide) hs, map_other h.mN ho hs, map_other h.mW ho hs, h.ne, fun e he => ow_other (hl e he) ho (by decide) hs, h.iB, h.iT, hi, h.iP, h.iN, h.iW, hil⟩
/-- The row of pairs. -/
theorem BkM.pairs (h : BkM F w W b tv ev pv m1 m2 kw C zs nm es ps) (hs : W.grownBy W1 pv.ownBlock) (pv' : Value) (ps' : List Pr) (hown : W1.ownsRow 0 97 4 pv' ps'.length (ps'.flatMap prC)) (hi : ∀ g, pv'.ownBlock = some g → inF F w.heap.size g) : BkM F w W1 b tv ev pv' m1 m2 kw C zs nm es ps' := by
  cases hv : pv.ownBlock with
  | none =>
    rw [hv] at hs
    exact ⟨h.low.step hs (fun g e => by cases e), blk_none h.book hs, ow_none h.rT hs, ow_none h.rE hs, hown, map_none h.mN hs, map_none h.mW hs, h.ne, fun e he => ow_none (h.rL e he) hs, h.iB, h.iT, h.iE, hi, h.iN, h.iW, h.iL⟩
  | some g =>
    rw [hv] at hs
    obtain ⟨cur, ho⟩ := row_obj h.rP hv
    have hbg : b ≠ g := fun e => by
      have := h.book
      rw [e, ho] at this
      injection this with this
      injection this with _ h2 _
      exact absurd h2 (by decide)
    exact ⟨h.low.step hs (fun g' e => by obtain rfl := Option.some.inj e; exact h.iP _ hv), blk_ne h.book hbg hs, ow_other h.rT ho (by decide) hs, ow_other h.rE ho (by decide) hs, hown, map_other h.mN ho hs, map_other h.mW ho hs, h.ne, fun e he => ow_other (h.rL e he) ho (by decide) hs, h.iB, h.iT, h.iE, hi, h.iN, h.iW, h.iL⟩
/-- A row of those who wait. -/
theorem BkM.introw (h : BkM F w W b tv ev pv m1 m2 kw C zs nm es ps) {r : Option Nat} (hs : W.grownBy W1 r) (hr : ∀ g, r = some g → inF F w.heap.size g ∧ ∃ cur, W.heap[g]? = some (.cells cur 3 (0, 0))) : BkM F w W1 b tv ev pv m1 m2 kw C zs nm es ps := by
  cases r with
  | none => exact ⟨h.low.step hs (fun g e => by cases e), blk_none h.book hs, ow_none h.rT hs, ow_none h.rE hs, ow_none h.rP hs, map_none h.mN hs, map_none h.mW hs, h.ne, fun e he => ow_none (h.rL e he) hs, h.iB, h.iT, h.iE, h.iP, h.iN, h.iW, h.iL⟩
  | some g =>
    obtain ⟨hi, cur, ho⟩ := hr g rfl
    have hbg : b ≠ g := fun e => by
      have := h.book
      rw [e, ho] at this
      injection this with this
      injection this with _ h2 _
      exact absurd h2 (by decide)
    exact ⟨h.low.step hs (fun g' e => by obtain rfl := Option.some.inj e; exact hi), blk_ne h.book hbg hs, ow_other h.rT ho (by decide) hs, ow_other h.rE ho (by decide) hs, ow_other h.rP ho (by decide) hs, map_other h.mN ho hs, map_other h.mW ho hs, h.ne, fun e he => ow_other (h.rL e he) ho (by decide) hs, h.iB, h.iT, h.iE, h.iP, h.iN, h.iW, h.iL⟩
end
/-- The rows of those who wait. -/
structure WsR (F : Nat → Prop) (B : Nat) (W : World) (ws : List (Fc × Value × List Nat)) : Prop where
  rW : ∀ q ∈ ws, W.ownsRow 0 3 1 q.2.1 q.2.2.length (q.2.2.map natV)
  rD : ws.Pairwise fun p q => p.2.1.ownBlock = none ∨ p.2.1.ownBlock ≠ q.2.1.ownBlock
  iV : ∀ q ∈ ws, ∀ g, q.2.1.ownBlock = some g → inF F B g
section
variable {F : Nat → Prop} {B : Nat} {W W1 : World} {ws : List (Fc × Value × List Nat)}
theorem WsR.grow (h : WsR F B W ws) (hb : Below W.heap.size W W1) : WsR F B W1 ws := ⟨fun q hq => ow_none (h.rW q hq) (gb_below hb), h.rD, h.iV⟩
theorem WsR.drew (h : WsR F B W ws) : WsR F B W.drew ws := h.grow (bl_drew (bl_refl W))
theorem WsR.other (h : WsR F B W ws) {g : Nat} {cur : Array Value} {T : TypeId} {fr : Nat × Nat} (hg : W.heap[g]? = some (.cells cur T fr)) (hne : 3 ≠ T) (hs : W.grownBy W1 (some g)) : WsR F B W1 ws := ⟨fun q hq => ow_other (h.rW q hq) hg hne hs, h.rD, h.iV⟩
theorem WsR.map_ (h : WsR F B W ws) {g : Nat} {kv : List (Value × Value)} (hg : MapIs W g kv) (hs : W.grownBy W1 (some g)) : WsR F B W1 ws := ⟨fun q hq => ow_map (h.rW q hq) hg hs, h.rD, h.iV⟩
theorem WsR.row (h : WsR F B W ws) {base : Nat} {e : TypeId} {size n : Nat} {v : Value} {xs : List Value} (hv : W.ownsRow base e size v n xs) (hne : 3 ≠ e) (hs : W.grownBy W1 v.ownBlock) : WsR F B W1 ws := by
  cases ho : v.ownBlock with
  | none => rw [ho] at hs; exact ⟨fun q hq => ow_none (h.rW q hq) hs, h.rD, h.iV⟩
  | some g =>
    rw [ho] at hs
    obtain ⟨cur, hc⟩ := row_obj hv ho
    exact h.other hc hne hs
end
end Go.Proofs.YtphabkaiheplpaaGreatDoor
/- A book as it stands between calls; match.New. -/
set_option linter.unusedVariables false
set_option linter.unusedSimpArgs false
set_option maxRecDepth 100000
namespace Go.Proofs.YtphabkaiheplpaaGreatDoor
open Go.RowKit Go.Shelf
open Go.ChangeMaps (setBlock)

def nmOf (es : List Ent) : List (Value × Value) := es.zipIdx.map fun q => (nameV q.1.p q.1.x.ref, natV q.2)
def kwF (q : Fc × Value × List Nat) : Value × Value := (keyF q.1, q.2.1)
noncomputable def wsGet (ws : List (Fc × Value × List Nat)) (f : Fc) : List Nat := ((ws.find? fun q => sameFace q.1 f).map (·.2.2)).getD []
structure StOk (zs : List ByteArray) (es : List Ent) (ps : List Pr) : Prop where
  ent : ∀ e ∈ es, e.x.wf ∧ I64 e.p ∧ 0 ≤ e.p ∧ e.p < zs.length ∧ -1 ≤ e.pair ∧ e.pair < ps.length ∧ OkL e.lx ∧ e.x.ln * 24 ≤ 140737488351232
  prs : ∀ q ∈ ps, q.d < es.length ∧ q.r < es.length ∧ I64 q.a
  nodup : es.Pairwise fun a b => ¬ (a.p = b.p ∧ a.x.ref = b.x.ref)
structure WsOk (zs : List ByteArray) (es : List Ent) (ws : List (Fc × Value × List Nat)) : Prop where
  fwf : ∀ q ∈ ws, q.1.wf
  keys : ws.Pairwise fun p q => sameFace p.1 q.1 = false
  get : ∀ f : Fc, f.wf → wsGet ws f = wl zs es f
/-- The book between calls. -/
def BkI (F : Nat → Prop) (W : World) (b : Nat) (zs : List ByteArray) (tol : Int) (es : List Ent) (ps : List Pr) : Prop :=
  ∃ tv ev pv m1 m2 ws, BkM F W W b tv ev pv m1 m2 (ws.map kwF) #[tv, .int .i64 tol, ev, .map (some m1), .map (some m2), pv] zs (nmOf es) es ps ∧ WsR F W.heap.size W ws ∧ StOk zs es ps ∧ WsOk zs es ws ∧ ∀ i, F i → i < W.heap.size
/-- The footprint behind a call: what was of it, and what is new. -/
def newF (F : Nat → Prop) (w W : World) (i : Nat) : Prop := F i ∨ (w.heap.size ≤ i ∧ i < W.heap.size)
theorem inF_new {F : Nat → Prop} {w W : World} {g : Nat} (h : inF F w.heap.size g) (hg : g < W.heap.size) : newF F w W g := by
  rcases h with h | h
  · exact .inl h
  · exact .inr ⟨h, hg⟩
theorem row_lt {W : World} {base : Nat} {e : TypeId} {size n : Nat} {v : Value} {xs : List Value} (h : W.ownsRow base e size v n xs) {g : Nat} (hg : v.ownBlock = some g) : g < W.heap.size := by
  obtain ⟨cur, ho⟩ := row_obj h hg
  exact (Array.getElem?_eq_some_iff.1 ho).1
theorem BkI.fin {F : Nat → Prop} {w W : World} {b : Nat} {tv ev pv : Value} {m1 m2 : Nat} {ws : List (Fc × Value × List Nat)} {zs : List ByteArray} {tol : Int} {es : List Ent} {ps : List Pr}
    (h : BkM F w W b tv ev pv m1 m2 (ws.map kwF) #[tv, .int .i64 tol, ev, .map (some m1), .map (some m2), pv] zs (nmOf es) es ps) (hw : WsR F w.heap.size W ws) (h1 : StOk zs es ps) (h2 : WsOk zs es ws) (hF : ∀ i, F i → i < w.heap.size) : BkI (newF F w W) W b zs tol es ps := by
  have k : ∀ {g : Nat}, inF F w.heap.size g → g < W.heap.size → inF (newF F w W) W.heap.size g := fun h1 h2 => .inl (inF_new h1 h2)
  refine ⟨tv, ev, pv, m1, m2, ws, ⟨Fr.refl _ _, h.book, h.rT, h.rE, h.rP, h.mN, h.mW, h.ne, h.rL, k h.iB (Array.getElem?_eq_some_iff.1 h.book).1, fun g hg => k (h.iT g hg) (row_lt h.rT hg), fun g hg => k (h.iE g hg) (row_lt h.rE hg), fun g hg => k (h.iP g hg) (row_lt h.rP hg), k h.iN h.mN.lt, k h.iW h.mW.lt, fun e he a ha => k (h.iL e he a ha) (row_lt (h.rL e he) (by rw [ha]; rfl))⟩,
    ⟨hw.rW, hw.rD, fun q hq g hg => k (hw.iV q hq g hg) (row_lt (hw.rW q hq) hg)⟩, h1, h2, fun i hi => ?_⟩
  rcases hi with hi | hi
  · exact Nat.lt_of_lt_of_le (hF i hi) h.low.size
  · exact hi.2
/-- Another book is as it was. -/
theorem BkI.other {F G : Nat → Prop} {w W : World} {b : Nat} {zs : List ByteArray} {tol : Int} {es : List Ent} {ps : List Pr} (h : BkI F w b zs tol es ps) (hf : Fr G w W) (hd : ∀ i, F i → ¬ G i) : BkI F W b zs tol es ps := by
  obtain ⟨tv, ev, pv, m1, m2, ws, hm, hw, h1, h2, hF⟩ := h
  have hin : ∀ {g : Nat}, inF F w.heap.size g → g < w.heap.size → F g := fun h1 h2 => by
    rcases h1 with h1 | h1
    · exact h1
    · omega
  have blk : ∀ {g : Nat}, inF F w.heap.size g → g < w.heap.size → W.heap[g]? = w.heap[g]? := fun h1 h2 => hf.block _ h2 (hd _ (hin h1 h2))
  have row : ∀ {e : TypeId} {size n : Nat} {v : Value} {xs : List Value}, w.ownsRow 0 e size v n xs → (∀ g, v.ownBlock = some g → inF F w.heap.size g) → W.ownsRow 0 e size v n xs := fun {e size n v xs} hr hi => by
    refine ⟨hr.1, ?_⟩
    rcases hr.2 with h0 | ⟨g, cap, cur, rfl, hb, hg, rest⟩
    · exact .inl h0
    · exact .inr ⟨g, cap, cur, rfl, hb, (blk (hi g rfl) (Array.getElem?_eq_some_iff.1 hg).1).trans hg, rest⟩
  have k : ∀ {g : Nat}, inF F w.heap.size g → g < w.heap.size → inF F W.heap.size g := fun h1 h2 => .inl (hin h1 h2)
  refine ⟨tv, ev, pv, m1, m2, ws, ⟨Fr.refl _ _, (blk hm.iB (Array.getElem?_eq_some_iff.1 hm.book).1).trans hm.book, row hm.rT hm.iT, row hm.rE hm.iE, row hm.rP hm.iP, hm.mN.of_heap (blk hm.iN hm.mN.lt), hm.mW.of_heap (blk hm.iW hm.mW.lt), hm.ne, fun e he => row (hm.rL e he) (fun g hg => ?_), k hm.iB (Array.getElem?_eq_some_iff.1 hm.book).1, fun g hg => k (hm.iT g hg) (row_lt hm.rT hg), fun g hg => k (hm.iE g hg) (row_lt hm.rE hg), fun g hg => k (hm.iP g hg) (row_lt hm.rP hg), k hm.iN hm.mN.lt, k hm.iW hm.mW.lt, fun e he a ha => k (hm.iL e he a ha) (row_lt (hm.rL e he) (by rw [ha]; rfl))⟩,
    ⟨fun q hq => row (hw.rW q hq) (hw.iV q hq), hw.rD, fun q hq g hg => k (hw.iV q hq g hg) (row_lt (hw.rW q hq) hg)⟩, h1, h2, fun i hi => Nat.lt_of_lt_of_le (hF i hi) hf.size⟩
  · cases ha : e.x.la with
    | none => rw [ha] at hg; cases hg
    | some a =>
      rw [ha] at hg
      have e2 : a.block = g := by simpa [Value.ownBlock] using hg
      rw [← e2]
      exact hm.iL e he a ha
theorem fr_below {F : Nat → Prop} {w W : World} (h : Below w.heap.size w W) : Fr F w W := ⟨h.os, h.tape, h.output, h.size, fun i hi _ => h.block i hi⟩
theorem BkI.grow {F : Nat → Prop} {w W : World} {b : Nat} {zs : List ByteArray} {tol : Int} {es : List Ent} {ps : List Pr} (h : BkI F w b zs tol es ps) (hb : Below w.heap.size w W) : BkI F W b zs tol es ps :=
  h.other (G := fun _ => False) (fr_below hb) (fun _ _ h => h)
theorem BkM.fin0 {w W : World} {b : Nat} {tv : Value} {m1 m2 : Nat} {zs : List ByteArray} {tol : Int}
    (h : BkM (fun _ => False) w W b tv (.slice none 0 0) (.slice none 0 0) m1 m2 ([].map kwF) #[tv, .int .i64 tol, .slice none 0 0, .map (some m1), .map (some m2), .slice none 0 0] zs (nmOf []) [] []) : BkI (fun i => w.heap.size ≤ i ∧ i < W.heap.size) W b zs tol [] [] := by
  have hm := BkI.fin h ⟨(fun q hq => by cases hq), .nil, (fun q hq => by cases hq)⟩ ⟨(fun e he => by cases he), (fun q hq => by cases hq), .nil⟩ ⟨(fun q hq => by cases hq), .nil, fun f hf => rfl⟩ (fun i hi => False.elim hi)
  have e : newF (fun _ => False) w W = fun i => w.heap.size ≤ i ∧ i < W.heap.size := by
    funext i
    simp [newF]
  rw [e] at hm
  exact hm
set_option maxHeartbeats 1000000 in
theorem new_any (A : Option Addr) (n c : Nat) (zs : List ByteArray) (tol : Int) (w : World) (hr : RdT w A n zs) (hn : n * 16 ≤ 140737488351232) :
    Calls Tryz.prog 9 #[.slice A n c, .int .i64 tol] w fun e w' => ∃ b, e = .returned (.pointer (some ⟨b, 0, none⟩)) ∧ BkI (fun i => w.heap.size ≤ i ∧ i < w'.heap.size) w' b zs tol [] [] ∧ Below w.heap.size w w' := by
  have hl := hr.1
  have HC := Lib.hid (cloneTx A n c zs w hr hn)
  have hmm := @run_makeMap Tryz.prog
  clear hr
  subst hl
  go_enter Tryz.func9, Tryz.ntmps9
  go_upto_region 1 with fail
  go_wp2_with (go_at_call 29; (with_reducible refine HC.out.mono ?_); rintro e w1 ⟨tv, rfl, hown, hb⟩; obtain ⟨A1, c1, rfl⟩ := ow_slice hown; have HO := Lib.hid hown; have HBL := Lib.hid hb; clear hown hb)
  go_ret
  refine ⟨_, rfl, ?_, bl_alloc (bl_alloc (bl_alloc HBL.out _) _) _⟩
  have hs := HBL.out.size
  have hlow : Below w.heap.size w (((w1.alloc (Obj.map #[] 0)).alloc (Obj.map #[] 0)).alloc (.cells #[.slice A1 zs.length c1, .int .i64 tol, .slice none 0 0, .map (some w1.heap.size), .map (some (w1.heap.size + 1)), .slice none 0 0] 82)) := bl_alloc (bl_alloc (bl_alloc HBL.out _) _) _
  have hbook : (((w1.alloc (Obj.map #[] 0)).alloc (Obj.map #[] 0)).alloc (.cells #[.slice A1 zs.length c1, .int .i64 tol, .slice none 0 0, .map (some w1.heap.size), .map (some (w1.heap.size + 1)), .slice none 0 0] 82)).heap[w1.heap.size + 1 + 1]? = some (.cells #[.slice A1 zs.length c1, .int .i64 tol, .slice none 0 0, .map (some w1.heap.size), .map (some (w1.heap.size + 1)), .slice none 0 0] 82 (0, 0)) := heap_at _ _ _ (by simp)
  have hrow : (((w1.alloc (Obj.map #[] 0)).alloc (Obj.map #[] 0)).alloc (.cells #[.slice A1 zs.length c1, .int .i64 tol, .slice none 0 0, .map (some w1.heap.size), .map (some (w1.heap.size + 1)), .slice none 0 0] 82)).ownsRow w.heap.size 9 1 (.slice A1 zs.length c1) zs.length (zs.map Value.string) := ((HO.out.alloc _).alloc _).alloc _
  have hm1 : MapIs (((w1.alloc (Obj.map #[] 0)).alloc (Obj.map #[] 0)).alloc (.cells #[.slice A1 zs.length c1, .int .i64 tol, .slice none 0 0, .map (some w1.heap.size), .map (some (w1.heap.size + 1)), .slice none 0 0] 82)) w1.heap.size [] := (MapIs.made w1).of_heap (by rw [heap_alloc_old _ _ (by simp; omega), heap_alloc_old _ _ (by simp)])
  have hm2 : MapIs (((w1.alloc (Obj.map #[] 0)).alloc (Obj.map #[] 0)).alloc (.cells #[.slice A1 zs.length c1, .int .i64 tol, .slice none 0 0, .map (some w1.heap.size), .map (some (w1.heap.size + 1)), .slice none 0 0] 82)) (w1.heap.size + 1) [] := by
    have h := MapIs.made (w1.alloc (Obj.map #[] 0))
    rw [show (w1.alloc (Obj.map #[] 0)).heap.size = w1.heap.size + 1 by simp] at h
    exact h.of_heap (heap_alloc_old _ _ (by simp))
  generalize ((w1.alloc (Obj.map #[] 0)).alloc (Obj.map #[] 0)).alloc (.cells #[.slice A1 zs.length c1, .int .i64 tol, .slice none 0 0, .map (some w1.heap.size), .map (some (w1.heap.size + 1)), .slice none 0 0] 82) = W4 at hlow hbook hrow hm1 hm2 ⊢
  have hrow0 : W4.ownsRow 0 9 1 (.slice A1 zs.length c1) zs.length (zs.map Value.string) := ⟨hrow.1, hrow.2.imp id (fun ⟨g, cap, cur, h1, h2, h3⟩ => ⟨g, cap, cur, h1, Nat.zero_le _, h3⟩)⟩
  have hM : BkM (fun _ => False) w W4 (w1.heap.size + 1 + 1) (.slice A1 zs.length c1) (.slice none 0 0) (.slice none 0 0) w1.heap.size (w1.heap.size + 1) ([].map kwF) #[.slice A1 zs.length c1, .int .i64 tol, .slice none 0 0, .map (some w1.heap.size), .map (some (w1.heap.size + 1)), .slice none 0 0] zs (nmOf []) [] [] :=
    { low := fr_below hlow, book := hbook, rT := hrow0, rE := ow_nil _ _ _ _, rP := ow_nil _ _ _ _, mN := hm1, mW := hm2, ne := by omega, rL := (fun e he => by cases he), iB := .inr (by omega), iT := (fun g hg => .inr (ow_base HO.out g hg)), iE := (fun g hg => by cases hg), iP := (fun g hg => by cases hg), iN := .inr (by omega), iW := .inr (by omega), iL := (fun e he => by cases he) }
  have hm := hM.fin0
  exact hm
end Go.Proofs.YtphabkaiheplpaaGreatDoor
/- The keys of a book's maps. -/
set_option linter.unusedVariables false
set_option linter.unusedSimpArgs false
set_option maxRecDepth 100000
namespace Go.Proofs.YtphabkaiheplpaaGreatDoor
open Go.RowKit Go.Shelf Go.Maps

theorem face_litsD (D : Nat) (f : Fc) (h : f.wf) : Tryz.prog.keyLits (D + 5) 68 (faceC f).toList = some (faceL f) := by
  have u0 := Tryz.underlying68
  have u1 := Tryz.underlying23
  have u2 := Tryz.underlying5
  have u3 := Tryz.underlying66
  have u4 := Tryz.underlying9
  have u5 := Tryz.underlying3
  have u6 := Tryz.underlying2
  have u7 := Tryz.underlying4
  have c0 : Tryz.prog.cellsOf 68 = 29 := by kernel_rfl
  have c1 : Tryz.prog.cellsOf 23 = 12 := by kernel_rfl
  have c2 : Tryz.prog.cellsOf 5 = 1 := by kernel_rfl
  have c3 : Tryz.prog.cellsOf 66 = 4 := by kernel_rfl
  have c4 : Tryz.prog.cellsOf 9 = 1 := by kernel_rfl
  have c5 : Tryz.prog.cellsOf 3 = 1 := by kernel_rfl
  have c6 : Tryz.prog.cellsOf 2 = 1 := by kernel_rfl
  have c7 : Tryz.prog.cellsOf 4 = 1 := by kernel_rfl
  have w1 := i64_lit h.trade
  have w2 := i64_lit h.settle
  have w3 := i64_lit h.qty
  have w4 := fun i => u8_lit (h.code i)
  have l1 := h.cur
  have l2 := h.from_
  have l3 := h.to_
  have l4 := h.s
  have l5 := h.b
  simp [faceC, faceL, Program.keyLits, u0, u1, u2, u3, u4, u5, u6, u7, c0, c1, c2, c3, c4, c5, c6, c7, w1, w2, w3, w4, l1, l2, l3, l4, l5, List.range, List.range.loop]
theorem name_litsD (D : Nat) (k : Int) (s : ByteArray) (hk : I64 k) (hs : s.size ≤ 140737488351232) : Tryz.prog.keyLits (D + 3) 90 [.int .i64 k, .string s] = some [.int .i64 k, .string s.data.toList] := by
  have u1 := Tryz.underlying90
  have u2 := Tryz.underlying9
  have u3 := Tryz.underlying3
  have c1 : Tryz.prog.cellsOf 90 = 2 := by kernel_rfl
  have c2 : Tryz.prog.cellsOf 9 = 1 := by kernel_rfl
  have c3 : Tryz.prog.cellsOf 3 = 1 := by kernel_rfl
  have hs2 : s.size ≤ maxLen := by unfold maxLen; omega
  have wf : (Lit.int .i64 k).wf = true := by
    unfold I64 at hk
    have h1 : IntKind.i64.min = -9223372036854775808 := by decide
    have h2 : IntKind.i64.max = 9223372036854775807 := by decide
    simp only [Lit.wf, h1, h2, hk.1, hk.2, decide_true, Bool.and_self]
  simp [Program.keyLits, u1, u2, u3, c1, c2, c3, hs2, wf]
theorem laidOutP : laidOutB Tryz.prog = true := by kernel_rfl
theorem typesN : Tryz.prog.types.size = 296 := by kernel_rfl
theorem face_law : Keyed Tryz.prog 68 := Keyed.of_law (deep_law_laid laidOutP (m := 5) (by omega) (by rw [typesN]; decide) (by kernel_rfl) (by kernel_rfl))
theorem name_law : Keyed Tryz.prog 90 := Keyed.of_law (deep_law_laid laidOutP (m := 3) (by omega) (by rw [typesN]; decide) (by kernel_rfl) (by kernel_rfl))
theorem face_shape : (match Tryz.prog.underlying 68 with | some (.array _ _) | some (.struct _) => true | _ => false) = true := by kernel_rfl
theorem name_shape : (match Tryz.prog.underlying 90 with | some (.array _ _) | some (.struct _) => true | _ => false) = true := by kernel_rfl
theorem keyOf_wide {P : Program} {k : TypeId} {v : Value} {l : List Lit} (hs : (match P.underlying k with | some (.array _ _) | some (.struct _) => true | _ => false) = true) (hk : P.keyType k = true) (hf : v.formed P k = true) (hl : P.keyLits (P.types.size + 1) k v.cells.toList = some l) : keyOf P k v = some (.string (keyBytes l)) := by
  cases hu : P.underlying k with
  | none => rw [hu] at hs; cases hs
  | some d =>
    rw [hu] at hs
    cases d <;> first | (exfalso; revert hs; simp; done) | simp [keyOf, hu, hk, hf, hl]
theorem face_keyOf (f : Fc) (h : f.wf) : keyOf Tryz.prog 68 (keyF f) = some (.string (keyBytes (faceL f))) :=
  keyOf_wide face_shape (by kernel_rfl) (face_formed f) (by
    show Tryz.prog.keyLits (Tryz.prog.types.size + 1) 68 (faceC f).toList = _
    rw [typesN, show (296 : Nat) + 1 = (296 + 1 - 5) + 5 from rfl]
    exact face_litsD _ f h)
theorem name_keyOf (p : Int) (s : ByteArray) (hp : I64 p) (hs : s.size ≤ 140737488351232) : keyOf Tryz.prog 90 (nameV p s) = some (.string (keyBytes [.int .i64 p, .string s.data.toList])) :=
  keyOf_wide name_shape (by kernel_rfl) (by kernel_rfl) (by
    show Tryz.prog.keyLits (Tryz.prog.types.size + 1) 90 [.int .i64 p, .string s] = _
    rw [typesN, show (296 : Nat) + 1 = (296 + 1 - 3) + 3 from rfl]
    exact name_litsD _ p s hp hs)
/-- A face's key tells its letters. -/
theorem keyF_inj {f g : Fc} (hf : f.wf) (hg : g.wf) : keyF f = keyF g ↔ sameFace f g = true := by
  rw [sameL_iff]
  constructor
  · intro h
    have e : (faceC f).toList = (faceC g).toList := by
      unfold keyF at h
      injection h with h
      rw [h]
    have h1 := face_lits f hf
    rw [e, face_lits g hg] at h1
    exact (Option.some.inj h1).symm
  · intro h
    have e : ∀ f : Fc, (faceC f).toList = (faceL f).map Lit.toCell := fun f => by
      simp [faceC, faceL, Lit.toCell]
    have e2 : (faceC f).toList = (faceC g).toList := by rw [e f, e g, h]
    unfold keyF
    rw [Array.toList_inj.1 e2]
theorem nameV_inj {p q : Int} {r s : ByteArray} : nameV p r = nameV q s ↔ p = q ∧ r = s := by
  unfold nameV
  simp
theorem mem_nmOf {es : List Ent} {p : Value × Value} (h : p ∈ nmOf es) : ∃ i, i < es.length ∧ p = (nameV (es.getD i ent0).p (es.getD i ent0).x.ref, natV i) := by
  unfold nmOf at h
  obtain ⟨q, hq, rfl⟩ := List.mem_map.1 h
  obtain ⟨h1, h2⟩ := List.mem_zipIdx' hq
  refine ⟨q.2, h1, ?_⟩
  rw [List.getD_eq_getElem?_getD, List.getElem?_eq_getElem h1, Option.getD_some, ← h2]
theorem nmOf_at {es : List Ent} {i : Nat} (h : i < es.length) : (nmOf es)[i]? = some (nameV (es.getD i ent0).p (es.getD i ent0).x.ref, natV i) := by
  unfold nmOf
  rw [List.getElem?_map, List.getElem?_zipIdx, List.getElem?_eq_getElem h, List.getD_eq_getElem?_getD, List.getElem?_eq_getElem h]
  simp
theorem nmOf_length (es : List Ent) : (nmOf es).length = es.length := by simp [nmOf]
theorem nmOf_keys {zs : List ByteArray} {es : List Ent} {ps : List Pr} (h : StOk zs es ps) : KeysOk Tryz.prog 90 (nmOf es) := fun p hp => by
  obtain ⟨i, hi, rfl⟩ := mem_nmOf hp
  have hm : es.getD i ent0 ∈ es := by rw [List.getD_eq_getElem?_getD, List.getElem?_eq_getElem hi]; exact List.getElem_mem hi
  have he := h.ent _ hm
  exact ⟨_, name_keyOf _ _ he.2.1 he.1.ref⟩
theorem ws_keys {zs : List ByteArray} {es : List Ent} {ws : List (Fc × Value × List Nat)} (h : WsOk zs es ws) : KeysOk Tryz.prog 68 (ws.map kwF) := fun p hp => by
  obtain ⟨q, hq, rfl⟩ := List.mem_map.1 hp
  exact ⟨_, face_keyOf q.1 (h.fwf q hq)⟩
/-- Whether a name stands in the book. -/
def twiceB (es : List Ent) (p : Int) (r : ByteArray) : Bool := es.any fun e => decide (e.p = p) && decide (e.x.ref = r)
theorem name_tells {zs : List ByteArray} {es : List Ent} {ps : List Pr} (h : StOk zs es ps) {W : World} {m : Nat} (hm : MapIs W m (nmOf es)) (p : Int) (r : ByteArray) (hp : I64 p) (hr : r.size ≤ 140737488351232) :
    (twiceB es p r = false ∧ (∀ q ∈ nmOf es, q.1 ≠ nameV p r) ∧ (Instr.lookup 77 (.map (some m)) (nameV p r) true).run Tryz.prog W = .ok (.tuple #[.int .i64 0, .bool false]) W) ∨
    (twiceB es p r = true ∧ ∃ i, i < es.length ∧ (es.getD i ent0).p = p ∧ (es.getD i ent0).x.ref = r ∧ (Instr.lookup 77 (.map (some m)) (nameV p r) true).run Tryz.prog W = .ok (.tuple #[natV i, .bool true]) W) := by
  rcases lookup_tells (z := .int .i64 0) hm name_law Tryz.underlying77 (by kernel_rfl) (nmOf_keys h) (name_keyOf p r hp hr) true with ⟨h1, h2⟩ | ⟨j, v, h1, h2⟩
  · refine .inl ⟨?_, h1, h2⟩
    unfold twiceB
    rw [List.any_eq_false]
    intro e he
    simp only [Bool.and_eq_true, decide_eq_true_eq, not_and]
    intro e1 e2
    obtain ⟨i, hi, e3⟩ := List.getElem_of_mem he
    refine h1 _ (List.mem_of_getElem? (nmOf_at (i := i) hi)) ?_
    rw [List.getD_eq_getElem?_getD, List.getElem?_eq_getElem hi, Option.getD_some, e3, e1, e2]
  · right
    have hj : j < es.length := by
      have := (List.getElem?_eq_some_iff.1 h1).1
      rwa [nmOf_length] at this
    rw [nmOf_at hj] at h1
    have h3 := Option.some.inj h1
    have h4 := Prod.mk.inj h3
    obtain ⟨e1, e2⟩ := nameV_inj.1 h4.1
    refine ⟨?_, j, hj, e1, e2, by rw [h4.2]; exact h2⟩
    unfold twiceB
    rw [List.any_eq_true]
    refine ⟨es.getD j ent0, ?_, by rw [e1, e2]; simp⟩
    rw [List.getD_eq_getElem?_getD, List.getElem?_eq_getElem hj]
    exact List.getElem_mem hj
end Go.Proofs.YtphabkaiheplpaaGreatDoor
/- Who waits, in plain Lean: one more under a face, one less. -/
set_option linter.unusedVariables false
set_option linter.unusedSimpArgs false
set_option maxRecDepth 100000
namespace Go.Proofs.YtphabkaiheplpaaGreatDoor
open Go.RowKit Go.Shelf Go.Maps

abbrev Wq := Fc × Value × List Nat
theorem sf_trans {f g h : Fc} (h1 : sameFace f g = true) (h2 : sameFace f h = true) : sameFace g h = true := by
  rw [sameL_iff] at h1 h2 ⊢
  exact h1.symm.trans h2
theorem sf_same {f g h : Fc} (h1 : sameFace f g = true) : sameFace f h = sameFace g h := by
  rw [Bool.eq_iff_iff, sameL_iff, sameL_iff, (sameL_iff _ _).1 h1]
theorem sf_self (f : Fc) : sameFace f f = true := (sameL_iff _ _).2 rfl
/-- The list under a face that stands at place j. -/
theorem wsGet_at {ws : List Wq} (hk : ws.Pairwise fun p q => sameFace p.1 q.1 = false) {j : Nat} {q : Wq} (hj : ws[j]? = some q) {f : Fc} (hf : sameFace q.1 f = true) : wsGet ws f = q.2.2 := by
  induction ws generalizing j with
  | nil => cases hj
  | cons a r ih =>
    obtain ⟨h1, h2⟩ := List.pairwise_cons.1 hk
    unfold wsGet
    cases j with
    | zero =>
      injection hj with hj
      subst hj
      rw [List.find?_cons, hf]
      rfl
    | succ j =>
      have hr : r[j]? = some q := by simpa using hj
      have ha : sameFace a.1 f = false := by
        have h3 := h1 q (List.mem_of_getElem? hr)
        rw [← Bool.not_eq_true]
        intro h4
        rw [sf_same h4] at h3
        rw [sameFace_comm, hf] at h3
        cases h3
      rw [List.find?_cons, ha]
      exact ih h2 hr
theorem wsGet_none {ws : List Wq} {f : Fc} (h : ∀ q ∈ ws, sameFace q.1 f = false) : wsGet ws f = [] := by
  unfold wsGet
  rw [List.find?_eq_none.2 (fun q hq => by rw [h q hq]; simp)]
  rfl
theorem wsGet_set {ws : List Wq} (hk : ws.Pairwise fun p q => sameFace p.1 q.1 = false) {j : Nat} {q : Wq} (hj : ws[j]? = some q) (v' : Value) (l' : List Nat) (f : Fc) : wsGet (ws.set j (q.1, v', l')) f = if sameFace q.1 f then l' else wsGet ws f := by
  induction ws generalizing j with
  | nil => cases hj
  | cons a r ih =>
    obtain ⟨h1, h2⟩ := List.pairwise_cons.1 hk
    cases j with
    | zero =>
      injection hj with hj
      subst hj
      unfold wsGet
      rw [List.set_cons_zero, List.find?_cons, List.find?_cons]
      cases h : sameFace a.1 f <;> simp [h]
    | succ j =>
      have hr : r[j]? = some q := by simpa using hj
      have h3 := h1 q (List.mem_of_getElem? hr)
      have := ih h2 hr
      unfold wsGet at this ⊢
      rw [List.set_cons_succ, List.find?_cons, List.find?_cons]
      cases h : sameFace a.1 f with
      | true =>
        have h4 : sameFace q.1 f = false := by
          rw [← Bool.not_eq_true]
          intro h5
          rw [sf_same h] at h3
          rw [sameFace_comm, h5] at h3
          cases h3
        simp [h4]
      | false => exact this
theorem keys_set {ws : List Wq} (hk : ws.Pairwise fun p q => sameFace p.1 q.1 = false) {j : Nat} {q : Wq} (hj : ws[j]? = some q) (v' : Value) (l' : List Nat) : (ws.set j (q.1, v', l')).Pairwise fun p q => sameFace p.1 q.1 = false := by
  have e : ∀ (l : List Wq), (l.Pairwise fun p q => sameFace p.1 q.1 = false) ↔ (l.map (·.1)).Pairwise fun p q => sameFace p q = false := fun l => by rw [List.pairwise_map]
  rw [e] at hk ⊢
  rw [List.map_set, List.set_getElem_self_of (by rw [List.getElem?_map, hj]; rfl)]
  exact hk
theorem mem_set_of {α : Type} {l : List α} {j : Nat} {a x : α} (h : x ∈ l.set j a) : x = a ∨ x ∈ l := by
  rcases List.mem_or_eq_of_mem_set h with h | h
  · exact .inr h
  · exact .inl h
/-- What a face tells among the keys. -/
theorem face_absent {ws : List Wq} (hw : ∀ q ∈ ws, q.1.wf) {f : Fc} (hf : f.wf) (h : ∀ p ∈ ws.map kwF, p.1 ≠ keyF f) : ∀ q ∈ ws, sameFace q.1 f = false := fun q hq => by
  rw [← Bool.not_eq_true]
  intro e
  exact h _ (List.mem_map.2 ⟨q, hq, rfl⟩) ((keyF_inj (hw q hq) hf).2 e)
theorem face_present {ws : List Wq} (hw : ∀ q ∈ ws, q.1.wf) {f : Fc} (hf : f.wf) {j : Nat} {v : Value} (h : (ws.map kwF)[j]? = some (keyF f, v)) : ∃ q : Wq, ws[j]? = some q ∧ sameFace q.1 f = true ∧ q.2.1 = v := by
  rw [List.getElem?_map] at h
  obtain ⟨q, hq, e⟩ := Option.map_eq_some_iff.1 h
  have e2 := Prod.mk.inj e
  exact ⟨q, hq, (keyF_inj (hw q (List.mem_of_getElem? hq)) hf).1 e2.1, e2.2⟩
theorem kw_set {ws : List Wq} (hw : ∀ q ∈ ws, q.1.wf) {f : Fc} (hf : f.wf) {j : Nat} {q : Wq} (hq : ws[j]? = some q) (hs : sameFace q.1 f = true) (v' : Value) (l' : List Nat) : (ws.map kwF).set j (keyF f, v') = (ws.set j (q.1, v', l')).map kwF := by
  rw [List.map_set]
  congr 1
  show (keyF f, v') = (keyF q.1, v')
  rw [(keyF_inj (hw q (List.mem_of_getElem? hq)) hf).2 hs]
/-- One more waits. -/
theorem WsOk.snoc_new {zs : List ByteArray} {es : List Ent} {ws : List Wq} (h : WsOk zs es ws) (e : Ent) (ho : openB e = true) (hf : (faceE e.p e.x zs).wf) (ha : ∀ q ∈ ws, sameFace q.1 (faceE e.p e.x zs) = false) (v' : Value) :
    WsOk zs (es ++ [e]) (ws ++ [(faceE e.p e.x zs, v', [es.length])]) := by
  refine ⟨fun q hq => ?_, ?_, fun f hw => ?_⟩
  · rcases List.mem_append.1 hq with hq | hq
    · exact h.fwf q hq
    · simp at hq; rw [hq]; exact hf
  · rw [List.pairwise_append]
    exact ⟨h.keys, by simp, fun p hp q hq => by simp at hq; rw [hq]; exact ha p hp⟩
  · rw [wl_snoc, ho, Bool.true_and, ← h.get f hw]
    have e1 : wsGet (ws ++ [(faceE e.p e.x zs, v', [es.length])]) f = if sameFace (faceE e.p e.x zs) f then [es.length] else wsGet ws f := by
      cases hs : sameFace (faceE e.p e.x zs) f with
      | false =>
        unfold wsGet
        rw [List.find?_append, List.find?_cons, hs]
        simp
      | true =>
        unfold wsGet
        rw [List.find?_append, List.find?_eq_none.2 (fun q hq => by
          have := ha q hq
          rw [sameFace_comm, sf_same hs, sameFace_comm] at this
          simp [this]), List.find?_cons, hs]
        rfl
    rw [e1]
    cases hs : sameFace (faceE e.p e.x zs) f with
    | false => simp
    | true =>
      rw [wsGet_none (fun q hq => by
        have := ha q hq
        rwa [sameFace_comm, sf_same hs, sameFace_comm] at this)]
      rfl
theorem WsOk.snoc_old {zs : List ByteArray} {es : List Ent} {ws : List Wq} (h : WsOk zs es ws) (e : Ent) (ho : openB e = true) {j : Nat} {q : Wq} (hq : ws[j]? = some q) (hs : sameFace q.1 (faceE e.p e.x zs) = true) (v' : Value) :
    WsOk zs (es ++ [e]) (ws.set j (q.1, v', q.2.2 ++ [es.length])) := by
  have hqm := List.mem_of_getElem? hq
  refine ⟨fun p hp => ?_, keys_set h.keys hq _ _, fun f hw => ?_⟩
  · rcases mem_set_of hp with rfl | hp
    · exact h.fwf q hqm
    · exact h.fwf p hp
  · rw [wl_snoc, ho, Bool.true_and, ← h.get f hw, wsGet_set h.keys hq]
    rw [← sf_same hs]
    cases h3 : sameFace q.1 f with
    | false => simp
    | true =>
      rw [wsGet_at h.keys hq h3]
      rfl
/-- A side shut that does not wait any more: its list without it. -/
theorem WsOk.shut {zs : List ByteArray} {es es' : List Ent} {ws : List Wq} (h : WsOk zs es ws) {j i k : Nat} {q : Wq} (hq : ws[j]? = some q) (hi : q.2.2[i]? = some k) (hn : q.2.2.Nodup) (v' : Value)
    (hes : ∀ f, f.wf → wl zs es' f = (wl zs es f).filter (· != k)) (hother : ∀ f, f.wf → sameFace q.1 f = false → k ∉ wl zs es f) : WsOk zs es' (ws.set j (q.1, v', q.2.2.eraseIdx i)) := by
  have hqm := List.mem_of_getElem? hq
  refine ⟨fun p hp => ?_, keys_set h.keys hq _ _, fun f hw => ?_⟩
  · rcases mem_set_of hp with rfl | hp
    · exact h.fwf q hqm
    · exact h.fwf p hp
  · rw [hes f hw, wsGet_set h.keys hq]
    cases h3 : sameFace q.1 f with
    | false => rw [if_neg (by simp), h.get f hw, filter_ne_self (hother f hw h3)]
    | true => rw [if_pos rfl, ← h.get f hw, wsGet_at h.keys hq h3, filter_ne_erase hn hi]
end Go.Proofs.YtphabkaiheplpaaGreatDoor
/- A book's map of who waits: an entry found or made, appended to, stored back. -/
set_option linter.unusedVariables false
set_option linter.unusedSimpArgs false
set_option maxRecDepth 100000
namespace Go.Proofs.YtphabkaiheplpaaGreatDoor
open Go.RowKit Go.Shelf Go.Maps
open Go.ChangeMaps (setBlock)

/-- The region that a piece of code begins with. -/
def headR : Code → Option Nat
  | .region k _ _ => some k
  | .seq a _ => headR a
  | _ => none
/-- The code from a region on, to the end of its sequence. -/
def fromR (n : Nat) : Code → Option Code
  | .seq a b => if headR a = some n then some (.seq a b) else match fromR n a with
    | some c => some c
    | none => fromR n b
  | .block _ c => fromR n c
  | .scope c => fromR n c
  | .loop c => fromR n c
  | .cond _ a b => match fromR n a with
    | some c => some c
    | none => fromR n b
  | _ => none
def apartV (p q : Wq) : Prop := p.2.1.ownBlock = none ∨ p.2.1.ownBlock ≠ q.2.1.ownBlock
theorem apartV_symm {p q : Wq} (h : apartV p q) : apartV q p := by
  unfold apartV at *
  rcases h with h | h
  · cases hq : q.2.1.ownBlock with
    | none => exact .inl rfl
    | some g => right; rw [h]; simp
  · exact .inr (Ne.symm h)
theorem pairwise_set {α : Type} {R : α → α → Prop} (hs : ∀ a b, R a b → R b a) {l : List α} (h : l.Pairwise R) {j : Nat} {x : α} (hx : ∀ i a, i ≠ j → l[i]? = some a → R x a) : (l.set j x).Pairwise R := by
  rw [List.pairwise_iff_getElem] at h ⊢
  intro i k hi hk hik
  rw [List.getElem_set, List.getElem_set]
  rw [List.length_set] at hi hk
  by_cases h1 : j = i
  · rw [if_pos h1, if_neg (by omega)]
    exact hx k _ (by omega) (List.getElem?_eq_getElem hk)
  · rw [if_neg h1]
    by_cases h2 : j = k
    · rw [if_pos h2]
      exact hs _ _ (hx i _ (by omega) (List.getElem?_eq_getElem hi))
    · rw [if_neg h2]
      exact h i k hi hk hik
theorem mem_set_at {α : Type} {l : List α} {j : Nat} {x y : α} (h : y ∈ l.set j x) : y = x ∨ ∃ i, i ≠ j ∧ l[i]? = some y := by
  obtain ⟨i, hi, e⟩ := List.getElem_of_mem h
  rw [List.getElem_set] at e
  rw [List.length_set] at hi
  by_cases hj : j = i
  · rw [if_pos hj] at e; exact .inl e.symm
  · rw [if_neg hj] at e; exact .inr ⟨i, Ne.symm hj, by rw [List.getElem?_eq_getElem hi, e]⟩
/-- The rows behind a change of one of them. -/
theorem WsR.change {F : Nat → Prop} {B : Nat} {W W2 : World} {ws : List Wq} (h : WsR F B W ws) {j : Nat} {q : Wq} (hq : ws[j]? = some q) (hs : W.grownBy W2 q.2.1.ownBlock) (v' : Value) (l' : List Nat) (hown : W2.ownsRow 0 3 1 v' l'.length (l'.map natV)) (hnew : OrNew W q.2.1 v') (hB : B ≤ W.heap.size) : WsR F B W2 (ws.set j (q.1, v', l')) := by
  have hqm := List.mem_of_getElem? hq
  have hap : ∀ i a, i ≠ j → ws[i]? = some a → apartV a q := fun i a hi ha => by
    have h1 := List.pairwise_iff_getElem.1 h.rD
    obtain ⟨l1, e1⟩ := List.getElem?_eq_some_iff.1 ha
    obtain ⟨l2, e2⟩ := List.getElem?_eq_some_iff.1 hq
    rcases Nat.lt_or_ge i j with hij | hij
    · have := h1 i j l1 l2 hij
      rw [e1, e2] at this
      exact this
    · have := h1 j i l2 l1 (by omega)
      rw [e1, e2] at this
      exact apartV_symm this
  refine ⟨fun p hp => ?_, pairwise_set (R := apartV) (fun _ _ => apartV_symm) h.rD (fun i a hi ha => ?_), fun p hp g hg => ?_⟩
  · rcases mem_set_at hp with rfl | ⟨i, hi, ha⟩
    · exact hown
    · exact (h.rW p (List.mem_of_getElem? ha)).kept hs (hap i p hi ha)
  · have ha2 := hap i a hi ha
    rcases hnew with hn | ⟨g, hn, hg⟩
    · show v'.ownBlock = none ∨ v'.ownBlock ≠ a.2.1.ownBlock
      rw [hn]
      exact apartV_symm ha2
    · right
      show v'.ownBlock ≠ a.2.1.ownBlock
      intro e
      have := row_lt (h.rW a (List.mem_of_getElem? ha)) (g := g) (by rw [← e, hn])
      omega
  · rcases mem_set_at hp with rfl | ⟨i, hi, ha⟩
    · rcases hnew with hn | ⟨g', hn, hg'⟩
      · exact h.iV q hqm g (by rw [← hn]; exact hg)
      · have e : g' = g := by
          have h3 : v'.ownBlock = some g := hg
          rw [hn] at h3
          exact Option.some.inj h3
        subst e
        exact .inr (by omega)
    · exact h.iV p (List.mem_of_getElem? ha) g hg
theorem WsR.more {F : Nat → Prop} {B : Nat} {W W2 : World} {ws : List Wq} (h : WsR F B W ws) (hs : W.grownBy W2 none) (f : Fc) (v' : Value) (l' : List Nat) (hown : W2.ownsRow 0 3 1 v' l'.length (l'.map natV)) (hnew : OrNew W (.slice none 0 0) v') (hB : B ≤ W.heap.size) : WsR F B W2 (ws ++ [(f, v', l')]) := by
  refine ⟨fun p hp => ?_, ?_, fun p hp g hg => ?_⟩
  · rcases List.mem_append.1 hp with hp | hp
    · exact ow_none (h.rW p hp) hs
    · simp at hp; rw [hp]; exact hown
  · rw [List.pairwise_append]
    refine ⟨h.rD, by simp, fun p hp q hq => ?_⟩
    simp at hq
    rw [hq]
    rcases hnew with hn | ⟨g, hn, hg⟩
    · have hn2 : v'.ownBlock = none := hn
      exact apartV_symm (.inl hn2 : apartV (f, v', l') p)
    · right
      show p.2.1.ownBlock ≠ v'.ownBlock
      intro e
      have := row_lt (h.rW p hp) (g := g) (by rw [e, hn])
      omega
  · rcases List.mem_append.1 hp with hp | hp
    · exact h.iV p hp g hg
    · simp at hp
      rw [hp] at hg
      rcases hnew with hn | ⟨g', hn, hg'⟩
      · have hg2 : v'.ownBlock = some g := hg
        rw [hn] at hg2; cases hg2
      · have hg2 : v'.ownBlock = some g := hg
        rw [hn] at hg2
        obtain rfl := Option.some.inj hg2
        exact .inr (by omega)
/-- 'b.waits[own] = append(b.waits[own], n)'. -/
theorem wait_put {F : Nat → Prop} {w W1 : World} {b : Nat} {tv ev pv : Value} {m1 m2 : Nat} {ws : List Wq} {C : Array Value} {zs : List ByteArray} {nm : List (Value × Value)} {es : List Ent} {ex : List Ent} {ps : List Pr}
    (HM : BkM F w W1 b tv ev pv m1 m2 (ws.map kwF) C zs nm ex ps) (HR : WsR F w.heap.size W1 ws) (HW : WsOk zs es ws) (e : Ent) (ho : openB e = true) (hf : (faceE e.p e.x zs).wf) :
    ∃ (o1 : Obj) (v1 : Value) (st : Int) (l : List Nat) (kv1 : List (Value × Value)), (Instr.mapEntry 78 (.map (some m2)) (keyF (faceE e.p e.x zs))).run Tryz.prog W1 = .ok (.tuple #[v1, .int .i64 st]) (setBlock W1 m2 o1) ∧
      (setBlock W1 m2 o1).ownsRow 0 3 1 v1 l.length (l.map natV) ∧ l.length ≤ es.length ∧ BkM F w (setBlock W1 m2 o1) b tv ev pv m1 m2 kv1 C zs nm ex ps ∧
      ∀ (W2 : World) (v' : Value), (setBlock W1 m2 o1).grownBy W2 v1.ownBlock → W2.ownsRow 0 3 1 v' (l.length + 1) (l.map natV ++ [natV es.length]) → OrNew (setBlock W1 m2 o1) v1 v' →
        ∃ o2 ws', (Instr.entryStore 78 (.map (some m2)) (.int .i64 st) v').run Tryz.prog W2 = .ok () (setBlock W2 m2 o2) ∧ BkM F w (setBlock W2 m2 o2) b tv ev pv m1 m2 (ws'.map kwF) C zs nm ex ps ∧ WsR F w.heap.size (setBlock W2 m2 o2) ws' ∧ WsOk zs (es ++ [e]) ws' := by
  obtain ⟨o1, v1, st, kv1, hrun, hm1, hcase⟩ := entry_tells (z := .slice none 0 0) HM.mW face_law Tryz.underlying78 (by kernel_rfl) (ws_keys HW) (face_keyOf _ hf)
  have hsb : W1.grownBy (setBlock W1 m2 o1) (some m2) := gb_block W1 m2 o1
  have HR1 : WsR F w.heap.size (setBlock W1 m2 o1) ws := HR.map_ HM.mW hsb
  have HM1 := HM.waits o1 kv1 hm1
  have hB : w.heap.size ≤ (setBlock W1 m2 o1).heap.size := HM1.low.size
  have hln : ∀ (l : List Nat), (l.map natV ++ [natV es.length]) = (l ++ [es.length]).map natV := fun l => by simp
  have hobj : ∀ {v : Value} {n : Nat} {xs : List Value}, (setBlock W1 m2 o1).ownsRow 0 3 1 v n xs → ∀ g, v.ownBlock = some g → g ≠ m2 := fun hr g hg e => by
    obtain ⟨cur, hc⟩ := row_obj hr hg
    obtain ⟨es2, cl, hmm, _⟩ := HM1.mW
    rw [e, hmm] at hc
    injection hc with hc
    cases hc
  rcases hcase with ⟨hab, rfl, hst⟩ | ⟨j, hj, hst⟩
  · have hab2 := face_absent HW.fwf hf hab
    refine ⟨o1, _, st, [], kv1, hrun, ow_nil _ _ _ _, Nat.zero_le _, HM1, fun W2 v' hs hown hnew => ?_⟩
    have hs0 : (setBlock W1 m2 o1).grownBy W2 none := hs
    obtain ⟨o2, hr2, hm2⟩ := hst W2 v' (hs0.block m2 HM1.mW.lt (by simp))
    have HM2 := HM1.introw hs0 (fun g e => by cases e)
    have HR2 := HR1.more hs0 (faceE e.p e.x zs) v' [es.length] (by simpa using hown) hnew hB
    have hm3 : MapIs (setBlock W2 m2 o2) m2 ((ws ++ [(faceE e.p e.x zs, v', [es.length])]).map kwF) := by
      rw [List.map_append]
      exact hm2
    exact ⟨o2, _, hr2, HM2.waits o2 _ hm3, HR2.map_ HM2.mW (gb_block W2 m2 o2), HW.snoc_new e ho hf hab2 v'⟩
  · obtain ⟨q, hq, hsf, rfl⟩ := face_present HW.fwf hf hj
    have hqm := List.mem_of_getElem? hq
    have hrow := HR1.rW q hqm
    have hlen : q.2.2.length ≤ es.length := by
      have h1 := wsGet_at HW.keys hq (f := q.1) (sf_self _)
      rw [HW.get _ (HW.fwf q hqm)] at h1
      rw [← h1]
      exact wl_le _ _ _
    refine ⟨o1, _, st, q.2.2, kv1, hrun, hrow, hlen, HM1, fun W2 v' hs hown hnew => ?_⟩
    obtain ⟨o2, hr2, hm2⟩ := hst W2 v' (hs.block m2 HM1.mW.lt (fun e => hobj hrow m2 e.symm rfl))
    have HM2 := HM1.introw hs (fun g hg => ⟨HR1.iV q hqm g hg, row_obj hrow hg⟩)
    have HR2 := HR1.change hq hs v' (q.2.2 ++ [es.length]) (by rw [← hln]; simpa using hown) hnew hB
    have hm3 : MapIs (setBlock W2 m2 o2) m2 ((ws.set j (q.1, v', q.2.2 ++ [es.length])).map kwF) := by
      rw [← kw_set HW.fwf hf hq hsf]
      exact hm2
    exact ⟨o2, _, hr2, HM2.waits o2 _ hm3, HR2.map_ HM2.mW (gb_block W2 m2 o2), HW.snoc_old e ho hq hsf v'⟩
end Go.Proofs.YtphabkaiheplpaaGreatDoor
/- (*match.Book).Add, its end where no other side has been found: the new side waits. -/
set_option linter.unusedVariables false
set_option linter.unusedSimpArgs false
set_option maxRecDepth 100000
namespace Go.Proofs.YtphabkaiheplpaaGreatDoor
open Go.RowKit Go.Shelf Go.Maps
open Go.ChangeMaps (setBlock)

theorem cells_one {W : World} {g : Nat} {v : Value} {T : TypeId} (h : W.heap[g]? = some (.cells #[v] T (0, 0))) : ∀ j u, [v][j]? = some u → W.cell? ((⟨g, 0, none⟩ : Addr).add j) = some u := by
  intro j u hj
  cases j with
  | zero =>
    have e : (⟨g, 0, none⟩ : Addr).add 0 = ⟨g, 0, none⟩ := rfl
    rw [e, cell_of_row W g 0 _ _ _ h]
    exact hj
  | succ j => simp at hj
/-- A block of another kind stays while a row is written. -/
theorem row_kept_other {W W1 : World} {b : Nat} {C : Array Value} {T : TypeId} {base : Nat} {e : TypeId} {size n : Nat} {v : Value} {xs : List Value} (h : W.heap[b]? = some (.cells C T (0, 0))) (hr : W.ownsRow base e size v n xs) (hne : e ≠ T) (hs : W.grownBy W1 v.ownBlock) : W1.heap[b]? = some (.cells C T (0, 0)) := by
  refine (hs.block b (Array.getElem?_eq_some_iff.1 h).1 (fun e1 => ?_)).trans h
  obtain ⟨cur, hc⟩ := row_obj hr e1.symm
  rw [h] at hc
  injection hc with hc
  injection hc with _ h2 _
  exact hne h2.symm
noncomputable def tail33 : Code := ((Tryz.f10.body.bind (fromR 33)).getD .skip)
set_option maxHeartbeats 4000000 in
set_option maxRecDepth 1000000 in
theorem add_tail33 {F : Nat → Prop} {w W : World} {b a : Nat} {tv ev pv : Value} {m1 m2 : Nat} {ws : List Wq} {zs : List ByteArray} {tol : Int} {nm : List (Value × Value)} {es : List Ent} {ps : List Pr} {e : Ent} (u1 u2 u3 u4 u5 u6 u7 u8 u9 u10 u13 u14 u15 u16 u17 u18 u19 u20 u21 u22 u23 u24 u25 u26 u27 u28 u29 u30 u31 u32 u33 u34 u35 u36 u37 u38 u39 u40 u41 u42 u43 u44 u45 u46 u47 u48 u49 u50 u51 u52 u53 u54 u55 u56 u57 u58 u59 u60 u61 u62 u63 u64 u65 u66 u67 u68 u69 u70 u71 u72 u73 u74 u75 u76 u77 u78 u79 u80 u81 u82 u83 u84 u85 u86 u87 u88 u89 u90 u91 u92 u93 u94 u95 u96 u97 u98 u99 u100 u101 u102 u103 u104 u105 u106 u107 u108 u109 u110 u111 u112 u113 u114 u115 u116 u117 u118 u119 u120 u121 u122 u123 u124 u125 u126 u127 u128 u129 u130 u131 u132 u133 u134 u135 u136 u137 u138 u139 u140 u141 u142 u143 u144 u145 u146 u147 u148 u149 u150 u151 u152 u153 u154 u155 u156 u157 u158 u159 u160 u161 u162 u163 u164 u165 u166 u167 u168 u169 u170 u171 u172 u173 u174 u175 u176 u177 u178 u179 u180 u181 u182 u183 u184 u185 u186 u187 u188 u189 u190 u191 u192 u193 u194 u195 u196 u197 u198 u199 u200 u201 u202 u203 u204 u205 u206 u207 u208 u209 u210 u211 u212 u213 u214 u215 u216 u217 u218 u219 u220 u221 u222 u223 u224 u225 u226 u227 : Value) {Φ : Ending → World → Prop}
    (HM : BkM F w W b tv ev pv m1 m2 (ws.map kwF) #[tv, .int .i64 tol, ev, .map (some m1), .map (some m2), pv] zs nm (es ++ [e]) ps) (HR : WsR F w.heap.size W ws) (HW : WsOk zs es ws) (ho : openB e = true) (hf : (faceE e.p e.x zs).wf)
    (hface : W.heap[a]? = some (.cells (faceC (faceE e.p e.x zs)) 68 (0, 0))) (hn : (es.length + 1) * 8 ≤ 140737488355328)
    (post : ∀ (W' : World) (ws' : List Wq), BkM F w W' b tv ev pv m1 m2 (ws'.map kwF) #[tv, .int .i64 tol, ev, .map (some m1), .map (some m2), pv] zs nm (es ++ [e]) ps → WsR F w.heap.size W' ws' → WsOk zs (es ++ [e]) ws' → Φ (.returned (.tuple #[.int .i64 es.length, .int .i64 (-1), .nilIface])) W') :
    Code.wp Tryz.prog tail33 (bodyPost Tryz.prog Tryz.f10 Φ) ⟨#[.pointer (some ⟨b, 0, none⟩), u1, u2, u3, u4, u5, u6, u7, u8, u9, u10, .int .i64 (es.length : Int), .pointer (some ⟨a, 0, none⟩), u13, u14, u15, u16, u17, u18, u19, u20, u21, u22, u23, u24, u25, u26, u27, u28, u29, u30, u31, u32, u33, u34, u35, u36, u37, u38, u39, u40, u41, u42, u43, u44, u45, u46, u47, u48, u49, u50, u51, u52, u53, u54, u55, u56, u57, u58, u59, u60, u61, u62, u63, u64, u65, u66, u67, u68, u69, u70, u71, u72, u73, u74, u75, u76, u77, u78, u79, u80, u81, u82, u83, u84, u85, u86, u87, u88, u89, u90, u91, u92, u93, u94, u95, u96, u97, u98, u99, u100, u101, u102, u103, u104, u105, u106, u107, u108, u109, u110, u111, u112, u113, u114, u115, u116, u117, u118, u119, u120, u121, u122, u123, u124, u125, u126, u127, u128, u129, u130, u131, u132, u133, u134, u135, u136, u137, u138, u139, u140, u141, u142, u143, u144, u145, u146, u147, u148, u149, u150, u151, u152, u153, u154, u155, u156, u157, u158, u159, u160, u161, u162, u163, u164, u165, u166, u167, u168, u169, u170, u171, u172, u173, u174, u175, u176, u177, u178, u179, u180, u181, u182, u183, u184, u185, u186, u187, u188, u189, u190, u191, u192, u193, u194, u195, u196, u197, u198, u199, u200, u201, u202, u203, u204, u205, u206, u207, u208, u209, u210, u211, u212, u213, u214, u215, u216, u217, u218, u219, u220, u221, u222, u223, u224, u225, u226, u227], []⟩ W := by
  obtain ⟨i0, hi, hz0, hz1, hz2⟩ := Sp.info_of Sp.A_infoI
  have HMW := Lib.hid HM
  have HRW := Lib.hid HR
  have HM0 := Lib.hid HM.drew
  have HR0 := Lib.hid HR.drew
  have HF0 : Hid (W.drew.heap[a]? = some (.cells (faceC (faceE e.p e.x zs)) 68 (0, 0))) := Lib.hid hface
  have HP := Lib.hid post
  have HWW := Lib.hid HW
  have HOO := Lib.hid ho
  have HFF := Lib.hid hf
  have LF := Lib.hid (fun W1 h => load_face (faceE e.p e.x zs) W1 a 68 h)
  have hlen : Hid ((es.length + 1) * 8 ≤ 140737488355328) := Lib.hid hn
  clear HM HR hface post HW ho hf hn
  conv => arg 2; whnf
  dsimp only
  go_upto_region 33 with fail
  refine wp_region_heldE (S := fun W1 => W1.heap[b]? = some (.cells #[tv, .int .i64 tol, ev, .map (some m1), .map (some m2), pv] 82 (0, 0)) ∧ W1.heap[a]? = some (.cells (faceC (faceE e.p e.x zs)) 68 (0, 0))) (ds := [11]) (by kernel_rfl) (⟨HM0.out.book, HF0.out⟩) (fun hHeld => ?_)
  refine wpAnyE_take (i := 0) (oi := ({ dst := some 216, op := Op.move (Operand.tmp 0), type := 33, pos := "match.go:153", after := #[], guard := none } : Oper)) (v := ?_) rfl (by kernel_rfl) (by kernel_rfl) (by kernel_rfl) (by kernel_rfl) (fun _ _ _ h => h) (Or.inl ⟨by rfl, ?_⟩) hHeld ?_
  rotate_left
  · intro w' hSw; (try dsimp only at hSw); go_simp <;> with_reducible rfl
  try simp only [Act.put, List.setIfInBounds_toArray, List.set_cons_zero, List.set_cons_succ]
  refine wpAnyE_take (i := 1) (oi := ({ dst := some 217, op := Op.nilCheck (Operand.tmp 216), type := 0, pos := "match.go:153", after := #[{ on := 0, ground := Ground.data }], guard := none } : Oper)) (v := ?_) rfl (by kernel_rfl) (by kernel_rfl) (by kernel_rfl) (by kernel_rfl) (fun _ _ _ h => h) (Or.inl ⟨by rfl, ?_⟩) hHeld ?_
  rotate_left
  · intro w' hSw; (try dsimp only at hSw); go_simp <;> with_reducible rfl
  try simp only [Act.put, List.setIfInBounds_toArray, List.set_cons_zero, List.set_cons_succ]
  refine wpAnyE_take (i := 2) (oi := ({ dst := some 218, op := Op.fieldAddr 82 (Operand.tmp 217) 4, type := 0, pos := "match.go:153", after := #[{ on := 1, ground := Ground.data }], guard := none } : Oper)) (v := ?_) rfl (by kernel_rfl) (by kernel_rfl) (by kernel_rfl) (by kernel_rfl) (fun _ _ _ h => h) (Or.inl ⟨by rfl, ?_⟩) hHeld ?_
  rotate_left
  · intro w' hSw; (try dsimp only at hSw); go_simp <;> with_reducible rfl
  try simp only [Act.put, List.setIfInBounds_toArray, List.set_cons_zero, List.set_cons_succ]
  refine wpAnyE_take (i := 3) (oi := ({ dst := some 219, op := Op.load 78 (Operand.tmp 218), type := 78, pos := "match.go:153", after := #[{ on := 2, ground := Ground.data }], guard := none } : Oper)) (v := ?_) rfl (by kernel_rfl) (by kernel_rfl) (by kernel_rfl) (by kernel_rfl) (fun _ _ _ h => h) (Or.inl ⟨by rfl, ?_⟩) hHeld ?_
  rotate_left
  · intro w' hSw; (try dsimp only at hSw); have hcf := cell_of_row w' b 4 _ _ _ hSw.1; go_simp <;> with_reducible rfl
  try simp only [Act.put, List.setIfInBounds_toArray, List.set_cons_zero, List.set_cons_succ]
  refine wpAnyE_take (i := 4) (oi := ({ dst := some 220, op := Op.load 68 (Operand.tmp 12), type := 68, pos := "match.go:153", after := #[], guard := none } : Oper)) (v := .agg (faceC (faceE e.p e.x zs))) rfl (by kernel_rfl) (by kernel_rfl) (by kernel_rfl) (by kernel_rfl) (fun _ _ _ h => h) (yieldsIf_load_known (by rfl) 68 (Operand.tmp 12) rfl ⟨a, 0, none⟩ (.agg (faceC (faceE e.p e.x zs))) rfl (fun w' h => LF.out w' h.2)) hHeld ?_
  try simp only [Act.put, List.setIfInBounds_toArray, List.set_cons_zero, List.set_cons_succ]
  refine wpAnyE_take (i := 5) (oi := ({ dst := some 222, op := Op.move (Operand.tmp 11), type := 3, pos := "match.go:153", after := #[], guard := none } : Oper)) (v := ?_) rfl (by kernel_rfl) (by kernel_rfl) (by kernel_rfl) (by kernel_rfl) (fun _ _ _ h => h) (Or.inl ⟨by rfl, ?_⟩) hHeld ?_
  rotate_left
  · intro w' hSw; (try dsimp only at hSw); go_simp <;> with_reducible rfl
  try simp only [Act.put, List.setIfInBounds_toArray, List.set_cons_zero, List.set_cons_succ]
  refine wpAnyE_ready (rs := [6]) (by kernel_rfl) (by simp) ?_
  refine AllReadyE.cons (o := ({ dst := some 223, op := Op.buildSlice 94 1 #[(0, Operand.tmp 222)], type := 94, pos := "match.go:153", after := #[{ on := 5, ground := Ground.data }], guard := none } : Oper)) rfl (fun K hK => ?_) AllReadyE.nil
  go_simp
  have HM1 := Lib.hid ((HMW.out.grow (bl_alloc (bl_refl W) (.cells #[.int .i64 (es.length : Int)] 3))).drew)
  have HR1 := Lib.hid ((HRW.out.grow (bl_alloc (bl_refl W) (.cells #[.int .i64 (es.length : Int)] 3))).drew)
  have HF1 : Hid ((W.alloc (.cells #[.int .i64 (es.length : Int)] 3)).drew.heap[a]? = some (.cells (faceC (faceE e.p e.x zs)) 68 (0, 0))) := Lib.hid ((heap_alloc_old W (.cells #[.int .i64 (es.length : Int)] 3) (Array.getElem?_eq_some_iff.1 HF0.out).1).trans HF0.out)
  have HC1 : Hid ((W.alloc (.cells #[.int .i64 (es.length : Int)] 3)).drew.heap[W.heap.size]? = some (.cells #[.int .i64 (es.length : Int)] 3 (0, 0))) := Lib.hid (heap_alloc_new W _)
  clear HM0 HR0 HF0 HMW HRW
  generalize (W.alloc (.cells #[.int .i64 (es.length : Int)] 3)).drew = W1 at HM1 HR1 HF1 HC1 ⊢
  generalize W.heap.size = N1 at HC1 ⊢
  obtain ⟨o1, v1, st, l, kv1, hrun, hrow, hll, hm2, hnext⟩ := wait_put HM1.out HR1.out HWW.out e HOO.out HFF.out
  have HRUN := Lib.hid hrun
  have HROW := Lib.hid hrow
  have HM2 := Lib.hid hm2
  have HNX := Lib.hid hnext
  have HLL := Lib.hid hll
  have HF2 := Lib.hid ((setBlock_other (W := W1) (o := o1) (map_ne_book HM1.out.mW HF1.out)).trans HF1.out)
  have HC2 := Lib.hid ((setBlock_other (W := W1) (o := o1) (map_ne_book HM1.out.mW HC1.out)).trans HC1.out)
  clear hrun hrow hm2 hnext hll HR1 HWW HOO
  have hHeld2 : (show World → Prop from fun W1 => W1.heap[b]? = some (.cells #[tv, .int .i64 tol, ev, .map (some m1), .map (some m2), pv] 82 (0, 0)) ∧ W1.heap[a]? = some (.cells (faceC (faceE e.p e.x zs)) 68 (0, 0))) _ := ⟨HM1.out.book, HF1.out⟩
  refine hK.out _ _ (Or.inr hHeld2) (fun _ => ?_)
  clear hK K hHeld
  try clear hb
  have hHeld := hHeld2
  clear hHeld2
  try simp only [Act.put, List.setIfInBounds_toArray, List.set_cons_zero, List.set_cons_succ]
  refine wpAnyE_ready (rs := [7]) (by kernel_rfl) (by simp) ?_
  refine AllReadyE.cons (o := ({ dst := some 224, op := Op.mapEntry 78 (Operand.tmp 219) (Operand.tmp 220), type := 0, pos := "match.go:153", after := #[{ on := 3, ground := Ground.data }, { on := 4, ground := Ground.data }, { on := 0, ground := Ground.phase }, { on := 1, ground := Ground.phase }, { on := 2, ground := Ground.phase }, { on := 3, ground := Ground.phase }, { on := 4, ground := Ground.phase }, { on := 5, ground := Ground.phase }, { on := 6, ground := Ground.phase }], guard := none } : Oper)) rfl (fun K hK => ?_) AllReadyE.nil
  rw [if_pos (by rfl)]
  refine wp_mapEntry_known 78 (.tmp 219) (.tmp 220) rfl (.map (some m2)) (keyF (faceE e.p e.x zs)) _ rfl rfl HRUN.out ?_
  have hHeld2 : (show World → Prop from fun W1 => W1.heap[b]? = some (.cells #[tv, .int .i64 tol, ev, .map (some m1), .map (some m2), pv] 82 (0, 0)) ∧ W1.heap[a]? = some (.cells (faceC (faceE e.p e.x zs)) 68 (0, 0))) _ := ⟨HM2.out.book, HF2.out⟩
  refine hK.out _ _ (Or.inr hHeld2) (fun _ => ?_)
  clear hK K hHeld
  try clear hb
  have hHeld := hHeld2
  clear hHeld2
  try simp only [Act.put, List.setIfInBounds_toArray, List.set_cons_zero, List.set_cons_succ]
  refine wpAnyE_take (i := 8) (oi := ({ dst := some 221, op := Op.extract (Operand.tmp 224) 0, type := 94, pos := "match.go:153", after := #[{ on := 7, ground := Ground.data }], guard := none } : Oper)) (v := ?_) rfl (by kernel_rfl) (by kernel_rfl) (by kernel_rfl) (by kernel_rfl) (fun _ _ _ h => h) (Or.inl ⟨by rfl, ?_⟩) hHeld ?_
  rotate_left
  · intro w' hSw; (try dsimp only at hSw); go_simp <;> with_reducible rfl
  try simp only [Act.put, List.setIfInBounds_toArray, List.set_cons_zero, List.set_cons_succ]
  refine wpAnyE_take (i := 10) (oi := ({ dst := some 226, op := Op.extract (Operand.tmp 224) 1, type := 3, pos := "match.go:153", after := #[{ on := 7, ground := Ground.data }], guard := none } : Oper)) (v := ?_) rfl (by kernel_rfl) (by kernel_rfl) (by kernel_rfl) (by kernel_rfl) (fun _ _ _ h => h) (Or.inl ⟨by rfl, ?_⟩) hHeld ?_
  rotate_left
  · intro w' hSw; (try dsimp only at hSw); go_simp <;> with_reducible rfl
  try simp only [Act.put, List.setIfInBounds_toArray, List.set_cons_zero, List.set_cons_succ]
  refine wpAnyE_ready (rs := [9]) (by kernel_rfl) (by simp) ?_
  refine AllReadyE.cons (o := ({ dst := some 225, op := Op.call { callee := Callee.builtin Builtin.append, args := #[Operand.tmp 221, Operand.tmp 223], argTypes := #[94, 94] }, type := 94, pos := "match.go:153", after := #[{ on := 8, ground := Ground.data }, { on := 6, ground := Ground.data }, { on := 7, ground := Ground.chain }], guard := none } : Oper)) rfl (fun K hK => ?_) AllReadyE.nil
  generalize setBlock W1 m2 o1 = W2 at HROW HM2 HNX HF2 HC2 ⊢
  clear HM1 HF1 HC1 HRUN
  rw [if_pos (by rfl)]
  refine wp_append_new (.tmp 221) (.tmp 223) 94 rfl 0 3 i0 (.int .i64 0) 1 8 Tryz.underlying94 hi hz0 hz1 hz2 rfl (by decide) v1 l.length (l.map natV) rfl HROW.out ⟨N1, 0, none⟩ 1 1 [natV es.length] rfl rfl (cells_one HC2.out) (by simp [natV, Value.oneCell']) (by have := HLL.out; have := hlen.out; unfold maxLen; omega) (by have := HLL.out; have := hlen.out; omega) (Nat.zero_le _) (by decide) ?_
  intro v' W3 hown hgrow hnew
  obtain ⟨o2, ws', hr3, hm3, hr4, hw4⟩ := HNX.out W3 v' hgrow hown hnew
  have HR3 := Lib.hid hr3
  have HEND := Lib.hid (HP.out _ ws' hm3 hr4 hw4)
  have hb3 : W3.heap[b]? = _ := row_kept_other HM2.out.book HROW.out (by decide) hgrow
  have hf3 : W3.heap[a]? = _ := row_kept_other HF2.out HROW.out (by decide) hgrow
  clear hown hgrow hnew hr3 hm3 hr4 hw4 HNX HP
  have hHeld2 : (show World → Prop from fun W1 => W1.heap[b]? = some (.cells #[tv, .int .i64 tol, ev, .map (some m1), .map (some m2), pv] 82 (0, 0)) ∧ W1.heap[a]? = some (.cells (faceC (faceE e.p e.x zs)) 68 (0, 0))) _ := ⟨hb3, hf3⟩
  refine hK.out _ _ (Or.inr hHeld2) (fun _ => ?_)
  clear hK K hHeld
  try clear hb
  have hHeld := hHeld2
  clear hHeld2
  try simp only [Act.put, List.setIfInBounds_toArray, List.set_cons_zero, List.set_cons_succ]
  refine wpAnyE_ready (rs := [11]) (by kernel_rfl) (by simp) ?_
  refine AllReadyE.cons (o := ({ dst := none, op := Op.entryStore 78 (Operand.tmp 219) (Operand.tmp 226) (Operand.tmp 225), type := 0, pos := "match.go:153", after := #[{ on := 3, ground := Ground.data }, { on := 10, ground := Ground.data }, { on := 9, ground := Ground.data }, { on := 9, ground := Ground.chain }, { on := 0, ground := Ground.phase }, { on := 1, ground := Ground.phase }, { on := 2, ground := Ground.phase }, { on := 3, ground := Ground.phase }, { on := 4, ground := Ground.phase }, { on := 5, ground := Ground.phase }, { on := 6, ground := Ground.phase }, { on := 7, ground := Ground.phase }, { on := 8, ground := Ground.phase }, { on := 9, ground := Ground.phase }, { on := 10, ground := Ground.phase }], guard := none } : Oper)) rfl (fun K hK => ?_) AllReadyE.nil
  clear hb3 hf3
  rw [if_pos (by rfl)]
  refine wp_entryStore_known 78 (.tmp 219) (.tmp 226) (.tmp 225) rfl (.map (some m2)) (.int .i64 st) v' rfl rfl rfl HR3.out ?_
  refine hK.out _ _ (Or.inl ⟨11, by simp, by kernel_rfl⟩) (fun _ => ?_)
  clear hK K
  try clear hHeld
  try clear hb
  try simp only [Act.put, List.setIfInBounds_toArray, List.set_cons_zero, List.set_cons_succ]
  refine wpAnyE_done (by kernel_rfl) ?_ _
  go_wp2
  go_ret3
  exact HEND.out
end Go.Proofs.YtphabkaiheplpaaGreatDoor
/- slices.Delete of one number of a row of one's own; a row's cells set; a look-up of who waits. -/
set_option linter.unusedVariables false
set_option linter.unusedSimpArgs false
set_option maxRecDepth 100000
namespace Go.Proofs.YtphabkaiheplpaaGreatDoor
open Go.RowKit Go.Shelf Go.Maps
open Go.ChangeMaps (setBlock)

def ovw (xs : List Value) : Nat → List Value → List Value
  | _, [] => xs
  | o, v :: r => ovw (xs.set o v) (o + 1) r
theorem ovw_length : ∀ (vs : List Value) (o : Nat) (xs : List Value), (ovw xs o vs).length = xs.length
  | [], _, _ => rfl
  | v :: r, o, xs => by unfold ovw; rw [ovw_length r]; simp
theorem ovw_at : ∀ (vs : List Value) (o : Nat) (xs : List Value) (j : Nat), o + vs.length ≤ xs.length → (ovw xs o vs)[j]? = if o ≤ j ∧ j < o + vs.length then vs[j - o]? else xs[j]?
  | [], o, xs, j, _ => by
    unfold ovw
    rw [if_neg (fun h => by have h2 := h.2; simp only [List.length_nil] at h2; omega)]
  | v :: r, o, xs, j, h => by
    unfold ovw
    simp only [List.length_cons] at h ⊢
    rw [ovw_at r (o + 1) (xs.set o v) j (by simp; omega)]
    by_cases h1 : o = j
    · subst h1
      rw [if_neg (by omega), if_pos (by omega), Nat.sub_self, List.getElem?_set_self (by omega)]
      rfl
    · by_cases h2 : o + 1 ≤ j ∧ j < o + 1 + r.length
      · rw [if_pos h2, if_pos (by omega), show j - o = (j - (o + 1)) + 1 by omega, List.getElem?_cons_succ]
      · rw [if_neg h2, if_neg (by omega), List.getElem?_set_ne h1]
theorem ovw_all (xs vs : List Value) (h : vs.length = xs.length) : ovw xs 0 vs = vs := by
  apply List.ext_getElem?
  intro j
  rw [ovw_at vs 0 xs j (by omega)]
  by_cases hj : j < vs.length
  · rw [if_pos ⟨Nat.zero_le _, by omega⟩, Nat.sub_zero]
  · rw [if_neg (by omega), List.getElem?_eq_none (by omega), List.getElem?_eq_none (by omega)]
theorem gb_trans {W W1 W2 : World} {g : Nat} (h1 : W.grownBy W1 (some g)) (h2 : W1.grownBy W2 (some g)) : W.grownBy W2 (some g) :=
  ⟨h2.os.trans h1.os, h2.tape.trans h1.tape, h2.output.trans h1.output, Nat.le_trans h1.size h2.size, fun k hk hne => (h2.block k (Nat.lt_of_lt_of_le hk h1.size) hne).trans (h1.block k hk hne)⟩
theorem stored_cells {base : Nat} {e : TypeId} {size n cap g : Nat} : ∀ (vs : List Value) (o : Nat) (w : World) (xs : List Value), w.ownsRow base e size (.slice (some ⟨g, 0, none⟩) n cap) n xs →
    (w.setCells g o vs).ownsRow base e size (.slice (some ⟨g, 0, none⟩) n cap) n (ovw xs o vs) ∧ w.grownBy (w.setCells g o vs) (some g)
  | [], o, w, xs, h => ⟨h, ⟨rfl, rfl, rfl, Nat.le_refl _, fun _ _ _ => rfl⟩⟩
  | v :: r, o, w, xs, h => by
    have h1 := h.stored o v
    have h2 := stored_cells r (o + 1) (w.setCell ⟨g, o, none⟩ v) (xs.set o v) h1.1
    exact ⟨h2.1, gb_trans h1.2 h2.2⟩
theorem own_cut {W : World} {base : Nat} {e : TypeId} {size n cap : Nat} {g : Nat} {xs : List Value} (h : W.ownsRow base e size (.slice (some ⟨g, 0, none⟩) n cap) n xs) {m : Nat} (hm : m ≤ n) : W.ownsRow base e size (.slice (some ⟨g, 0, none⟩) m cap) m (xs.take (m * size)) := by
  rcases h.2 with ⟨h', _⟩ | ⟨g', cap', cur, h', hb, hg, hnc, hcm, hcs, htake⟩
  · simp at h'
  · simp only [Value.slice.injEq, Option.some.injEq, Addr.mk.injEq, and_true, true_and] at h'
    obtain ⟨rfl, rfl⟩ := h'
    have hle : m * size ≤ n * size := Nat.mul_le_mul_right _ hm
    refine ⟨by rw [List.length_take, h.1]; omega, .inr ⟨g, cap, cur, rfl, hb, hg, by omega, hcm, hcs, ?_⟩⟩
    rw [← htake, List.take_take, Nat.min_eq_left hle]
theorem own_drewN {W : World} {base : Nat} {e : TypeId} {size n : Nat} {v : Value} {xs : List Value} (h : W.ownsRow base e size v n xs) (q : Nat) : (W.drewN q).ownsRow base e size v n xs := h
/-- slices.Delete(v, i, i + 1). -/
theorem delete_row {W : World} {v : Value} {l : List Nat} {i : Nat} (h : W.ownsRow 0 3 1 v l.length (l.map natV)) (hi : i < l.length) :
    Calls Tryz.prog 33 #[v, .int .i64 (i : Int), .int .i64 ((i : Int) + 1)] W fun e W' => ∃ v', e = .returned v' ∧ v'.ownBlock = v.ownBlock ∧ W.grownBy W' v.ownBlock ∧ W'.ownsRow 0 3 1 v' (l.eraseIdx i).length ((l.eraseIdx i).map natV) := by
  rcases h.2 with ⟨_, h0⟩ | ⟨g, cap, cur, rfl, hb, hg, hnc, hcm, hcs, htake⟩
  · omega
  · have hcell : ∀ j, j < (l.map (fun k : Nat => (k : Int))).length → W.cell? ⟨g, 0 + j, none⟩ = some (.int .i64 ((l.map (fun k : Nat => (k : Int))).getD j 0)) := fun j hj => by
      rw [Nat.zero_add, h.cellAt j (by simpa using hj), List.getElem?_map, List.getD_eq_getElem?_getD, List.getElem?_map]
      rw [List.length_map] at hj
      rw [List.getElem?_eq_getElem hj]
      rfl
    have hc := Tryz.slices_Delete_int_cells g 0 l.length cap i (i + 1) (l.map (fun k : Nat => (k : Int))) W (by simp) hnc (by unfold maxLen at hcm; omega) (by omega) (by omega) hcell (fun j hj => h.frozenAt (0 + j))
    rw [show ((i + 1 : Nat) : Int) = (i : Int) + 1 by omega] at hc
    refine hc.mono ?_
    rintro e W' ⟨rfl, q, rfl⟩
    have hst := stored_cells (g := g) ((((l.map (fun k : Nat => (k : Int))).take l.length).take i ++ ((l.map (fun k : Nat => (k : Int))).take l.length).drop (i + 1) ++ List.replicate (i + 1 - i) 0).map (Value.int .i64)) 0 (W.drewN q) (l.map natV) (own_drewN h q)
    have hlen : ((((l.map (fun k : Nat => (k : Int))).take l.length).take i ++ ((l.map (fun k : Nat => (k : Int))).take l.length).drop (i + 1) ++ List.replicate (i + 1 - i) 0).map (Value.int .i64)).length = (l.map natV).length := by
      simp
      omega
    rw [ovw_all _ _ hlen] at hst
    have hcut := own_cut hst.1 (m := l.length - (i + 1 - i)) (by omega)
    have hel : (l.eraseIdx i).length = l.length - (i + 1 - i) := by rw [List.length_eraseIdx, if_pos hi]; omega
    refine ⟨_, rfl, rfl, ⟨hst.2.os, hst.2.tape, hst.2.output, hst.2.size, hst.2.block⟩, ?_⟩
    rw [hel]
    have e1 : List.take ((l.length - (i + 1 - i)) * 1) ((((l.map (fun k : Nat => (k : Int))).take l.length).take i ++ ((l.map (fun k : Nat => (k : Int))).take l.length).drop (i + 1) ++ List.replicate (i + 1 - i) 0).map (Value.int .i64)) = (l.eraseIdx i).map natV := by
      rw [List.take_of_length_le (l := l.map (fun k : Nat => (k : Int))) (by simp), List.map_append, List.take_left' (by simp; omega), List.eraseIdx_eq_take_drop_succ, List.map_append, List.map_append, ← List.map_take, ← List.map_drop, List.map_map, List.map_map]
      rfl
    rw [← e1]
    exact hcut
/-- A look-up of a face that stands among the keys. -/
theorem wait_get {W : World} {m2 : Nat} {ws : List Wq} {zs : List ByteArray} {es : List Ent} (hm : MapIs W m2 (ws.map kwF)) (HW : WsOk zs es ws) {f : Fc} (hf : f.wf) {j : Nat} {q : Wq} (hq : ws[j]? = some q) (hs : sameFace q.1 f = true) :
    (Instr.lookup 78 (.map (some m2)) (keyF f) false).run Tryz.prog W = .ok q.2.1 W := by
  rcases lookup_tells (z := .slice none 0 0) hm face_law Tryz.underlying78 (by kernel_rfl) (ws_keys HW) (face_keyOf f hf) false with ⟨h1, _⟩ | ⟨j', v, h1, h2⟩
  · have := face_absent HW.fwf hf h1 q (List.mem_of_getElem? hq)
    rw [hs] at this
    cases this
  · obtain ⟨q', hq', hs', rfl⟩ := face_present HW.fwf hf h1
    have e : j' = j := by
      have hp := List.pairwise_iff_getElem.1 HW.keys
      obtain ⟨l1, e1⟩ := List.getElem?_eq_some_iff.1 hq
      obtain ⟨l2, e2⟩ := List.getElem?_eq_some_iff.1 hq'
      have hss : sameFace q.1 q'.1 = true := by rw [sf_same hs, sameFace_comm]; exact hs'
      rcases Nat.lt_trichotomy j' j with h | h | h
      · have := hp j' j l2 l1 h
        rw [e1, e2, sameFace_comm, hss] at this
        cases this
      · exact h
      · have := hp j j' l1 l2 h
        rw [e1, e2, hss] at this
        cases this
    subst e
    rw [hq] at hq'
    obtain rfl := Option.some.inj hq'
    simpa using h2
/-- A look-up of a face that does not stand there. -/
theorem wait_none {W : World} {m2 : Nat} {ws : List Wq} {zs : List ByteArray} {es : List Ent} (hm : MapIs W m2 (ws.map kwF)) (HW : WsOk zs es ws) {f : Fc} (hf : f.wf) (ha : ∀ q ∈ ws, sameFace q.1 f = false) :
    (Instr.lookup 78 (.map (some m2)) (keyF f) false).run Tryz.prog W = .ok (.slice none 0 0) W := by
  rcases lookup_tells (z := .slice none 0 0) hm face_law Tryz.underlying78 (by kernel_rfl) (ws_keys HW) (face_keyOf f hf) false with ⟨_, h2⟩ | ⟨j', v, h1, _⟩
  · simpa using h2
  · obtain ⟨q', hq', hs', rfl⟩ := face_present HW.fwf hf h1
    have := ha q' (List.mem_of_getElem? hq')
    rw [hs'] at this
    cases this
/-- 'b.waits[other] = v'' behind a Delete. -/
theorem wait_del {F : Nat → Prop} {w W1 W2 : World} {b : Nat} {tv ev pv : Value} {m1 m2 : Nat} {ws : List Wq} {C : Array Value} {zs : List ByteArray} {nm : List (Value × Value)} {es : List Ent} {ex : List Ent} {ps : List Pr}
    (HM : BkM F w W1 b tv ev pv m1 m2 (ws.map kwF) C zs nm ex ps) (HR : WsR F w.heap.size W1 ws) (HW : WsOk zs es ws) {f : Fc} (hf : f.wf) {j : Nat} {q : Wq} (hq : ws[j]? = some q) (hsf : sameFace q.1 f = true) {i : Nat} {v' : Value}
    (hs : W1.grownBy W2 q.2.1.ownBlock) (hv : v'.ownBlock = q.2.1.ownBlock) (hown : W2.ownsRow 0 3 1 v' (q.2.2.eraseIdx i).length ((q.2.2.eraseIdx i).map natV)) :
    BkM F w W2 b tv ev pv m1 m2 (ws.map kwF) C zs nm ex ps ∧ ∃ o, (Instr.mapUpdate 78 (.map (some m2)) (keyF f) v').run Tryz.prog W2 = .ok () (setBlock W2 m2 o) ∧ BkM F w (setBlock W2 m2 o) b tv ev pv m1 m2 ((ws.set j (q.1, v', q.2.2.eraseIdx i)).map kwF) C zs nm ex ps ∧ WsR F w.heap.size (setBlock W2 m2 o) (ws.set j (q.1, v', q.2.2.eraseIdx i)) := by
  have hqm := List.mem_of_getElem? hq
  have hrow := HR.rW q hqm
  have HM2 := HM.introw hs (fun g hg => ⟨HR.iV q hqm g hg, row_obj hrow hg⟩)
  have HR2 := HR.change hq hs v' (q.2.2.eraseIdx i) hown (.inl hv) HM.low.size
  refine ⟨HM2, ?_⟩
  obtain ⟨o, hr, hc⟩ := store_leaves (val := v') HM2.mW face_law Tryz.underlying78 (ws_keys HW) (face_keyOf f hf)
  rcases hc with ⟨h1, _⟩ | ⟨j', v, h1, h2⟩
  · have := face_absent HW.fwf hf h1 q hqm
    rw [hsf] at this
    cases this
  · have e : j' = j := by
      obtain ⟨q', hq', hs', _⟩ := face_present HW.fwf hf h1
      have hp := List.pairwise_iff_getElem.1 HW.keys
      obtain ⟨l1, e1⟩ := List.getElem?_eq_some_iff.1 hq
      obtain ⟨l2, e2⟩ := List.getElem?_eq_some_iff.1 hq'
      have hss : sameFace q.1 q'.1 = true := by rw [sf_same hsf, sameFace_comm]; exact hs'
      rcases Nat.lt_trichotomy j' j with h | h | h
      · have := hp j' j l2 l1 h
        rw [e1, e2, sameFace_comm, hss] at this
        cases this
      · exact h
      · have := hp j j' l1 l2 h
        rw [e1, e2, hss] at this
        cases this
    subst e
    have hm3 : MapIs (setBlock W2 m2 o) m2 ((ws.set j' (q.1, v', q.2.2.eraseIdx i)).map kwF) := by
      rw [← kw_set HW.fwf hf hq hsf]
      exact h2
    exact ⟨o, hr, HM2.waits o _ hm3, HR2.map_ HM2.mW (gb_block W2 m2 o)⟩
end Go.Proofs.YtphabkaiheplpaaGreatDoor
