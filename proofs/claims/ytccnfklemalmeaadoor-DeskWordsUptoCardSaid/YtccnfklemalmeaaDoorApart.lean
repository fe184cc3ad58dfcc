/- custodykit.ApartTexts by its contract: lists that lie in blocks of their own are apart. -/
import Derived.Test.YtccnfklemalmeaaDoorApartW
import Derived.Test.YtccnfklemalmeaaDoorPlain
import Derived.Outline
import Derived.Test.YtccnfklemalmeaaDoorPDeskWordsx5
import Derived.Test.YtccnfklemalmeaaDoorWTab
import Derived.Deep.CutBlock
import Derived.Deep.DeepCutAuto
set_option linter.unusedVariables false
set_option linter.unusedSimpArgs false
set_option maxRecDepth 100000
namespace Go.Proofs.YtccnfklemalmeaaDoor
open Go.RowKit Go.Proofs.YtccnfklemalmeaaDoorW.PrintWords Go.Proofs.YtccnfklemalmeaaDoorW.PrintLast Go.Proofs.YtccnfklemalmeaaDoorW.PrintMore

def mkText (k i : Nat) : ByteArray := strOfNums [35, (k : Int) % 256, ((k : Int) / 256) % 256, (i : Int) % 256, ((i : Int) / 256) % 256]
theorem markText_any (k i : Nat) (w : World) : Calls Tryd.prog 66 #[.int .i64 k, .int .i64 i] w fun e w' => e = .returned (.string (mkText k i)) ∧ Below w.heap.size w w' :=
  Go.Proofs.YtccnfklemalmeaaDoor.PDeskWords.custodykit_markTexts.calls k i (mkText k i) w rfl
/-- The first i cells are marks. -/
def Mk (mk : Nat → Nat → Value) (j : Nat) (xs : List Value) (i : Nat) : Prop := ∀ p, p < i → xs[p]? = some (mk j p)
theorem Mk.snoc {mk : Nat → Nat → Value} {j : Nat} {xs : List Value} (h : Mk mk j xs xs.length) : Mk mk j (xs ++ [mk j xs.length]) (xs.length + 1) := by
  intro p hp
  by_cases h1 : p < xs.length
  · rw [List.getElem?_append_left h1]; exact h p h1
  · obtain rfl : p = xs.length := by omega
    simp
theorem Mk.set_ {mk : Nat → Nat → Value} {j i : Nat} {xs : List Value} (h : Mk mk j xs i) (hi : i < xs.length) : Mk mk j (xs.set i (mk j i)) (i + 1) := by
  intro p hp
  by_cases h1 : p = i
  · subst h1; rw [List.getElem?_set_self hi]
  · rw [List.getElem?_set_ne (Ne.symm h1)]; exact h p (by omega)
theorem upd_self {α : Type} {F : Nat → α} {k : Nat} {x : α} (h : F k = x) : upd F k x = F := by
  funext j
  by_cases hj : j = k
  · subst hj; rw [upd_at, h]
  · rw [upd_ne _ _ hj]
theorem upd_upd {α : Type} (F : Nat → α) (k : Nat) (x y : α) : upd (upd F k x) k y = upd F k y := by
  funext j
  by_cases hj : j = k
  · subst hj; rw [upd_at, upd_at]
  · rw [upd_ne _ _ hj, upd_ne _ _ hj, upd_ne _ _ hj]
theorem grown_none {w w1 : World} (h : w.grownBy w1 none) (r : Option Nat) : w.grownBy w1 r := ⟨h.os, h.tape, h.output, h.size, fun k hk _ => h.block k hk (by simp)⟩
theorem form0 {w : World} {B : Nat} {E : TypeId} {v : Value} {n : Nat} {xs : List Value} (h : w.ownsRow B E 1 v n xs) {b : Nat} (hb : v.ownBlock = some b) : ∃ cap, v = .slice (some ⟨b, 0, none⟩) n cap ∧ n ≤ 9223372036854775807 := by
  rcases h.2 with ⟨rfl, _⟩ | ⟨g, cap, cur, rfl, _, _, h1, h2, _⟩
  · simp [Value.ownBlock] at hb
  · have : g = b := by simpa [Value.ownBlock] using hb
    subst this
    exact ⟨cap, rfl, by simp only [maxLen] at h2; omega⟩
/-- Row k, appended to: what it was at first stays to be read. -/
theorem St.append {E T : TypeId} {w0 : World} {B : Nat} {D : List Nat} {k m : Nat} {V : Nat → Value} {C : Nat → List Value} {v : Value} {gv : List Value} {W w1 : World} {u u' : Value} {xs xs' : List Value} {n : Nat} {f : Nat → Value}
    (h : St E T w0 B D k m (upd V k u) (upd C k xs) v gv W) (hET : E ≠ T) (hk : k < m) (hown : w1.ownsRow B E 1 u' xs'.length xs')
    (hat : (u'.ownBlock = u.ownBlock ∧ W.grownBy w1 u.ownBlock) ∨ (u'.ownBlock = some W.heap.size ∧ W.grownBy w1 none))
    (hV : ∃ A c, V k = .slice A n c) (h0 : (V k).ownBlock = none → n = 0) (hadr : ∀ b, (V k).ownBlock = some b → ∃ c, V k = .slice (some ⟨b, 0, none⟩) n c) (hn : n ≤ xs.length) (hf : ∀ i, i < n → xs[i]? = some (f i))
    (hor : u.ownBlock = (V k).ownBlock ∨ RdD W D (V k) n f) :
    ∃ D', (∀ b, b ∈ D → b ∈ D') ∧ St E T w0 B D' k m (upd V k u') (upd C k xs') v gv w1 ∧ KeepD D W w1 ∧ (u'.ownBlock = (V k).ownBlock ∨ RdD w1 D' (V k) n f) := by
  have hu : (upd V k u) k = u := upd_at _ _ _
  have huo := h.own k (Nat.le_refl _) hk
  rw [upd_at, upd_at] at huo
  rcases hat with ⟨e, hg⟩ | ⟨e, hg⟩
  · obtain ⟨h1, h2⟩ := h.row hET k (Nat.le_refl _) hk hown (by rw [hu]; exact hg) (by rw [hu]; exact .inl e)
    rw [upd_upd, upd_upd] at h1
    exact ⟨D, fun _ x => x, h1, h2, hor.imp (fun x => e.trans x) fun x => x.keep h2⟩
  · obtain ⟨h1, h2⟩ := h.row hET k (Nat.le_refl _) hk hown (by rw [hu]; exact grown_none hg _) (by rw [hu]; exact .inr e)
    rw [upd_upd, upd_upd] at h1
    rcases hor with x | x
    · cases hb : u.ownBlock with
      | none =>
        rw [hb] at x
        obtain ⟨A, c, hA⟩ := hV
        have := h0 x.symm
        subst this
        exact ⟨D, fun _ y => y, h1, h2, .inr ⟨A, c, hA, by omega, fun hp => absurd hp (by omega)⟩⟩
      | some b =>
        rw [hb] at x
        have hlt := ow_lt huo b hb
        obtain ⟨cap, rfl, hsz⟩ := form0 huo hb
        obtain ⟨c, hVc⟩ := hadr b x.symm
        have hnv : v.ownBlock ≠ some b := by
          rcases ow_types h.gs huo (Ne.symm hET) with y | y
          · rw [y]; simp
          · rw [hb] at y; exact y
        refine ⟨b :: D, fun _ y => List.mem_cons_of_mem _ y, h1.left_ b (Nat.lt_of_lt_of_le hlt hg.size) hnv (fun j a c' => ?_), h2, .inr ?_⟩
        · by_cases hj : j = k
          · subst hj; rw [upd_at, e]; intro y; injection y with y; omega
          · rw [upd_ne _ _ hj]
            have := h.apart j k a c' (Nat.le_refl _) hk hj
            rw [upd_at, upd_ne _ _ hj] at this
            rcases this with y | y
            · rw [y]; simp
            · rw [hb] at y; exact y
        · rw [hVc]
          have hr : RdD W (b :: D) (.slice (some ⟨b, 0, none⟩) n c) n f := RdD.of_own huo n c hn f hf (by simp) hsz
          exact hr.keep fun q hq => by
            rcases List.mem_cons.1 hq with rfl | hq
            · exact hg.block q hlt (by simp)
            · exact h2 q hq
    · exact ⟨D, fun _ y => y, h1, h2, .inr (x.keep h2)⟩

/-- A list's value: its length, and where it lies. -/
def VF (v : Value) (n : Nat) : Prop := (∃ A c, v = .slice A n c) ∧ (v.ownBlock = none → n = 0) ∧ (∀ b, v.ownBlock = some b → ∃ c, v = .slice (some ⟨b, 0, none⟩) n c)
theorem VF.of_own {w : World} {B : Nat} {E : TypeId} {v : Value} {n : Nat} {xs : List Value} (h : w.ownsRow B E 1 v n xs) : VF v n := by
  refine ⟨ow_slice h, fun e => ?_, fun b hb => ?_⟩
  · rcases h.2 with ⟨_, h0⟩ | ⟨g, cap, cur, rfl, _⟩
    · exact h0
    · simp [Value.ownBlock] at e
  · obtain ⟨cap, e, _⟩ := form0 h hb
    exact ⟨cap, e⟩
theorem St.congr {E T : TypeId} {w0 : World} {B : Nat} {D : List Nat} {lo m : Nat} {V V' : Nat → Value} {C C' : Nat → List Value} {v : Value} {gv : List Value} {wr : World} (h : St E T w0 B D lo m V C v gv wr)
    (hV : ∀ j, lo ≤ j → j < m → V' j = V j) (hC : ∀ j, lo ≤ j → j < m → C' j = C j) : St E T w0 B D lo m V' C' v gv wr :=
  ⟨h.below, h.base, fun j a b => by rw [hV j a b, hC j a b]; exact h.own j a b, fun i j a b c d e => by rw [hV i a b, hV j c d]; exact h.apart i j a b c d e, h.gs, fun b hb => ⟨(h.far b hb).1, (h.far b hb).2.1, fun j a c => by rw [hV j a c]; exact (h.far b hb).2.2 j a c⟩⟩
theorem markText_at (k i : Nat) (z : Int) (hz : z = ((i : Nat) : Int)) (w : World) : Calls Tryd.prog 66 #[.int .i64 k, .int .i64 z] w fun e w' => e = .returned (.string (mkText k i)) ∧ Below w.heap.size w w' := by
  subst hz
  exact markText_any k i w
theorem nf_sl : (Tryd.prog.info? 60).map (fun i => (i.zero, i.size, i.bytes)) = some (some (.slice none 0 0), 1, 24) := by kernel_rfl
theorem nf_str : (Tryd.prog.info? 9).map (fun i => (i.zero, i.size, i.bytes)) = some (some (.string ⟨#[]⟩), 1, 16) := by kernel_rfl
def mkT (k i : Nat) : Value := .string (mkText k i)
/-- The first loop's round: k rows written over, and i cells of the next one. -/
def W1 (w0 w : World) (B : Nat) (D : List Nat) (m : Nat) (V : Nat → Value) (C : Nat → List Value) (k i : Nat) (wr : World) : Prop :=
  ∃ C', St 9 60 w0 B D 0 m V C' (.slice none 0 0) [] wr ∧ KeepD D w wr ∧ (∀ j, j < m → (C' j).length = (C j).length) ∧ (∀ j, j < k → Mk mkT j (C' j) (C j).length) ∧ (k < m → Mk mkT k (C' k) i)
def R1 (w0 w : World) (B : Nat) (D : List Nat) (m : Nat) (V : Nat → Value) (C : Nat → List Value) (v : Value) (wr : World) : Prop := ∃ k : Nat, k ≤ m ∧ v = .int .i64 k ∧ W1 w0 w B D m V C k 0 wr
def R2 (w0 w : World) (B : Nat) (D : List Nat) (m : Nat) (V : Nat → Value) (C : Nat → List Value) (k : Nat) (v : Value) (wr : World) : Prop := ∃ i : Nat, i ≤ (C k).length ∧ v = .int .i64 i ∧ W1 w0 w B D m V C k i wr
/-- The second loop: k lists lengthened by 64 marks, and kept; the next one lengthened by i. -/
def Done (m : Nat) (V : Nat → Value) (C : Nat → List Value) (k : Nat) (D' : List Nat) (gv : List Value) (wr : World) : Prop :=
  gv.length = k ∧ ∀ j, j < k → ∃ G, gv[j]? = some G ∧ RdD wr D' G ((C j).length + 64) (mkT j) ∧ RdD wr D' (V j) (C j).length (mkT j)
def Left_ (m : Nat) (C : Nat → List Value) (k : Nat) (C' : Nat → List Value) : Prop := ∀ j, k ≤ j → j < m → (C' j).length = (C j).length ∧ Mk mkT j (C' j) (C j).length
def G2 (w0 w : World) (B : Nat) (D : List Nat) (m : Nat) (V : Nat → Value) (C : Nat → List Value) (k : Nat) (v : Value) (wr : World) : Prop :=
  ∃ D' C' gv, St 9 60 w0 B D' k m V C' v gv wr ∧ (∀ b, b ∈ D → b ∈ D') ∧ KeepD D w wr ∧ Done m V C k D' gv wr ∧ Left_ m C k C'
def I2 (w0 w : World) (B : Nat) (D : List Nat) (m : Nat) (V : Nat → Value) (C : Nat → List Value) (v : Value) (k i : Nat) (u : Value) (wr : World) : Prop :=
  ∃ D' C' gv xs, St 9 60 w0 B D' k m (upd V k u) (upd C' k xs) v gv wr ∧ (∀ b, b ∈ D → b ∈ D') ∧ KeepD D w wr ∧ Done m V C k D' gv wr ∧ Left_ m C (k + 1) C' ∧
    xs.length = (C k).length + i ∧ Mk mkT k xs xs.length ∧ (u.ownBlock = (V k).ownBlock ∨ RdD wr D' (V k) (C k).length (mkT k))
def R3 (w0 w : World) (B : Nat) (D : List Nat) (m : Nat) (V : Nat → Value) (C : Nat → List Value) (v i : Value) (wr : World) : Prop := ∃ k : Nat, k ≤ m ∧ i = .int .i64 k ∧ G2 w0 w B D m V C k v wr
def R4 (w0 w : World) (B : Nat) (D : List Nat) (m : Nat) (V : Nat → Value) (C : Nat → List Value) (v : Value) (k : Nat) (u i : Value) (wr : World) : Prop := ∃ n : Nat, n ≤ 64 ∧ i = .int .i64 n ∧ I2 w0 w B D m V C v k n u wr
theorem Done.keep {m : Nat} {V : Nat → Value} {C : Nat → List Value} {k : Nat} {D' D2 : List Nat} {gv : List Value} {wr w1 : World} (h : Done m V C k D' gv wr) (hk : KeepD D' wr w1) (hD : ∀ b, b ∈ D' → b ∈ D2) : Done m V C k D2 gv w1 :=
  ⟨h.1, fun j hj => by
    obtain ⟨G, e, a, b⟩ := h.2 j hj
    exact ⟨G, e, (a.keep hk).more hD, (b.keep hk).more hD⟩⟩
/-- One mark more behind list k. -/
theorem I2.next {w0 w : World} {B : Nat} {D : List Nat} {m : Nat} {V : Nat → Value} {C : Nat → List Value} {v : Value} {k i : Nat} {wr w1 : World} {u' : Value} {D' : List Nat} {C' : Nat → List Value} {gv xs : List Value} {u : Value}
    (hlt : k < m) (hVF : VF (V k) (C k).length) (hS : St 9 60 w0 B D' k m (upd V k u) (upd C' k xs) v gv wr) (hD : ∀ b, b ∈ D → b ∈ D') (hK : KeepD D w wr) (hDn : Done m V C k D' gv wr) (hL : Left_ m C (k + 1) C')
    (hx : xs.length = (C k).length + i) (hM : Mk mkT k xs xs.length) (hor : u.ownBlock = (V k).ownBlock ∨ RdD wr D' (V k) (C k).length (mkT k))
    (hown : w1.ownsRow B 9 1 u' (xs.length + 1) (xs ++ [mkT k xs.length])) (hat : (u'.ownBlock = u.ownBlock ∧ wr.grownBy w1 u.ownBlock) ∨ (u'.ownBlock = some wr.heap.size ∧ wr.grownBy w1 none)) :
    I2 w0 w B D m V C v k (i + 1) u' w1 := by
  have hl : (xs ++ [mkT k xs.length]).length = xs.length + 1 := by simp
  obtain ⟨D2, h1, h2, h3, h4⟩ := hS.append (by decide) hlt (u' := u') (xs' := xs ++ [mkT k xs.length]) (by rw [hl]; exact hown) hat hVF.1 hVF.2.1 hVF.2.2 (by omega) (fun p hp => hM p (by omega)) hor
  exact ⟨D2, C', gv, _, h2, fun b hb => h1 b (hD b hb), fun b hb => (h3 b (hD b hb)).trans (hK b hb), hDn.keep h3 h1, hL, by rw [hl]; omega, by rw [hl]; exact hM.snoc, h4⟩
/-- List k is done. -/
theorem I2.done {w0 w : World} {B : Nat} {D : List Nat} {m : Nat} {V : Nat → Value} {C : Nat → List Value} {v v' : Value} {k : Nat} {wr w1 : World} {D' : List Nat} {C' : Nat → List Value} {gv xs : List Value} {u : Value}
    (hlt : k < m) (hVF : VF (V k) (C k).length) (hS : St 9 60 w0 B D' k m (upd V k u) (upd C' k xs) v gv wr) (hD : ∀ b, b ∈ D → b ∈ D') (hK : KeepD D w wr) (hDn : Done m V C k D' gv wr) (hL : Left_ m C (k + 1) C')
    (hx : xs.length = (C k).length + 64) (hM : Mk mkT k xs xs.length) (hor : u.ownBlock = (V k).ownBlock ∨ RdD wr D' (V k) (C k).length (mkT k))
    (hown : w1.ownsRow B 60 1 v' (gv.length + 1) (gv ++ [u])) (hg : wr.grownBy w1 v.ownBlock) (hat : v'.ownBlock = v.ownBlock ∨ v'.ownBlock = some wr.heap.size) :
    G2 w0 w B D m V C (k + 1) v' w1 := by
  have hl : (gv ++ [u]).length = gv.length + 1 := by simp
  obtain ⟨h1, h2⟩ := hS.gsrow (by decide) (v' := v') (gv' := gv ++ [u]) (by rw [hl]; exact hown) hg hat
  have hu := h1.own k (Nat.le_refl _) hlt
  rw [upd_at, upd_at] at hu
  have h3 := h1.retire (by decide) hlt
  rw [upd_at] at h3
  have hsub : ∀ b, b ∈ D' → b ∈ u.ownBlock.toList ++ D' := fun b hb => List.mem_append_right _ hb
  obtain ⟨g, cap, hu1, hgB, hgl⟩ := hu.form (by omega)
  have hub : u.ownBlock = some g := by rw [hu1]; rfl
  rw [hu1] at hu
  have hsz : xs.length ≤ 9223372036854775807 := by
    obtain ⟨c', e, h⟩ := form0 hu rfl
    exact h
  have hgD : g ∈ u.ownBlock.toList ++ D' := by rw [hub]; simp
  have hD1 := hDn.keep h2 hsub
  refine ⟨_, C', gv ++ [u], h3.congr (fun j a b => by rw [upd_ne _ _ (by omega)]) (fun j a b => by rw [upd_ne _ _ (by omega)]), fun b hb => hsub b (hD b hb), fun b hb => (h2 b (hD b hb)).trans (hK b hb), ⟨by rw [hl, hDn.1], fun j hj => ?_⟩, hL⟩
  by_cases hjk : j < k
  · obtain ⟨G, e, a, b⟩ := hD1.2 j hjk
    exact ⟨G, by rw [List.getElem?_append_left (by rw [hDn.1]; exact hjk)]; exact e, a, b⟩
  · obtain rfl : j = k := by omega
    refine ⟨u, by rw [List.getElem?_append_right (by rw [hDn.1]; omega), hDn.1]; simp, ?_, ?_⟩
    · rw [hu1, ← hx]
      exact RdD.of_own hu xs.length cap (Nat.le_refl _) _ (fun p hp => hM p hp) (by rw [← hu1]; exact hgD) hsz
    · rcases hor with e | e
      · obtain ⟨c', hVc⟩ := hVF.2.2 g (e.symm.trans hub)
        rw [hVc]
        exact RdD.of_own hu _ c' (by omega) _ (fun p hp => hM p (by omega)) hgD hsz
      · exact (e.keep h2).more hsub
theorem G2.slice_ {w0 w : World} {B : Nat} {D : List Nat} {m : Nat} {V : Nat → Value} {C : Nat → List Value} {k : Nat} {v : Value} {wr : World} (h : G2 w0 w B D m V C k v wr) : ∃ A c, v = .slice A k c := by
  obtain ⟨D', C', gv, hS, _, _, hDn, _⟩ := h
  have hg := hS.gs
  rw [hDn.1] at hg
  exact ow_slice hg
/-- All are done: what the third loop reads. -/
def Seen (m : Nat) (V : Nat → Value) (C : Nat → List Value) (ad : Addr) (D' : List Nat) (v : Value) (gv : List Value) (wr : World) : Prop :=
  (∀ b, b ∈ D' → b < wr.heap.size) ∧ (∀ j, j < m → wr.cell? (ad.add j) = some (V j) ∧ (ad.add j).block ∈ D') ∧ RdD wr D' v m (fun j => gv.getD j .nilIface) ∧
    ∀ j, j < m → RdD wr D' (gv.getD j .nilIface) ((C j).length + 64) (mkT j) ∧ RdD wr D' (V j) (C j).length (mkT j)
theorem Seen.keep {m : Nat} {V : Nat → Value} {C : Nat → List Value} {ad : Addr} {D' : List Nat} {v : Value} {gv : List Value} {wr w1 : World} (h : Seen m V C ad D' v gv wr) (hb : Below wr.heap.size wr w1) : Seen m V C ad D' v gv w1 := by
  have hk : KeepD D' wr w1 := fun b hb' => hb.block b (h.1 b hb')
  exact ⟨fun b hb' => Nat.lt_of_lt_of_le (h.1 b hb') hb.size, fun j hj => ⟨hk.cell (h.2.1 j hj).2 (h.2.1 j hj).1, (h.2.1 j hj).2⟩, h.2.2.1.keep hk, fun j hj => ⟨((h.2.2.2 j hj).1).keep hk, ((h.2.2.2 j hj).2).keep hk⟩⟩
theorem G2.seen {w0 w : World} {B : Nat} {D : List Nat} {m : Nat} {V : Nat → Value} {C : Nat → List Value} {v : Value} {wr : World} {ad : Addr} (h : G2 w0 w B D m V C m v wr) (hls : ∀ j, j < m → w.cell? (ad.add j) = some (V j)) (hadD : ad.block ∈ D) :
    ∃ D' gv, Seen m V C ad D' v gv wr ∧ Below B w0 wr := by
  obtain ⟨D', C', gv, hS, hD, hK, hDn, hL⟩ := h
  have hg : ∀ j, j < m → ∃ G, gv[j]? = some G ∧ gv.getD j .nilIface = G := fun j hj => by
    obtain ⟨G, e, _, _⟩ := hDn.2 j hj
    exact ⟨G, e, by rw [List.getD_eq_getElem?_getD, e]; rfl⟩
  have hsub : ∀ b, b ∈ D' → b ∈ v.ownBlock.toList ++ D' := fun b hb => List.mem_append_right _ hb
  have hgs := hS.gs
  rw [hDn.1] at hgs
  refine ⟨v.ownBlock.toList ++ D', gv, ⟨fun b hb => ?_, fun j hj => ⟨hK.cell (by rw [add_blk]; exact hadD) (hls j hj), hsub _ (by rw [add_blk]; exact hD _ hadD)⟩, ?_, fun j hj => ?_⟩, hS.below⟩
  · rcases List.mem_append.1 hb with hb | hb
    · exact ow_lt hgs b (by simpa using hb)
    · exact (hS.far b hb).1
  · by_cases h0 : m = 0
    · obtain ⟨A, c, e⟩ := ow_slice hgs
      exact ⟨A, c, e, by omega, fun hp => absurd hp (by omega)⟩
    · obtain ⟨g, cap, e, _, _⟩ := hgs.form (by omega)
      rw [e] at hgs ⊢
      have hsz : m ≤ 9223372036854775807 := by
        obtain ⟨c', _, h⟩ := form0 hgs rfl
        exact h
      refine RdD.of_own hgs m cap (Nat.le_refl _) _ (fun p hp => ?_) (by simp [Value.ownBlock]) hsz
      obtain ⟨G, e1, e2⟩ := hg p hp
      rw [e1, e2]
  · obtain ⟨G, e, a, b⟩ := hDn.2 j hj
    obtain ⟨G', e1, e2⟩ := hg j hj
    obtain rfl : G = G' := Option.some.inj (e.symm.trans e1)
    rw [e2]
    exact ⟨a.more hsub, b.more hsub⟩
def a7.T : Bool × List (List Nat × List Nat) := (true, [([], []), ([], []), ([0, 1], [0, 1]), ([2], [2]), ([], []), ([], []), ([], []), ([5, 6], [5, 6]), ([3, 4, 0, 1, 2, 3, 4, 5, 6, 7], [3, 4]), ([8, 7, 7, 0, 1, 2, 3, 4, 5, 6, 7], [7, 8])])
def a7.B : List Nat := [0, 0, 3, 7, 0, 0, 0, 96, 255, 511]
theorem a7.tab : rtab .any (opsOf Tryd.f36 7) = a7.T := by kernel_rfl
theorem a7.bits : waitsOk a7.T.2 a7.B = true := by kernel_rfl
set_option maxHeartbeats 2000000 in
theorem apartTexts (ad : Addr) (m c : Nat) (V : Nat → Value) (C : Nat → List Value) (w0 w : World) (B : Nat) (D : List Nat) (hS : St 9 60 w0 B D 0 m V C (.slice none 0 0) [] w)
    (hls : ∀ j, j < m → w.cell? (ad.add j) = some (V j)) (hadD : ad.block ∈ D) (hm : m ≤ 65536) (hn : ∀ j, j < m → (C j).length ≤ 4194304) :
    Calls Tryd.prog 36 #[.slice (some ad) m c] w fun e w' => e = .returned (.bool true) ∧ Below B w0 w' := by
  have hET : 9 ≠ 60 := by decide
  have HB0 : Hid (B ≤ w0.heap.size) := Lib.hid hS.base
  have HVF0 : Hid (∀ j, j < m → VF (V j) (C j).length) := Lib.hid fun j hj => VF.of_own (hS.own j (Nat.zero_le _) hj)
  go_enter Tryd.func36, Tryd.ntmps36
  go_wp2
  go_loopw [3] (fun v wr => R1 w0 w B D m V C v wr) (fun v _ => m - (intOf v).toNat)
  case atStart => exact ⟨0, by omega, rfl, C, hS, KeepD.refl _ _, fun _ _ => rfl, fun j hj => absurd hj (by omega), fun _ p hp => absurd hp (by omega)⟩
  case round =>
    clear hS
    obtain ⟨k, hk, rfl, hW⟩ := hrel
    have HW := Lib.hid hW
    clear hW
    by_cases hlt : k < m
    · obtain ⟨wo, rfl⟩ : ∃ wo : World, wo = wr := ⟨_, rfl⟩
      go_wp2
      go_loopw [4] (fun v wr => R2 w0 w B D m V C k v wr) (fun v _ => (C k).length - (intOf v).toNat)
      case atStart => exact ⟨0, by omega, rfl, HW.out⟩
      case round =>
        clear HW
        obtain ⟨i, hi, rfl, C', hS, hK, hlen, hdone, hcur⟩ := hrel
        have hcellk := hK.cell (by rw [add_blk]; exact hadD) (hls k hlt)
        have hlk := hlen k hlt
        have hnk := hn k hlt
        have hok := hS.own k (Nat.zero_le _) hlt
        by_cases hil : i < (C k).length
        · obtain ⟨g, cp, hVk, hgB, hgl⟩ := hok.form (by omega)
          rw [hVk, hlk] at hcellk
          have hf1 : (0 : Int) ≤ (i : Int) ∧ (i : Int) < ((C k).length : Int) := by omega
          have hS1 : St 9 60 w0 B D 0 m V C' (.slice none 0 0) [] wr.drew := (hS.quiet (bl_drew (bl_refl wr))).1
          have hK1 : KeepD D w wr.drew := hK
          have hcell1 : wr.drew.cell? (ad.add k) = some (.slice (some ⟨g, 0, none⟩) (C k).length cp) := hcellk
          have hadk : (ad.add k).block ∈ D := by rw [add_blk]; exact hadD
          have HLen := Lib.hid hlk
          have HVk : Hid (V k = .slice (some ⟨g, 0, none⟩) (C k).length cp) := Lib.hid (by rw [hVk, hlk])
          have HMk := Lib.hid (markText_any k i)
          have HSz := Lib.hid hlen
          have HDone := Lib.hid hdone
          have HCur := Lib.hid (hcur hlt)
          clear hS hK hlk hVk hlen hdone hcur hgl
          go_wp2_with fail
          refine start_ (n := 10) (S := fun w' => w'.cell? (ad.add k) = some (.slice (some ⟨g, 0, none⟩) (C k).length cp)) (ds := [9]) #[false, false, false, false, false, false, false, false, false, false] (by kernel_rfl) rfl rfl (hcell1) (fun hHeld => ?_)
          refine with_tabW a7.tab a7.bits (fun HT_ HW_ => ?_)
          generalize wr.drew = wd at hS1 hK1 hcell1 hHeld ⊢
          refine pure_ (i := 0) (N := some 27) (v := ?_) (a' := ?_) #[true, false, false, false, false, false, false, false, false, false] rfl rfl (any_of HT_.out (by kernel_rfl)) (fun _ _ _ h => h) (Or.inl ⟨by rfl, ?_⟩) ?_ ?_
          rotate_left
          · intro w'
            go_simp
            with_reducible rfl
          rotate_left
          · simp only [Act.put, List.setIfInBounds_toArray, List.set_cons_zero, List.set_cons_succ, i64_w, i32_w]
            rfl
          refine pure_ (i := 1) (N := some 28) (v := ?_) (a' := ?_) #[true, true, false, false, false, false, false, false, false, false] rfl rfl (any_of HT_.out (by kernel_rfl)) (fun _ _ _ h => h) (Or.inl ⟨by rfl, ?_⟩) ?_ ?_
          rotate_left
          · intro w'
            go_simp
            with_reducible rfl
          rotate_left
          · simp only [Act.put, List.setIfInBounds_toArray, List.set_cons_zero, List.set_cons_succ, i64_w, i32_w]
            rfl
          refine pure_ (i := 2) (N := some 29) (v := ?_) (a' := ?_) #[true, true, true, false, false, false, false, false, false, false] rfl rfl (any_of HT_.out (by kernel_rfl)) (fun _ _ _ h => h) (Or.inl ⟨by rfl, ?_⟩) ?_ ?_
          rotate_left
          · intro w'
            go_simp
            with_reducible rfl
          rotate_left
          · simp only [Act.put, List.setIfInBounds_toArray, List.set_cons_zero, List.set_cons_succ, i64_w, i32_w]
            rfl
          refine pure_ (i := 4) (N := some 31) (v := ?_) (a' := ?_) #[true, true, true, false, true, false, false, false, false, false] rfl rfl (any_of HT_.out (by kernel_rfl)) (fun _ _ _ h => h) (Or.inl ⟨by rfl, ?_⟩) ?_ ?_
          rotate_left
          · intro w'
            go_simp
            with_reducible rfl
          rotate_left
          · simp only [Act.put, List.setIfInBounds_toArray, List.set_cons_zero, List.set_cons_succ, i64_w, i32_w]
            rfl
          refine pure_ (i := 5) (N := some 32) (v := ?_) (a' := ?_) #[true, true, true, false, true, true, false, false, false, false] rfl rfl (any_of HT_.out (by kernel_rfl)) (fun _ _ _ h => h) (Or.inl ⟨by rfl, ?_⟩) ?_ ?_
          rotate_left
          · intro w'
            go_simp
            with_reducible rfl
          rotate_left
          · simp only [Act.put, List.setIfInBounds_toArray, List.set_cons_zero, List.set_cons_succ, i64_w, i32_w]
            rfl
          refine pure_ (i := 6) (N := some 33) (v := ?_) (a' := ?_) #[true, true, true, false, true, true, true, false, false, false] rfl rfl (any_of HT_.out (by kernel_rfl)) (fun _ _ _ h => h) (Or.inl ⟨by rfl, ?_⟩) ?_ ?_
          rotate_left
          · intro w'
            go_simp
            with_reducible rfl
          rotate_left
          · simp only [Act.put, List.setIfInBounds_toArray, List.set_cons_zero, List.set_cons_succ, i64_w, i32_w]
            rfl
          refine take_ (i := 3) (N := some 30) (v := ?_) (a' := ?_) #[true, true, true, true, true, true, true, false, false, false] rfl rfl (take_ofW HT_.out HW_.out (by kernel_rfl)) (fun _ _ _ h => h) (Or.inl ⟨by rfl, ?_⟩) hHeld ?_ ?_
          rotate_left
          · intro w' s0
            go_simp
            with_reducible rfl
          rotate_left
          · simp only [Act.put, List.setIfInBounds_toArray, List.set_cons_zero, List.set_cons_succ, i64_w, i32_w]
            rfl
          refine one_ (i := 7) (N := some 34) #[true, true, true, true, true, true, true, true, false, false] rfl rfl (one_of HT_.out (by kernel_rfl)) (by decide) (fun K hK => ?_)
          refine goes_ Tryd.func66 (by kernel_rfl) rfl #[.int .i64 k, .int .i64 i] (by rfl) rfl rfl (by simp only [List.map_toArray, List.map_cons, List.map_nil]; rfl) ?_
          with_reducible refine (HMk.out _).mono ?_
          rintro e w2 ⟨rfl, hb2⟩
          refine ⟨_, rfl, ?_⟩
          obtain ⟨hS2, hK2⟩ := hS1.quiet hb2
          refine hK.out _ _ ((hK2.cell hadk hcell1)) (fun hHeld => ?_)
          clear hK K
          refine norm_ (a' := ?_) ?_ ?_
          rotate_left
          · show Act.put _ (some 34) _ = _
            simp only [Act.put, List.setIfInBounds_toArray, List.set_cons_zero, List.set_cons_succ, i64_w, i32_w]
            rfl
          refine pure_ (i := 8) (N := some 35) (v := ?_) (a' := ?_) #[true, true, true, true, true, true, true, true, true, false] rfl rfl (any_of HT_.out (by kernel_rfl)) (fun _ _ _ h => h) (Or.inl ⟨by rfl, ?_⟩) ?_ ?_
          rotate_left
          · intro w'
            go_simp
            with_reducible rfl
          rotate_left
          · simp only [Act.put, List.setIfInBounds_toArray, List.set_cons_zero, List.set_cons_succ, i64_w, i32_w]
            rfl
          refine last_ (i := 9) (N := none) #[true, true, true, true, true, true, true, true, true, true] rfl rfl (one_of HT_.out (by kernel_rfl)) (by decide) (fun K hK => ?_)
          have ho2 := hS2.own k (Nat.zero_le _) hlt
          rw [HVk.out, HLen.out] at ho2
          obtain ⟨x, hx⟩ : ∃ x, (C' k)[i]? = some x := ⟨_, List.getElem?_eq_getElem (by rw [HLen.out]; exact hil)⟩
          have q1 : w2.cell? ⟨g, i, none⟩ = some x := (ho2.cellAt i (by rw [Nat.mul_one]; exact hil)).trans hx
          have q2 := ho2.frozenAt i
          clear hx
          refine skip_ (w1 := ?_) (by rfl) rfl ?_ ?_
          rotate_left
          · go_simp
            rfl
          refine hK.out _ _ ?_
          clear hK K
          refine done_ (done_of HT_.out (by kernel_rfl)) ?_
          have hst := ho2.stored i (mkT k i)
          have hS3 := hS2.row hET k (Nat.zero_le _) hlt (v' := .slice (some ⟨g, 0, none⟩) (C k).length cp) (xs' := (C' k).set i (mkT k i)) (by rw [List.length_set, HLen.out]; exact hst.1) (by rw [HVk.out]; exact hst.2) (.inl (by rw [HVk.out]))
          rw [upd_self HVk.out] at hS3
          have HR : Hid (W1 w0 w B D m V C k (i + 1) (w2.setCell ⟨g, i, none⟩ (.string (mkText k i)))) := Lib.hid ⟨_, hS3.1, hK1.trans (hK2.trans hS3.2), fun j hj => by
              by_cases e : j = k
              · subst e; rw [upd_at, List.length_set]; exact HLen.out
              · rw [upd_ne _ _ e]; exact HSz.out j hj, fun j hj => by
              rw [upd_ne _ _ (by omega)]; exact HDone.out j hj, fun _ => by
              rw [upd_at]; exact HCur.out.set_ (by rw [HLen.out]; exact hil)⟩
          clear hS3 hst ho2 q1 q2 hS2 hK2 hK1 hS1
          try go_wp2
          go_roundw
          case rel => exact ⟨i + 1, by omega, by go_num, HR.out⟩
          case measure => simp [intOf]; omega
        · obtain rfl : i = (C k).length := by omega
          have hsl : ∃ A c, V k = .slice A (C k).length c := by rw [← hlk]; exact ow_slice hok
          obtain ⟨A, cc, hVk⟩ := hsl
          rw [hVk] at hcellk
          have HR : Hid (W1 w0 w B D m V C (k + 1) 0 wr) := Lib.hid ⟨C', hS, hK, hlen, fun j hj => by
            by_cases e : j = k
            · subst e; exact hcur hlt
            · exact hdone j (by omega), fun _ p hp => absurd hp (by omega)⟩
          clear hS hK hlen hdone hcur hlk hok hVk
          go_wp2
          go_roundw
          case rel => exact ⟨k + 1, by omega, by go_num, HR.out⟩
          case measure => simp [intOf]; omega
    · obtain rfl : m = k := by omega
      have HC := Lib.hid HW.out
      clear HW
      have hVF0 : ∀ j, j < m → VF (V j) (C j).length := HVF0.out
      have HVF := Lib.hid hVF0
      clear hVF0 HVF0
      obtain ⟨i0, hi, hz0, hz1, hz2⟩ := info_parts nf_str
      obtain ⟨j0, hj, hy0, hy1, hy2⟩ := info_parts nf_sl
      have HS0 : Hid (G2 w0 w B D m V C 0 (.slice none 0 0) wr) := Lib.hid (by
        obtain ⟨C', hS, hK, hlen, hdone, _⟩ := HC.out
        exact ⟨D, C', [], hS, fun _ x => x, hK, ⟨rfl, fun j hj => absurd hj (by omega)⟩, fun j _ hj => ⟨hlen j hj, hdone j hj⟩⟩)
      clear HC
      obtain ⟨w1a, rfl⟩ : ∃ w1a : World, w1a = wr := ⟨_, rfl⟩
      go_wp2
      go_loopw [5, 6] (fun v i wr => R3 w0 w B D m V C v i wr) (fun _ i _ => m - (intOf i).toNat)
      case atStart => exact ⟨0, by omega, rfl, HS0.out⟩
      case round =>
        clear HS0
        obtain ⟨k, hk, rfl, hG⟩ := hrel
        obtain ⟨Ag, cg, rfl⟩ := hG.slice_
        have HG := Lib.hid hG
        clear hG
        by_cases hlt : k < m
        · obtain ⟨wo, rfl⟩ : ∃ wo : World, wo = wr := ⟨_, rfl⟩
          have hVk := HVF.out k hlt
          obtain ⟨A, cc, hVe⟩ := hVk.1
          have hcellk : wo.cell? (ad.add k) = some (.slice A (C k).length cc) := by
            obtain ⟨D', C', gv, hS, hD, hK, hDn, hL⟩ := HG.out
            rw [← hVe]
            exact hK.cell (by rw [add_blk]; exact hadD) (hls k hlt)
          have HI : Hid (I2 w0 w B D m V C (.slice Ag k cg) k 0 (.slice A (C k).length cc) wo) := Lib.hid (by
            obtain ⟨D', C', gv, hS, hD, hK, hDn, hL⟩ := HG.out
            obtain ⟨a, b⟩ := hL k (Nat.le_refl _) hlt
            refine ⟨D', C', gv, C' k, ?_, hD, hK, hDn, fun j x y => hL j (by omega) y, by omega, by rw [a]; exact b, .inl (by rw [hVe])⟩
            rw [← hVe, upd_self rfl, upd_self rfl]
            exact hS)
          have HVe := Lib.hid hVe
          have HVk := Lib.hid hVk
          clear hVe hVk HG
          have hnk := hn k hlt
          go_wp2
          go_loopw [7, 8] (fun u i wr => R4 w0 w B D m V C (.slice Ag k cg) k u i wr) (fun _ i _ => 64 - (intOf i).toNat)
          case atStart => exact ⟨0, by omega, rfl, HI.out⟩
          case round =>
            clear HI hcellk
            obtain ⟨i, hi64, rfl, D', C', gv, xs, hS, hD, hK, hDn, hL, hx, hM, hor⟩ := hrel
            have hcellk := hK.cell (by rw [add_blk]; exact hadD) (hls k hlt)
            rw [HVe.out] at hcellk
            have hou := hS.own k (Nat.le_refl _) hlt
            rw [upd_at, upd_at] at hou
            obtain ⟨A2, c2, rfl⟩ := ow_slice hou
            by_cases hlt2 : i < 64
            · have HMk := Lib.hid (markText_at k xs.length ((C k).length + i : Int) (by rw [hx]; omega))
              have HX := Lib.hid hx
              have HS := Lib.hid hS
              have HD := Lib.hid hD
              have HK := Lib.hid hK
              have HDn := Lib.hid hDn
              have HL := Lib.hid hL
              have HM := Lib.hid hM
              have HO := Lib.hid hor
              have hxs : xs.length ≤ 4194400 := by omega
              clear hx hS hD hK hDn hL hM hor hou
              go_wp2_with fail
              refine (HMk.out _).mono ?_
              rintro e w2 ⟨rfl, hb2⟩
              obtain ⟨hS2, hK2⟩ := HS.out.quiet hb2
              obtain ⟨hS3, hK3⟩ := hS2.quiet (bl_alloc (bl_refl w2) (.cells #[.string (mkText k xs.length)] 9))
              have ho3 := hS3.own k (Nat.le_refl _) hlt
              rw [upd_at, upd_at] at ho3
              have hB3 := hS3.size
              go_wp2_with (at_builtin; refine wpList_append_two _ rfl _ _ 60 rfl B 9 i0 (.string ⟨#[]⟩) 1 16 Tryd.underlying60 hi hz0 hz1 hz2 rfl (by decide) (.slice A2 xs.length c2) xs.length xs rfl ho3 ⟨w2.heap.size, 0, none⟩ 1 1 [.string (mkText k xs.length)] rfl rfl ?b1 ?b2 ?b3 ?b4 ?b5 ?_)
              case b1 => exact cell_one_new _ _ _
              case b2 => simp [Value.oneCell']
              case b3 => simp only [maxLen]; omega
              case b4 => omega
              case b5 => exact hB3
              intro u' w3 hown' hat'
              have HR := Lib.hid (I2.next (i := i) hlt HVk.out hS3 HD.out (HK.out.trans ((fun b hb => hK2 b (HD.out b hb)) : KeepD D _ _) |>.trans ((fun b hb => hK3 b (HD.out b hb)) : KeepD D _ _)) (HDn.out.keep (hK2.trans hK3) (fun _ x => x)) HL.out HX.out HM.out (HO.out.imp id fun x => x.keep (hK2.trans hK3)) hown' (by rw [show (w2.alloc (.cells #[.string (mkText k xs.length)] 9)).heap.size = w2.heap.size + 1 from by simp]; exact hat'))
              clear hown' hat' hS2 hS3 hK2 hK3 ho3 hb2 hB3
              go_wp2
              go_roundw
              case rel => exact ⟨i + 1, by omega, by go_num, HR.out⟩
              case measure => simp [intOf]; omega
            · obtain rfl : i = 64 := by omega
              obtain ⟨hS3, hK3⟩ := hS.quiet (bl_alloc (bl_refl wr) (.cells #[.slice A2 xs.length c2] 60))
              have hg3 : (wr.alloc (.cells #[.slice A2 xs.length c2] 60)).ownsRow B 60 1 (.slice Ag k cg) k gv := by
                have := hS3.gs
                rwa [hDn.1] at this
              have hB3 := hS3.size
              have HX := Lib.hid hx
              have HS3 := Lib.hid hS3
              have HD := Lib.hid hD
              have HK := Lib.hid (hK.trans ((fun b hb => hK3 b (hD b hb)) : KeepD D _ _))
              have HDn := Lib.hid (hDn.keep hK3 (fun _ x => x))
              have HL := Lib.hid hL
              have HM := Lib.hid hM
              have HO := Lib.hid (hor.imp id fun x => x.keep hK3)
              clear hx hS hD hK hDn hL hM hor hou hS3 hK3
              go_wp2_with (at_builtin; refine wpList_append_own_at _ rfl _ _ 73 rfl B 60 j0 (.slice none 0 0) 1 24 Tryd.underlying73 hj hy0 hy1 hy2 rfl (by decide) (.slice Ag k cg) k gv rfl hg3 ⟨wr.heap.size, 0, none⟩ 1 1 [.slice A2 xs.length c2] rfl rfl ?d1 ?d2 ?d3 ?d4 ?d5 ?_)
              case d1 => exact cell_one_new _ _ _
              case d2 => simp [Value.oneCell']
              case d3 => simp only [maxLen]; omega
              case d4 => omega
              case d5 => exact hB3
              intro v' w3 hown' hgrow _ hat'
              have HR := Lib.hid (I2.done hlt HVk.out HS3.out HD.out HK.out HDn.out HL.out HX.out HM.out HO.out (by rw [HDn.out.1]; exact hown') hgrow (by rw [show (wr.alloc (.cells #[.slice A2 xs.length c2] 60)).heap.size = wr.heap.size + 1 from by simp]; exact hat'))
              clear hown' hgrow hat' hg3 hB3
              go_wp2
              go_roundw
              case rel => exact ⟨k + 1, by omega, by go_num, HR.out⟩
              case measure => simp [intOf]; omega
        · obtain rfl : m = k := by omega
          obtain ⟨D', gv, hSe, hBe⟩ := HG.out.seen hls hadD
          have HSe := Lib.hid hSe
          clear hSe HG
          obtain ⟨w1b, rfl⟩ : ∃ w1b : World, w1b = wr := ⟨_, rfl⟩
          go_wp2
          go_loopw [9] (fun i wr => ∃ k : Nat, k ≤ m ∧ i = .int .i64 k ∧ Seen m V C ad D' (.slice Ag m cg) gv wr ∧ Below B w0 wr) (fun i _ => m - (intOf i).toNat)
          case atStart => exact ⟨0, by omega, rfl, HSe.out, hBe⟩
          case round =>
            clear HSe hBe
            obtain ⟨k, hk, rfl, hSe, hBe⟩ := hrel
            have HSe := Lib.hid hSe
            clear hSe
            by_cases hlt : k < m
            · obtain ⟨wo2, rfl⟩ : ∃ wo2 : World, wo2 = wr := ⟨_, rfl⟩
              obtain ⟨A', c', e', _, hr'⟩ := HSe.out.2.2.1
              obtain ⟨gad, eg, hgb, hgc⟩ := hr' (by omega)
              have eA : Ag = some gad := by injection e' with e1 _ _; rw [e1, eg]
              subst eA
              clear hr' e' eg hgb hgc
              obtain ⟨A3, c3, e3, _, hr3⟩ := (HSe.out.2.2.2 k hlt).1
              obtain ⟨ad3, eg3, _, _⟩ := hr3 (by omega)
              subst eg3
              have HE3 := Lib.hid e3
              clear hr3 e3
              obtain ⟨A4, c4, e4, _, _⟩ := (HSe.out.2.2.2 k hlt).2
              have HE4 := Lib.hid e4
              clear e4
              have hnk := hn k hlt
              go_wp2
              go_loopw [10] (fun i wr => ∃ n : Nat, n ≤ (C k).length + 64 ∧ i = .int .i64 n ∧ Seen m V C ad D' (.slice (some gad) m cg) gv wr ∧ Below B w0 wr) (fun i _ => (C k).length + 64 - (intOf i).toNat)
              case atStart => exact ⟨0, by omega, rfl, HSe.out, hBe⟩
              case round =>
                clear HSe hBe
                obtain ⟨i, hi, rfl, hSe, hBe⟩ := hrel
                have cells : ∀ W : World, Seen m V C ad D' (.slice (some gad) m cg) gv W → W.cell? (gad.add k) = some (.slice (some ad3) ((C k).length + 64) c3) ∧ W.cell? (ad.add k) = some (.slice A4 (C k).length c4) ∧ (i < (C k).length + 64 → W.cell? (ad3.add i) = some (.string (mkText k i))) ∧ (i < (C k).length → ∃ ad4, A4 = some ad4 ∧ W.cell? (ad4.add i) = some (.string (mkText k i))) := by
                  intro W hW
                  obtain ⟨q1, q2, q3, q4⟩ := hW
                  obtain ⟨x1, x2, x3, _, x4⟩ := q3
                  obtain ⟨x5, x6, _, x7⟩ := x4 (by omega)
                  injection x3 with y1 _ _
                  rw [x6] at y1
                  injection y1 with y1
                  subst y1
                  have z1 : W.cell? (gad.add k) = some (gv.getD k .nilIface) := x7 k hlt
                  rw [HE3.out] at z1
                  have z2 := (q2 k hlt).1
                  rw [HE4.out] at z2
                  refine ⟨z1, z2, fun hlt3 => ?_, fun hlt4 => ?_⟩
                  · obtain ⟨a1, a2, a3, _, a4⟩ := (q4 k hlt).1
                    rw [HE3.out] at a3
                    injection a3 with a5 _ _
                    obtain ⟨a6, a7, _, a8⟩ := a4 (by omega)
                    rw [← a5] at a7
                    injection a7 with a7
                    subst a7
                    exact a8 i hlt3
                  · obtain ⟨a1, a2, a3, _, a4⟩ := (q4 k hlt).2
                    rw [HE4.out] at a3
                    injection a3 with a5 _ _
                    obtain ⟨a6, a7, _, a8⟩ := a4 (by omega)
                    exact ⟨a6, by rw [a5, a7], a8 i hlt4⟩
                have hc1 := (cells _ hSe).1
                by_cases hlt3 : i < (C k).length + 64
                · have HMk := Lib.hid (markText_any k i)
                  have HSe := Lib.hid hSe
                  have hlt3' : (i : Int) < ((C k).length : Int) + 64 := by omega
                  clear hSe
                  go_wp2_with fail
                  refine (HMk.out _).mono ?_
                  rintro e w2 ⟨rfl, hb2⟩
                  have hSe2 := HSe.out.keep hb2
                  obtain ⟨hd1, hd2, hd3, hd4⟩ := cells _ hSe2
                  have hd3' := hd3 hlt3
                  have HSe2 := Lib.hid hSe2
                  have hBe2 : Below B w0 w2 := hBe.trans (hb2.mono (by have h1 := hBe.size; have := HB0.out; omega))
                  by_cases hlt4 : i < (C k).length
                  · obtain ⟨ad4, rfl, hd5⟩ := hd4 hlt4
                    clear hd3 hd4 hSe2 cells hb2 HSe hc1 hBe
                    generalize mkText k i = x at hd3' hd5
                    go_wp2
                    go_roundw
                    case rel => exact ⟨i + 1, by omega, by go_num, HSe2.out, hBe2⟩
                    case measure => simp [intOf]; omega
                  · clear hd3 hd4 hSe2 cells hb2 HSe hc1 hBe
                    generalize mkText k i = x at hd3'
                    go_wp2
                    go_roundw
                    case rel => exact ⟨i + 1, by omega, by go_num, HSe2.out, hBe2⟩
                    case measure => simp [intOf]; omega
                · obtain rfl : i = (C k).length + 64 := by omega
                  clear cells
                  have HSe := Lib.hid hSe
                  clear hSe
                  go_wp2
                  go_roundw
                  case rel => exact ⟨k + 1, by omega, by go_num, HSe.out, hBe⟩
                  case measure => simp [intOf]; omega
            · obtain rfl : m = k := by omega
              go_wp2
              go_ret
              exact ⟨rfl, hBe⟩
end Go.Proofs.YtccnfklemalmeaaDoor
