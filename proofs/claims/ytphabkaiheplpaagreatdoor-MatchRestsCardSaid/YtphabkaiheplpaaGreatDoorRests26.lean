/- Joined texts of this proof: BkOp. -/
import Derived.Test.YtphabkaiheplpaaGreatDoorRests22
import Derived.Test.YtphabkaiheplpaaGreatDoorRests25
/- (*match.Book).Open. -/
set_option linter.unusedVariables false
set_option linter.unusedSimpArgs false
set_option maxRecDepth 100000
namespace Go.Proofs.YtphabkaiheplpaaGreatDoor
open Go.RowKit Go.Shelf Go.Maps

/-- The open sides among the first k. -/
def openTo (es : List Ent) (k : Nat) : List Nat := (List.range k).filter fun i => openB (es.getD i ent0)
def openL (es : List Ent) : List Nat := openTo es es.length
theorem open_next (es : List Ent) (k : Nat) : openTo es (k + 1) = openTo es k ++ (if openB (es.getD k ent0) then [k] else []) := by
  unfold openTo
  rw [List.range_succ, List.filter_append, List.filter_cons, List.filter_nil]
theorem openTo_le (es : List Ent) (k : Nat) : (openTo es k).length ≤ k := by
  unfold openTo
  exact Nat.le_trans (List.length_filter_le _ _) (by simp)
theorem block_made {W : World} {S Z : Array Value} {T : TypeId} {motive : World → Prop} (h : ∀ W1 : World, Below W.heap.size W W1 → W1.heap[W.heap.size]? = some (.cells S T (0, 0)) → motive W1) : motive ((W.alloc (.cells Z T)).setRow W.heap.size S) :=
  h _ (bl_setRow (bl_alloc (bl_refl W) _) (Nat.le_refl _) _) (setRow_heap _ _ _ _ _ _ (heap_alloc_new W _))
theorem entry_size : (Tryz.prog.info? 93).map (·.size) = some 31 := by kernel_rfl
theorem entry_desc : (match Tryz.prog.underlying 93 with | some (.struct _) => true | _ => false) = true := by kernel_rfl
theorem load_entry {W : World} {base eg n ec : Nat} {es : List Ent} (h : W.ownsRow base 93 31 (.slice (some ⟨eg, 0, none⟩) n ec) n (es.flatMap entC)) (hn : es.length = n) {d : Nat} (hd : d < es.length) :
    (loadVar 93 ⟨eg, d * 31, none⟩).run Tryz.prog W = .ok (.agg (entC (es.getD d ent0)).toArray) W := by
  have hdesc := entry_desc
  cases hu : Tryz.prog.underlying 93 with
  | none => rw [hu] at hdesc; cases hdesc
  | some dd =>
    rw [hu] at hdesc
    exact loadVar_part Tryz.prog W eg (d * 31) 93 (entC (es.getD d ent0)) dd hu (by cases dd <;> simp_all) (by rw [entry_size, entC_length]) (fun j v hv => by
      have hj : j < 31 := (List.getElem?_eq_some_iff.1 hv).1
      rw [h.cellAt (d * 31 + j) (by omega), ents_at es d j hd (by omega)]
      exact hv)
theorem store_entry (e : Ent) (Z : Array Value) (hz : Z.size = 31) (W : World) (g : Nat) (T : TypeId) (hg : W.heap[g]? = some (.cells Z T (0, 0))) : (storeVar 93 ⟨g, 0, none⟩ (.agg (entC e).toArray)).run Tryz.prog W = .ok () (W.setRow g (entC e).toArray) :=
  run_storeVar_row W g T _ Z (entC e).toArray hg (by rw [entry_size]; rfl) (by rw [hz]; rfl) (by
    rw [Array.all_eq_true_iff_forall_mem]
    intro u hu
    exact entC_one e u (by simpa using hu))
theorem cells_one' {W : World} {g : Nat} {v0 : Value} {T : TypeId} (h : W.heap[g]? = some (.cells #[v0] T (0, 0))) : ∀ j u, [v0][j]? = some u → W.cell? ((⟨g, 0, none⟩ : Addr).add j) = some u := by
  intro j u hj
  rw [Addr.add_lit, Nat.zero_add, cell_of_row W g j _ _ _ h]
  simpa using hj
set_option maxHeartbeats 8000000 in
set_option maxRecDepth 1000000 in
theorem open_any {F : Nat → Prop} {W : World} {b : Nat} {zs : List ByteArray} {tol : Int} {es : List Ent} {ps : List Pr} (hB : BkI F W b zs tol es ps) (hel : es.length ≤ 1000000000000) :
    Calls Tryz.prog 36 #[.pointer (some ⟨b, 0, none⟩)] W fun e w' => ∃ v, e = .returned v ∧ w'.ownsRow W.heap.size 3 1 v (openL es).length ((openL es).map natV) ∧ Below W.heap.size W w' := by
  obtain ⟨i0, hi, hz0, hz1, hz2⟩ := Sp.info_of Sp.A_infoI
  obtain ⟨tv, ev, pv, m1, m2, ws, HM, HR, HS, HW, hF⟩ := hB
  obtain ⟨EA, ec, hev⟩ := ow_slice HM.rE
  subst hev
  have hBK := HM.book
  have c2 : W.cell? ⟨b, 2, none⟩ = some (.slice EA es.length ec) := cell_of_row W b 2 _ _ _ hBK
  have HE := Lib.hid HM.rE
  have HPL := Lib.hid hel
  clear HM HR HS HW hF hBK hel
  go_enter Tryz.func36, Tryz.ntmps36
  go_wp2
  go_loopg [3, 4, 5, 11] es.length (fun g v v4 v5 vi wr => ∃ (k : Nat), vi = .int .i64 k ∧ k ≤ es.length ∧ es.length - k ≤ g ∧ Hid (wr.ownsRow W.heap.size 3 1 v (openTo es k).length ((openTo es k).map natV)) ∧ Hid (Below W.heap.size W wr))
  case atStart => exact ⟨0, rfl, by omega, by omega, Lib.hid (ow_nil _ _ _ _), Lib.hid (bl_refl W)⟩
  case round =>
    obtain ⟨k, rfl, hk, hg, OW, HB⟩ := hrel
    obtain ⟨A1, c1, e1⟩ := ow_slice OW.out
    subst e1
    by_cases hlt : k < es.length
    · have hltz : (k : Int) < (es.length : Int) := by omega
      have HP1 := Lib.hid (ow_none HE.out (gb_below HB.out))
      obtain ⟨eg, rfl⟩ := own_addr HP1.out (by omega)
      have LD := Lib.hid (load_entry HP1.out rfl hlt)
      have hk63 : (k : Int) + 1 ≤ 2000000000000 := by have := HPL.out; omega
      have NX := Lib.hid (open_next es k)
      have HKL := Lib.hid (openTo_le es k)
      generalize es.getD k ent0 = q at LD NX
      have ST := Lib.hid (fun (Z : Array Value) (hz : Z.size = 31) => store_entry q Z hz (wr.alloc (.cells Z 93)) wr.heap.size 93 (heap_alloc_new wr _))
      have K28 := Lib.hid (show (entC q).toArray[28]? = some (.int .i64 q.pair) ∧ (entC q).toArray[30]? = some (.bool q.gone) from ⟨rfl, rfl⟩)
      generalize (entC q).toArray = EQ at LD ST K28
      clear HP1
      go_upto_region 5 with (first | (refine wpList_load_known rfl 93 (.tmp 14) rfl ⟨eg, k * 31, none⟩ (.agg EQ) rfl LD.out ?_) | (refine wpList_store_plain rfl rfl 93 (.tmp 5) (.tmp 15) rfl ⟨wr.heap.size, 0, none⟩ (.agg EQ) rfl rfl (ST.out _ rfl) ?_))
      clear LD ST
      refine block_made (motive := fun W => Code.wp _ _ _ _ W) ?_
      intro W3 hb3 g3
      have HB3 := Lib.hid (bl_then HB.out hb3)
      have OW3 := Lib.hid (ow_none OW.out (gb_below hb3))
      generalize wr.heap.size = N at g3 ⊢
      have d1 : W3.cell? ⟨N, 28, none⟩ = some (.int .i64 q.pair) := (cell_of_row W3 N 28 _ _ _ g3).trans K28.out.1
      have d2 : W3.cell? ⟨N, 30, none⟩ = some (.bool q.gone) := (cell_of_row W3 N 30 _ _ _ g3).trans K28.out.2
      clear HB OW hb3 g3 K28
      cases hgo : q.gone with
      | true =>
        rw [hgo] at d2
        have NX2 : Hid (openTo es (k + 1) = openTo es k) := Lib.hid (by rw [NX.out]; simp [openB, hgo])
        clear NX
        go_wp2
        go_roundg (es.length - (k + 1))
        case measure => omega
        case rel => exact ⟨k + 1, by go_num, by omega, by omega, Lib.hid (by rw [NX2.out]; exact OW3.out), HB3⟩
      | false =>
        rw [hgo] at d2
        by_cases hp : q.pair < 0
        · have NX2 : Hid (openTo es (k + 1) = openTo es k ++ [k]) := Lib.hid (by rw [NX.out]; simp [openB, hgo, hp])
          clear NX
          generalize openTo es k = L at NX2 OW3 HKL ⊢
          go_wp2_with (at_builtin; have HB4 := Lib.hid (bl_alloc HB3.out (.cells #[.int .i64 (k : Int)] 3)); have OW4 := Lib.hid (ow_none OW3.out (gb_below (bl_alloc (bl_refl W3) (.cells #[.int .i64 (k : Int)] 3)))); have HC4 := Lib.hid (heap_alloc_new W3 (.cells #[.int .i64 (k : Int)] 3)); clear HB3 OW3 d1 d2; generalize W3.alloc (.cells #[.int .i64 (k : Int)] 3) = W4 at HB4 OW4 HC4 ⊢; generalize W3.heap.size = N4 at HC4 ⊢; refine wpList_append_new rfl (.tmp 24) (.tmp 26) 94 rfl W.heap.size 3 i0 (.int .i64 0) 1 8 Tryz.underlying94 hi hz0 hz1 hz2 rfl (by decide) (.slice A1 L.length c1) L.length (L.map natV) rfl OW4.out ⟨N4, 0, none⟩ 1 1 [natV k] rfl rfl (cells_one' HC4.out) (by simp [natV, Value.oneCell']) (by have := HKL.out; have := HPL.out; unfold maxLen; omega) (by have := HKL.out; have := HPL.out; omega) HB4.out.size (by decide) ?_; intro v' W5 hown hgrow hnew; have HB5 := Lib.hid (below_grown HB4.out OW4.out hgrow HB4.out.size); have OW5 := Lib.hid hown; clear hown hgrow hnew HB4 OW4 HC4)
          go_roundg (es.length - (k + 1))
          case measure => omega
          case rel => exact ⟨k + 1, by go_num, by omega, by omega, Lib.hid (by rw [NX2.out, List.map_append, List.length_append]; exact OW5.out), HB5⟩
        · have NX2 : Hid (openTo es (k + 1) = openTo es k) := Lib.hid (by rw [NX.out]; simp [openB, hgo, hp])
          clear NX
          go_wp2
          go_roundg (es.length - (k + 1))
          case measure => omega
          case rel => exact ⟨k + 1, by go_num, by omega, by omega, Lib.hid (by rw [NX2.out]; exact OW3.out), HB3⟩
    · have e0 : k = es.length := by omega
      subst e0
      have OWF : Hid (wr.ownsRow W.heap.size 3 1 (.slice A1 (openTo es es.length).length c1) (openL es).length ((openL es).map natV)) := OW
      generalize (openTo es es.length).length = NL at OWF
      clear OW
      go_wp2
      go_ret
      exact ⟨_, rfl, OWF.out, HB.out⟩
end Go.Proofs.YtphabkaiheplpaaGreatDoor
