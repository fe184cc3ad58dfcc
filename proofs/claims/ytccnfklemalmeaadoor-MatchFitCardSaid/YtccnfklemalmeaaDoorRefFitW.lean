/- The document's Fit by contract. -/
import Derived.Test.YtccnfklemalmeaaDoorRefFitU
import Derived.Deep.DeepCutAuto
set_option linter.unusedVariables false
set_option linter.unusedSimpArgs false
set_option maxRecDepth 100000
namespace Go.Proofs.YtccnfklemalmeaaDoor
open Go.RowKit Go.Shelf

theorem ba_beq (a b : ByteArray) : (a == b) = decide (a.data = b.data) := by
  cases a with | mk x => cases b with | mk y =>
  show (x == y) = _
  rw [Bool.eq_iff_iff]; simp
theorem txt_ne (a b : ByteArray) : (a != b) = !decide (a.toList = b.toList) := by
  have q : (a == b) = decide (a.toList = b.toList) := by
    rw [ba_beq, ByteArray.toList_eq, ByteArray.toList_eq]
    simp [Array.toList_inj]
  simp [bne, q]
/-- What the document answers where nothing is unlike. -/
theorem fit_like {p q : Int} {x y : Nt} {zs : List ByteArray} {tol : Int} {R : Int × Bool} (h1 : Hid (x.receive = false)) (h2 : Hid (y.receive = true)) (h3 : Hid (x.cancel = false)) (h4 : Hid (y.cancel = false)) (h5 : Hid ((x.trade != y.trade) = false)) (h6 : Hid ((x.settle != y.settle) = false)) (h7 : Hid (sameCode x.code y.code = true)) (h8 : Hid ((x.qty != y.qty) = false)) (h9 : Hid (x.pay = y.pay)) (hF : Hid (fitE p q x y zs tol = R)) :
    ((x.account != y.other || x.other != y.account || !isB zs q x.agent || !isB zs p y.agent) = true → R = (0, false)) ∧ ((x.account != y.other || x.other != y.account || !isB zs q x.agent || !isB zs p y.agent) = false → (x.pay = false → R = (0, true)) ∧ (x.pay = true → R = if (x.currency != y.currency || !nearB x.amount y.amount tol) then (0, false) else (x.amount, true))) := by
  have hu : unlike x y = false := by unfold unlike; simp [h1.out, h2.out, h3.out, h4.out, h5.out, h6.out, h7.out, h8.out, h9.out]
  have hF := hF.out
  unfold fitE at hF
  rw [hu] at hF
  subst hF
  refine ⟨fun h => ?_, fun h => ⟨fun hp => ?_, fun hp => ?_⟩⟩
  · rw [if_neg (by simp), if_pos (by simpa using h)]
  · rw [if_neg (by simp), if_neg (by simpa using h), if_pos (by simp [hp])]
  · rw [if_neg (by simp), if_neg (by simpa using h), if_neg (by simp [hp])]
set_option maxHeartbeats 16000000 in
theorem refFit_like (p q : Int) (x y : Nt) (A : Option Addr) (n c : Nat) (zs : List ByteArray) (tol : Int) (w : World) (hp : I64 p) (hq : I64 q) (hx : x.wf) (hy : y.wf) (ht : I64 tol) (hr : RdT w A n zs) (hsh : Short zs) (hn : n ≤ 140737488351232) (h1 : x.receive = false) (h2 : y.receive = true) (h3 : x.cancel = false) (h4 : y.cancel = false) (h5 : (x.trade != y.trade) = false) (h6 : (x.settle != y.settle) = false) (h7 : sameCode x.code y.code = true) (h8 : (x.qty != y.qty) = false) (h9 : x.pay = y.pay) :
    Calls Tryd.prog 27 #[sideV p x, sideV q y, .slice A n c, .int .i64 tol] w fun e w' => e = .returned (.tuple #[.int .i64 (fitE p q x y zs tol).1, .bool (fitE p q x y zs tol).2]) ∧ Below w.heap.size w w' := by
  generalize hF : fitE p q x y zs tol = R
  have HF := Lib.hid hF
  clear hF
  rw [sideV_agg, sideV_agg]
  have L1 := Lib.hid (load_note p x ((w.alloc (.cells (sideC p x) 59)).alloc (.cells (sideC q y) 59)) w.heap.size _ (heap_alloc2_old w _ _))
  have L2 := Lib.hid (load_note q y (((w.alloc (.cells (sideC p x) 59)).alloc (.cells (sideC q y) 59)).alloc (.cells (noteC x) 57)) (w.heap.size + 1) _ (by rw [heap_alloc_old _ _ (by simp)]; exact heap_alloc2_new w _ _))
  have S1 := Lib.hid (store_note x)
  have S2 := Lib.hid (store_note y)
  have c0 : (sideC p x)[0]? = some (.int .i64 p) := rfl
  have d0 : (sideC q y)[0]? = some (.int .i64 q) := rfl
  generalize sideC p x = C at L1 L2 c0 ⊢
  generalize sideC q y = D at L1 L2 d0 ⊢
  obtain ⟨a2, a3, a4, a5, a6, a19, a20, a21, a22, a23, a24⟩ := note_cells x
  obtain ⟨b2, b3, b4, b5, b6, b19, b20, b21, b22, b23, b24⟩ := note_cells y
  have K1 := Lib.hid (load_code x)
  have K2 := Lib.hid (load_code y)
  have hcn := Lib.hid (fun w => code_neq x.code y.code hx.code hy.code w)
  generalize noteC x = NX at L1 L2 S1 K1 a2 a3 a4 a5 a6 a19 a20 a21 a22 a23 a24
  generalize noteC y = NY at L2 S2 K2 b2 b3 b4 b5 b6 b19 b20 b21 b22 b23 b24
  go_enter Tryd.func27, Tryd.ntmps27
  go_upto_region 1 with fail
  go_upto_region 2 with (first | (refine wpList_load_known rfl 57 _ rfl _ _ rfl L1.out ?_) | (refine wpList_store_known rfl 57 _ _ rfl _ _ rfl rfl (S1.out _ _ (by simp) _ rfl _) ?_))
  go_upto_region 3 with (first | (refine wpList_load_known rfl 57 _ rfl _ _ rfl L2.out ?_) | (refine wpList_store_known rfl 57 _ _ rfl _ _ rfl rfl (S2.out _ _ (by simp) _ rfl _) ?_))
  clear L1 L2 S1 S2
  have KL1 := Lib.hid (K1.out ((((w.alloc (.cells C 59)).alloc (.cells D 59)).alloc (.cells NX 57)).alloc (.cells NY 57)) (w.heap.size + 1 + 1) _ (by rw [heap_alloc_old _ _ (by simp)]; exact heap_at _ _ _ (by simp)))
  have KL2 := Lib.hid (K2.out ((((w.alloc (.cells C 59)).alloc (.cells D 59)).alloc (.cells NX 57)).alloc (.cells NY 57)) (w.heap.size + 1 + 1 + 1) _ (heap_at _ _ _ (by simp)))
  have g1 := Lib.hid h1
  have g2 := Lib.hid h2
  have g3 := Lib.hid h3
  have g4 := Lib.hid h4
  have g5 := Lib.hid h5
  have g6 := Lib.hid h6
  have g7 := Lib.hid h7
  have g8 := Lib.hid h8
  have g9 := Lib.hid h9
  rw [h1] at a3
  rw [h2] at b3
  rw [h3] at a2
  rw [h4] at b2
  have hcc := hcn.out
  rw [h7] at hcc
  clear h1 h2 h3 h4
  have G5 := Lib.hid h5
  have hqp : Hid (y.pay = x.pay) := Lib.hid h9.symm
  rw [← h9] at b4
  clear h9
  have HB4 : Hid (Below w.heap.size w ((((w.alloc (.cells C 59)).alloc (.cells D 59)).alloc (.cells NX 57)).alloc (.cells NY 57))) := Lib.hid (bl_alloc (bl_alloc (bl_alloc (bl_alloc (bl_refl w) _) _) _) _)
  go_upto_region 5 with (first | (refine wpList_load_guarded 54 _ rfl _ _ rfl KL1.out (by rfl) ?_) | (refine wpList_load_guarded 54 _ rfl _ _ rfl KL2.out (by rfl) ?_))
  have HR := Lib.hid hr
  have HSH := Lib.hid hsh
  have hxa := hx.agent
  have hya := hy.agent
  have hxm := hx.amount
  have hym := hy.amount
  clear hr hsh hx hy a2 a3 a5 a6 a19 b2 b3 b4 b5 b6 b19 K1 K2 KL1 KL2 hcn hcc
  clear h5 h6 h7 h8
  go_cut [95] (fun cc wx => cc = .bool (x.account != y.other || x.other != y.account || !isB zs q x.agent || !isB zs p y.agent) ∧ Below ((((w.alloc (.cells C 59)).alloc (.cells D 59)).alloc (.cells NX 57)).alloc (.cells NY 57)).heap.size ((((w.alloc (.cells C 59)).alloc (.cells D 59)).alloc (.cells NX 57)).alloc (.cells NY 57)) wx)
  case first =>
    generalize hv3 : isB zs q x.agent = v3
    generalize hv4 : isB zs p y.agent = v4
    have H3 := Lib.hid hv3
    have H4 := Lib.hid hv4
    clear hv3 hv4
    go_wp2_with (first | (go_at_call 54; (with_reducible refine (is22_at A n c zs q x.agent H3.out HB4.out HR.out HSH.out hxa hn).mono ?_); rintro e w1 ⟨rfl, hb1⟩; obtain ⟨kc1, kf1⟩ := bcell hb1; have HB5 := Lib.hid (bl_then HB4.out hb1); have hb1' := Lib.hid hb1; clear hb1) | (go_at_call 54; (with_reducible refine (is22_at A n c zs p y.agent H4.out HB5.out HR.out HSH.out hya hn).mono ?_); rintro e w2 ⟨rfl, hb2⟩; have HB6 := Lib.hid (bl_then hb1'.out hb2); clear hb2))
    all_goals go_meet
    all_goals refine ⟨?_, ?_⟩
    all_goals first | exact HB6.out | exact hb1'.out | exact bl_refl _ | (simp only [txt_ne, *]; simp only [decide_true, decide_false, Bool.not_true, Bool.not_false, Bool.true_or, Bool.or_true, Bool.false_or, Bool.or_false]; done) | (have k3 := H3.out; have k4 := H4.out; simp only [txt_ne, k3, k4]; simp [*]; done)
  case rest =>
    obtain ⟨rfl, hbx⟩ := hcut
    obtain ⟨kc, kf⟩ := bcell hbx
    have HBX := Lib.hid (bl_then HB4.out hbx)
    clear hbx HR HSH
    have HF2 := Lib.hid (fit_like g1 g2 g3 g4 g5 g6 g7 g8 g9 HF)
    generalize (x.account != y.other || x.other != y.account || !isB zs q x.agent || !isB zs p y.agent) = bad at HF2 ⊢
    have hun := HF2.out
    clear HF2 g1 g2 g3 g4 g5 g6 g7 g8 g9
    cases bad with
    | true =>
      have hr2 := Lib.hid (hun.1 rfl)
      clear hun
      go_wp2
      go_ret2
      exact ⟨by rw [hr2.out]; rfl, HBX.out⟩
    | false =>
      have hun2 := hun.2 rfl
      clear hun
      cases hp5 : x.pay with
      | false =>
        rw [hp5] at a4
        have hr2 := Lib.hid (hun2.1 hp5)
        clear hun2 hp5
        go_wp2
        go_ret2
        exact ⟨by rw [hr2.out]; rfl, HBX.out⟩
      | true =>
        rw [hp5] at a4
        have hun3 := Lib.hid (hun2.2 hp5)
        clear hun2 hp5
        generalize hv3 : nearB x.amount y.amount tol = v3 at hun3
        have H6 := Lib.hid hv3
        clear hv3
        go_wp2_with (go_at_call 55; (with_reducible refine (refNear_at x.amount y.amount tol H6.out hxm hym ht _).mono ?_); rintro e w3 ⟨rfl, rfl⟩)
        go_ways
        all_goals go_ret2
        all_goals refine ⟨?_, HBX.out⟩
        all_goals rw [hun3.out]
        all_goals simp only [txt_ne]
        all_goals first | (rw [if_pos (by simp [*])]; rfl) | (rw [if_neg (by simp [*])]; rfl)
theorem refFit_any (p q : Int) (x y : Nt) (A : Option Addr) (n c : Nat) (zs : List ByteArray) (tol : Int) (w : World) (hp : I64 p) (hq : I64 q) (hx : x.wf) (hy : y.wf) (ht : I64 tol) (hr : RdT w A n zs) (hsh : Short zs) (hn : n ≤ 140737488351232) :
    Calls Tryd.prog 27 #[sideV p x, sideV q y, .slice A n c, .int .i64 tol] w fun e w' => e = .returned (.tuple #[.int .i64 (fitE p q x y zs tol).1, .bool (fitE p q x y zs tol).2]) ∧ Below w.heap.size w w' := by
  cases hu : unlike x y with
  | true => exact refFit_unlike p q x y A n c zs tol w hp hq hx hy ht hr hsh hn hu
  | false =>
    unfold unlike at hu
    simp only [Bool.or_eq_false_iff, Bool.not_eq_false'] at hu
    obtain ⟨⟨⟨⟨⟨⟨⟨⟨h1, h2⟩, h3⟩, h4⟩, h5⟩, h6⟩, h7⟩, h8⟩, h9⟩ := hu
    exact refFit_like p q x y A n c zs tol w hp hq hx hy ht hr hsh hn h1 h2 h3 h4 h5 h6 h7 h8 (by simpa using h9)
end Go.Proofs.YtccnfklemalmeaaDoor
