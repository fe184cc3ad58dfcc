/- Joined texts of this proof: BkCd. -/
import Derived.Test.YtphabkaiheplpaaGreatDoorRests31
import Derived.Test.YtphabkaiheplpaaGreatDoorRests38
/- (*match.Book).Cancel over a book. -/
set_option linter.unusedVariables false
set_option linter.unusedSimpArgs false
set_option maxRecDepth 100000
namespace Go.Proofs.YtphabkaiheplpaaGreatDoor
open Go.RowKit Go.Shelf Go.Maps

theorem openB_pair {e : Ent} (h : ¬ e.pair < 0) : openB e = false := by
  unfold openB
  rw [decide_eq_false h, Bool.and_false]
/-- A flag of an entry in a pair changes nothing in who waits. -/
theorem wl_flag {zs : List ByteArray} {es : List Ent} {d : Nat} {e : Ent} (hd : d < es.length) (hp : e.p = (es.getD d ent0).p) (hx : e.x = (es.getD d ent0).x) (hpr : e.pair = (es.getD d ent0).pair) (hn : ¬ (es.getD d ent0).pair < 0) (f : Fc) : wl zs (es.set d e) f = wl zs es f :=
  wl_keep zs es d e f (by rw [openB_pair hn, openB_pair (by rw [hpr]; exact hn)]) hp hx hd
structure Kept (zs : List ByteArray) (es : List Ent) (es' : List Ent) : Prop where
  wl_ : ∀ f, wl zs es' f = wl zs es f
  nm : nmOf es' = nmOf es
  len : es'.length = es.length
theorem Kept.step {zs : List ByteArray} {es0 es : List Ent} (h : Kept zs es0 es) {d : Nat} {e : Ent} (hd : d < es.length) (hp : e.p = (es.getD d ent0).p) (hx : e.x = (es.getD d ent0).x) (hpr : e.pair = (es.getD d ent0).pair) (hn : ¬ (es.getD d ent0).pair < 0) : Kept zs es0 (es.set d e) :=
  ⟨fun f => (wl_flag hd hp hx hpr hn f).trans (h.wl_ f), (nmOf_flag hd hp hx).trans h.nm, by rw [List.length_set]; exact h.len⟩
theorem cancel_pair {zs : List ByteArray} {es : List Ent} {ps : List Pr} {i : Nat} (HS : StOk zs es ps) (hpin : PairsIn es ps) (hi : i < es.length) (hg : (es.getD i ent0).gone = false) (hp : ¬ (es.getD i ent0).pair < 0) :
    (cancelAt es ps i).1 = 0 ∧ StOk zs (cancelAt es ps i).2.2.1 (cancelAt es ps i).2.2.2 ∧ Kept zs es (cancelAt es ps i).2.2.1 ∧ (cancelAt es ps i).2.2.2.length = ps.length := by
  obtain ⟨m, hm⟩ : ∃ m : Nat, (es.getD i ent0).pair = (m : Int) := ⟨(es.getD i ent0).pair.toNat, by omega⟩
  have hmp : m < ps.length := by
    have := (HS.ent _ (getD_mem hi)).2.2.2.2.2.1
    omega
  have k0 : Kept zs es es := ⟨fun _ => rfl, rfl, rfl⟩
  have s1 := HS.flag (e := { es.getD i ent0 with asked := true }) hi rfl rfl rfl rfl
  have k1 := k0.step (e := { es.getD i ent0 with asked := true }) hi rfl rfl rfl hp
  have hq := HS.prs _ (pr_mem hmp)
  have hpn := hpin m hmp
  have hp1 : ∀ j, 0 ≤ (es.getD j ent0).pair → 0 ≤ ((es.set i { es.getD i ent0 with asked := true }).getD j ent0).pair := fun j hj => by
    rw [set_getD hi]
    split
    · rename_i h1; subst h1; exact hj
    · exact hj
  obtain ⟨q, hQ⟩ : ∃ q, q = ps.getD m pr0 := ⟨_, rfl⟩
  obtain ⟨e1, hE⟩ : ∃ e1, e1 = es.set i { es.getD i ent0 with asked := true } := ⟨_, rfl⟩
  have hc : cancelAt es ps i = if ((e1.getD q.d ent0).asked && (e1.getD q.r ent0).asked) = true then (0, true, (e1.set q.d { e1.getD q.d ent0 with gone := true }).set q.r { (e1.set q.d { e1.getD q.d ent0 with gone := true }).getD q.r ent0 with gone := true }, ps.set m { q with gone := true }) else (0, false, e1, ps) := by
    subst hQ hE
    unfold cancelAt
    rw [if_neg (by rw [hg]; decide), if_neg hp, hm, Int.toNat_natCast]
  rw [hc]
  clear hc
  rw [← hQ] at hq hpn
  rw [← hE] at s1 k1 hp1
  have hd1 : q.d < e1.length := by rw [k1.len]; exact hq.1
  have hr1 : q.r < e1.length := by rw [k1.len]; exact hq.2.1
  split
  · have s2 := s1.flag (e := { e1.getD q.d ent0 with gone := true }) hd1 rfl rfl rfl rfl
    have k2 := k1.step (e := { e1.getD q.d ent0 with gone := true }) hd1 rfl rfl rfl (by have := hp1 q.d hpn.1; omega)
    have hp2 : 0 ≤ ((e1.set q.d { e1.getD q.d ent0 with gone := true }).getD q.r ent0).pair := by
      rw [set_getD hd1]
      split
      · rename_i h1; exact hp1 q.d hpn.1
      · exact hp1 q.r hpn.2
    generalize e1.set q.d { e1.getD q.d ent0 with gone := true } = e2 at *
    have hr2 : q.r < e2.length := by rw [k2.len]; exact hq.2.1
    have s3 := s2.flag (e := { e2.getD q.r ent0 with gone := true }) hr2 rfl rfl rfl rfl
    have k3 := k2.step (e := { e2.getD q.r ent0 with gone := true }) hr2 rfl rfl rfl (by omega)
    refine ⟨rfl, ?_, k3, by simp⟩
    refine ⟨fun e he => ?_, fun q' hq' => ?_, s3.nodup⟩
    · show _ ∧ _ ∧ _ ∧ _ ∧ _ ∧ e.pair < ((ps.set m { q with gone := true }).length : Int) ∧ _
      rw [List.length_set]; exact s3.ent e he
    · rcases mem_set_of hq' with rfl | hq'
      · show q.d < _ ∧ q.r < _ ∧ I64 q.a
        rw [k3.len]; exact hq
      · exact s3.prs q' hq'
  · exact ⟨rfl, s1, k1, rfl⟩
theorem cancel_any {F : Nat → Prop} {W : World} {b : Nat} {zs : List ByteArray} {tol : Int} {es : List Ent} {ps : List Pr} {p : Int} {r : ByteArray} (hB : BkI F W b zs tol es ps) (hpin : PairsIn es ps) (hp : I64 p) (hr : r.size ≤ 140737488351232) (hsh : Short zs) (hpw : PowT W) (hpf : PowFree F) (hzl : zs.length ≤ 140737488351232) (hel : es.length ≤ 1000000000000) :
    Calls Tryz.prog 13 #[.pointer (some ⟨b, 0, none⟩), .int .i64 p, .string r] W (CanOut F W b zs tol es ps p r) := by
  have hB2 := hB
  obtain ⟨tv, ev, pv, m1, m2, ws, HM, HR, HS, HW, hF⟩ := hB
  refine cancel_walk HM HR HS HW hp hr hsh hpw hpf hzl hel (fun w' htw hb => .inl ⟨htw, ⟨_, rfl, rfl, by simp, rfl⟩, hB2.grow hb, hb⟩) (fun i w' hi hip hir htw hg hb => .inr ⟨htw, i, hi, hip, hir, .inl ?_⟩)
    (fun i j i0 q v' w' hi hip hir htw hg hpr hq hs hlq hi0 hm hr' => .inr ⟨htw, i, hi, hip, hir, .inr ?_⟩) (fun i w' hi hip hir htw hg hpr hm hr' => .inr ⟨htw, i, hi, hip, hir, .inr ?_⟩)
  · have hc : cancelAt es ps i = (21, false, es, ps) := by unfold cancelAt; rw [if_pos hg]
    rw [hc]
    exact ⟨by show (21 : Int) ≠ 0; decide, ⟨_, rfl, rfl, by simp, rfl⟩, hB2.grow hb, hb⟩
  · have hc : cancelAt es ps i = (0, true, es.set i { es.getD i ent0 with gone := true }, ps) := by unfold cancelAt; rw [if_neg (by rw [hg]; decide), if_pos hpr]
    rw [hc]
    refine ⟨rfl, rfl, ?_, hm.low⟩
    have hnm : nmOf (es.set i { es.getD i ent0 with gone := true }) = nmOf es := nmOf_flag hi rfl rfl
    refine BkI.fin (es := es.set i { es.getD i ent0 with gone := true }) (by rw [hnm]; exact hm) hr' (HS.flag hi rfl rfl rfl rfl) ?_ hF
    refine HW.shut hq hi0 (by rw [hlq]; exact wl_nodup _ _ _) v' (fun f hf => wl_shut zs es i _ f (by simp [openB]) hi) (fun f hf hsf hkf => ?_)
    have h2 := wl_face hkf
    rw [sameFace_trans hs h2] at hsf
    cases hsf
  · obtain ⟨h1, h2, h3, h4⟩ := cancel_pair HS hpin hi hg hpr
    refine ⟨h1, rfl, ?_, hm.low⟩
    exact BkI.fin (by rw [h3.nm]; exact hm) hr' h2 (HW.keep h3.wl_) hF
end Go.Proofs.YtphabkaiheplpaaGreatDoor
