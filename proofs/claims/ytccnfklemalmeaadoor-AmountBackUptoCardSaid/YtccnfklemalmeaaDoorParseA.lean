/- amount.Parse by its contract. -/
import Derived.Test.YtccnfklemalmeaaDoorParse
set_option linter.unusedVariables false
set_option linter.unusedSimpArgs false
set_option maxRecDepth 100000
namespace Go.Proofs.YtccnfklemalmeaaDoor
open Go.RowKit Go.Proofs.YtccnfklemalmeaaDoor.Tp Go.Proofs.YtccnfklemalmeaaDoor.PAmountTexts Go.Proofs.YtccnfklemalmeaaDoorW.PrintWords

theorem btn (s : ByteArray) (k : Nat) : ∀ h : k < s.size, ((s[k]'h).toNat : Int) = bt s k := fun h => by have := bt_at s (k : Int) (by simpa using h); simpa using this
theorem empty_list {s : ByteArray} {l : List UInt8} (h : s.data.toList = l) : s.toList.isEmpty = l.isEmpty := by rw [Lib.toList_data, h]
def pRab (A B : List UInt8) (t : Nat) : Int × Int :=
  if (A ++ B).all isD = true ∧ 0 < (A ++ B).length then
    if t < B.length then (0, 3)
    else match val ((A ++ B) ++ List.replicate (t - B.length) 48) 0 with
      | none => (0, 9)
      | some m => ((m : Int), 0)
  else (0, 6)
/-- The loop's head: k digits are read, their value is n, and the whole value stands. -/
def VRel (L : List UInt8) (R : Option Nat) (v i : Value) : Prop := ∃ k n : Nat, k ≤ L.length ∧ i = .int .i64 k ∧ v = .int .i64 n ∧ n ≤ 9223372036854775807 ∧ val (L.drop k) n = R
def PRetA (r : Int × Int) (w : World) (e : Ending) (w' : World) : Prop := ∃ E : GErr, e = .returned (.tuple #[.int .i64 r.1, E.val]) ∧ E.ok ∧ E.num = r.2 ∧ Below w.heap.size w w'
theorem ret2_ie {k : IntKind} {a b : Int} {v : Value} (h : a = b) : Ending.returned (.tuple #[.int k a, v]) = .returned (.tuple #[.int k b, v]) := by rw [h]
set_option maxHeartbeats 1000000 in
theorem amParse_good (s : ByteArray) (hs : s.size ≤ 1048576) (t : Nat) (ht : t ≤ 18) (w : World) : Calls Tryd.prog 47 #[.string s, .int .i64 t] w (PRetA (pR s.data.toList t) w) := by
  have HC := Lib.hid (fun w => cut_any s hs w)
  have hlen : (cutP s.data.toList).1.length + (cutP s.data.toList).2.length ≤ s.size := by
    rcases indexByte_cut s.data.toList with ⟨_, e⟩ | ⟨i, _, h, e⟩
    · rw [e]; simp
    · rw [e]; simp at h ⊢; omega
  have hR : Hid (pR s.data.toList t = pRab (cutP s.data.toList).1 (cutP s.data.toList).2 t) := Lib.hid rfl
  generalize pR s.data.toList t = r at hR ⊢
  have ha := bs_list (cutP s.data.toList).1
  have hb := bs_list (cutP s.data.toList).2
  have hza := bs_size (cutP s.data.toList).1
  have hzb := bs_size (cutP s.data.toList).2
  generalize bs (cutP s.data.toList).1 = a at HC ha hza
  generalize bs (cutP s.data.toList).2 = b at HC hb hzb
  generalize (cutP s.data.toList).1 = A at *
  generalize (cutP s.data.toList).2 = B at *
  have hx : (a ++ b).data.toList = A ++ B := by simp [ByteArray.data_append, ha, hb]
  have hxz : (a ++ b).size ≤ 1048576 := by rw [ByteArray.size_append]; omega
  have hzb2 : b.size ≤ 1048576 := by omega
  have hza2 : a.size ≤ 1048576 := by omega
  have HE := Lib.hid (empty_list hx)
  have HTr := Lib.hid (fun w => trim_any (a ++ b) hxz w)
  have HNo := Lib.hid (fun (hd : (a ++ b).data.toList.all isD = true) w => noPoint_any (a ++ b) hxz hd w)
  have HX := Lib.hid hx
  have HZB := Lib.hid hzb
  clear hx ha hb hza hzb hlen
  generalize hxx : a ++ b = x at HE HTr HNo HX hxz
  have HXX := Lib.hid hxx
  by_cases h1 : A ++ B = []
  · rw [h1] at HE
    have he : x.toList.isEmpty = true := by rw [HE.out]; rfl
    have hr : Hid (r = (0, 6)) := Lib.hid (by rw [hR.out]; unfold pRab; rw [if_neg (by rw [h1]; simp)])
    clear h1
    go_enter Tryd.func47, Tryd.ntmps47
    go_wp2_with fail
    refine (HC.out _).mono ?_
    rintro e w1 ⟨f, rfl, hb1⟩
    go_wp2
    go_ret2
    rw [hr.out]
    exact ⟨.amount _ 6, rfl, .inr (by simp [GErr.num]), rfl, hb1⟩
  · have he : x.toList.isEmpty = false := by
      rw [HE.out]
      cases hq : A ++ B with
      | nil => exact absurd hq h1
      | cons c q => rfl
    by_cases h2 : (A ++ B).all isD = true
    · have hl0 : 0 < (A ++ B).length := List.length_pos_iff.2 h1
      have ht0 : Hid (Lib.trimS x.data.toList digs = []) := Lib.hid ((trim_all _).2 (by rw [HX.out]; exact h2))
      have hR2 := hR.out
      unfold pRab at hR2
      rw [if_pos ⟨h2, hl0⟩] at hR2
      have HN := Lib.hid (fun w => HNo.out (by rw [HX.out]; exact h2) w)
      have hb0 : (bs ([] : List UInt8)).toList.isEmpty = true := by rw [empty_list (bs_list [])]; rfl
      clear HNo
      by_cases h3 : t < B.length
      · rw [if_pos h3] at hR2
        have hr := Lib.hid hR2
        have h3' : (t : Int) < (b.size : Int) := by have := HZB.out; omega
        clear hR2 h1 h3
        go_enter Tryd.func47, Tryd.ntmps47
        go_wp2_with fail
        refine (HC.out _).mono ?_
        rintro e w1 ⟨f, rfl, hb1⟩
        go_wp2_with fail
        refine (HTr.out _).mono ?_
        rw [ht0.out]
        rintro e w2 ⟨rfl, hb2⟩
        go_wp2_with fail
        refine (HN.out _).mono ?_
        rintro e w3 ⟨rfl, hb3⟩
        go_wp2
        go_ret2
        rw [hr.out]
        exact ⟨.no 3, rfl, .inr (by simp [GErr.num]), rfl, bl_then (bl_then hb1 hb2) hb3⟩
      · rw [if_neg h3] at hR2
        have h3' : ¬ (t : Int) < (b.size : Int) := by have := HZB.out; omega
        have HRp := Lib.hid (fun w => repeat0 (t - B.length) (by omega) w)
        have hcz : (t : Int) - (b.size : Int) = ((t - B.length : Nat) : Int) := by have := HZB.out; omega
        have hzl : (bs (List.replicate (t - B.length) 48)).size ≤ 18 := by rw [bs_size, List.length_replicate]; omega
        have hy : (x ++ bs (List.replicate (t - B.length) 48)).data.toList = (A ++ B) ++ List.replicate (t - B.length) 48 := by rw [ByteArray.data_append, Array.toList_append, HX.out]; simp [bs]
        have hyd : ((A ++ B) ++ List.replicate (t - B.length) 48).all isD = true := by
          rw [List.all_append, h2, Bool.true_and, List.all_eq_true]
          intro c hc
          rw [(List.mem_replicate.1 hc).2]
          decide
        have hyz : (x ++ bs (List.replicate (t - B.length) 48)).size = ((A ++ B) ++ List.replicate (t - B.length) 48).length := by rw [← hy]; simp
        have hyz2 : (x ++ bs (List.replicate (t - B.length) 48)).size ≤ 1048594 := by rw [ByteArray.size_append]; omega
        generalize (A ++ B) ++ List.replicate (t - B.length) 48 = L at *
        generalize bs (List.replicate (t - B.length) 48) = z at *
        generalize t - B.length = cc at *
        have HY := Lib.hid hy
        have HYZ := Lib.hid hyz
        have hr := Lib.hid hR2
        have HD := Lib.hid hyd
        have hv0 : Hid (∃ R, val L 0 = R) := Lib.hid ⟨_, rfl⟩
        clear hy hyz hR2 hyd h1 h2 h3 hR
        generalize hyy : x ++ z = y at *
        have HYY := Lib.hid hyy
        clear hyy hxx
        go_enter Tryd.func47, Tryd.ntmps47
        go_wp2_with fail
        refine (HC.out _).mono ?_
        rintro e w1 ⟨f, rfl, hb1⟩
        have hxx := HXX.out
        go_wp2_with fail
        refine (HTr.out _).mono ?_
        rw [ht0.out]
        rintro e w2 ⟨rfl, hb2⟩
        go_wp2_with fail
        refine (HN.out _).mono ?_
        rintro e w3 ⟨rfl, hb3⟩
        go_wp2_with fail
        refine (HRp.out _).mono ?_
        rintro e w4 ⟨rfl, hb4⟩
        have hyy := HYY.out
        go_wp2
        have hyl : y.size = L.length := HYZ.out
        clear hxx hyy
        go_loop [10, 56] (fun v i => VRel L (val L 0) v i) (fun _ i => y.size - (intOf i).toNat)
        case atStart => exact ⟨0, 0, by omega, rfl, rfl, by omega, by simp⟩
        case round =>
          obtain ⟨k, n, hk, rfl, rfl, hn, hval⟩ := hrel
          have HV := Lib.hid hval
          clear hval
          have hb14 := bl_then (bl_then (bl_then hb1 hb2) hb3) hb4
          by_cases hlt : k < y.size
          · obtain ⟨c, hc, hcb⟩ := bt_list y k hlt
            rw [HY.out] at hc
            have hcd := of_decide_eq_true (List.all_eq_true.1 HD.out c (List.mem_of_getElem? hc))
            have hdrop : L.drop k = c :: L.drop (k + 1) := by
              have hlt2 : k < L.length := by omega
              rw [List.getElem?_eq_getElem hlt2] at hc
              rw [List.drop_eq_getElem_cons hlt2]
              congr 1
              exact Option.some.inj hc
            have hbk := btn y k
            rw [hcb] at hbk
            have hvc := HV.out
            rw [hdrop, val] at hvc
            obtain ⟨d, hd⟩ : ∃ d : Nat, c.toNat = 48 + d := ⟨c.toNat - 48, by omega⟩
            rw [hd] at hbk hvc
            rw [show 48 + d - 48 = d by omega] at hvc
            have hd9 : d ≤ 9 := by omega
            clear hc hcb hcd hdrop hd
            by_cases hov : (9223372036854775807 - d) / 10 < n
            · rw [if_pos hov] at hvc
              have hr2 : Hid (r = (0, 9)) := Lib.hid (by rw [hr.out, ← hvc])
              have hov' : (9223372036854775807 - (d : Int)) / 10 < (n : Int) := by omega
              clear hvc hov
              go_wp2
              go_ret2
              rw [hr2.out]
              exact ⟨.amount _ 9, rfl, .inr (by simp [GErr.num]), rfl, hb14⟩
            · rw [if_neg hov] at hvc
              have HV2 := Lib.hid hvc
              have hov' : ¬ (9223372036854775807 - (d : Int)) / 10 < (n : Int) := by omega
              have hn2 : 10 * (n : Int) + (d : Int) ≤ 9223372036854775807 := by omega
              have hn3 : 10 * (n : Int) ≤ 9223372036854775807 := by omega
              clear hvc hov
              go_wp2
              go_round
              case rel => exact ⟨k + 1, 10 * n + d, by omega, by go_num, by go_num, by omega, HV2.out⟩
              case measure => simp [intOf]; omega
          · have hd : L.drop k = [] := List.drop_eq_nil_of_le (by omega)
            have hvc := HV.out
            rw [hd, val] at hvc
            have hr2 : Hid (r = ((n : Int), 0)) := Lib.hid (by rw [hr.out, ← hvc])
            clear hd hvc
            go_wp2
            go_ret2
            rw [hr2.out]
            exact ⟨.nil, rfl, .inl rfl, rfl, hb14⟩
    · have hr : Hid (r = (0, 6)) := Lib.hid (by rw [hR.out]; unfold pRab; rw [if_neg (fun h => h2 h.1)])
      have hb0 : (bs (Lib.trimS x.data.toList digs)).toList.isEmpty = false := by
        rw [empty_list (bs_list _)]
        cases hq : Lib.trimS x.data.toList digs with
        | nil =>
          have := (trim_all _).1 hq
          rw [HX.out] at this
          exact absurd this h2
        | cons c q => rfl
      clear h1 h2 HNo
      generalize bs (Lib.trimS x.data.toList digs) = z at HTr hb0
      go_enter Tryd.func47, Tryd.ntmps47
      go_wp2_with fail
      refine (HC.out _).mono ?_
      rintro e w1 ⟨f, rfl, hb1⟩
      go_wp2_with fail
      refine (HTr.out _).mono ?_
      rintro e w2 ⟨rfl, hb2⟩
      go_wp2
      go_ret2
      rw [hr.out]
      exact ⟨.amount _ 6, rfl, .inr (by simp [GErr.num]), rfl, bl_then hb1 hb2⟩
end Go.Proofs.YtccnfklemalmeaaDoor
