/- pointed: has a text a point? By its walk. -/
import Derived.Test.YtccnfklemalmeaaDoorBackPure
set_option linter.unusedVariables false
set_option linter.unusedSimpArgs false
set_option maxRecDepth 100000
namespace Go.Proofs.YtccnfklemalmeaaDoor
open Go.RowKit Go.Proofs.YtccnfklemalmeaaDoor.Tp Go.Proofs.YtccnfklemalmeaaDoorW.PrintWords

/-- No point among the first k bytes. -/
def NoPt (l : List UInt8) (k : Nat) : Prop := ∀ j, j < k → ∀ c, l[j]? = some c → c ≠ 46
theorem noPt_all {l : List UInt8} {k : Nat} (h : NoPt l k) (hk : l.length ≤ k) : decide ((46 : UInt8) ∈ l) = false := decide_eq_false fun hm => by
  obtain ⟨j, hj, e⟩ := List.mem_iff_getElem.1 hm
  exact h j (by omega) _ (List.getElem?_eq_getElem hj) e
theorem noPt_next {l : List UInt8} {k : Nat} {c : UInt8} (h : NoPt l k) (hc : l[k]? = some c) (hn : ¬ (c.toNat : Int) = 46) : NoPt l (k + 1) := fun j hj d hd e => by
  by_cases hjk : j < k
  · exact h j hjk d hd e
  · obtain rfl : j = k := by omega
    rw [hc] at hd
    injection hd with hd
    subst hd
    subst e
    exact hn rfl
theorem pt_found {l : List UInt8} {k : Nat} {c : UInt8} (hc : l[k]? = some c) (hn : (c.toNat : Int) = 46) : decide ((46 : UInt8) ∈ l) = true := decide_eq_true (by
  have : c = 46 := UInt8.toNat_inj.1 (by have : c.toNat = 46 := by omega
                                         rw [this]; rfl)
  rw [← this]
  exact List.mem_of_getElem? hc)
theorem pointed_any (s : ByteArray) (hs : s.size ≤ 1048576) (w : World) : Calls Tryd.prog 48 #[.string s] w fun e w' => e = .returned (.bool (decide ((46 : UInt8) ∈ s.data.toList))) ∧ Below w.heap.size w w' := by
  have HN := Lib.hid (fun k h hk => @noPt_all s.data.toList k h hk)
  have hz : s.data.toList.length = s.size := by simp
  generalize hL : s.data.toList = L at HN hz ⊢
  generalize hb : decide ((46 : UInt8) ∈ L) = b at HN ⊢
  have HB := Lib.hid hb
  have HL := Lib.hid hL
  clear hb hL
  go_enter Tryd.func48, Tryd.ntmps48
  go_wp2
  go_loop [3] (fun i => ∃ k : Nat, k ≤ s.size ∧ i = .int .i64 k ∧ NoPt L k) (fun i => s.size - (intOf i).toNat)
  case atStart => exact ⟨0, by omega, rfl, fun j hj => by omega⟩
  case round =>
    obtain ⟨k, hk, rfl, hno⟩ := hrel
    have HNo := Lib.hid hno
    clear hno
    by_cases hlt : k < s.size
    · obtain ⟨c, hc, hcb⟩ := bt_list s k hlt
      have hbk := btn s k
      rw [hcb] at hbk
      rw [HL.out] at hc
      have HC := Lib.hid hc
      clear hc hcb
      by_cases h46 : (c.toNat : Int) = 46
      · have hf := Lib.hid (pt_found HC.out h46)
        rw [h46] at hbk
        clear h46
        go_wp2
        go_ret
        exact ⟨by rw [← HB.out, hf.out]; rfl, bl_refl _⟩
      · have hx := Lib.hid (noPt_next HNo.out HC.out h46)
        go_wp2
        go_round
        case rel => exact ⟨k + 1, by omega, by go_num, hx.out⟩
        case measure => simp [intOf]; omega
    · have hf := Lib.hid (HN.out k HNo.out (by omega))
      go_wp2
      go_ret
      exact ⟨by rw [hf.out]; rfl, bl_refl _⟩
end Go.Proofs.YtccnfklemalmeaaDoor
