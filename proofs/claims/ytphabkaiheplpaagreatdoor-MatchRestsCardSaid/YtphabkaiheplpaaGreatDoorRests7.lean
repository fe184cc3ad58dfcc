/- Joined texts of this proof: LuhnR. -/
import Derived.Laws.AppendOwn
import Derived.Maps.AppendAt
import Derived.Laws.OwnMore
import Derived.OwnWalk
import Derived.Test.YtphabkaiheplpaaGreatDoorRests6
/- The document's Spread and Luhn, and Isin, by contracts. -/
set_option linter.unusedVariables false
set_option linter.unusedSimpArgs false
set_option maxRecDepth 100000
namespace Go.Proofs.YtphabkaiheplpaaGreatDoor
open Go.RowKit

namespace Sp
theorem ow_nil (W : World) (base : Nat) (e : TypeId) (size : Nat) : W.ownsRow base e size (.slice none 0 0) 0 [] := ⟨by simp, .inl ⟨rfl, rfl⟩⟩
theorem ow_base {w : World} {base : Nat} {e : TypeId} {size n : Nat} {v : Value} {xs : List Value} (h : w.ownsRow base e size v n xs) (k : Nat) (hk : v.ownBlock = some k) : base ≤ k := by
  rcases h.2 with ⟨rfl, _⟩ | ⟨g, cap, cur, rfl, hb, _⟩
  · simp [Value.ownBlock] at hk
  · have : g = k := by simpa [Value.ownBlock] using hk
    omega
theorem ow_below {w wr w1 : World} {base : Nat} {e : TypeId} {size n : Nat} {v : Value} {xs : List Value} (o : Obj) (h : wr.ownsRow base e size v n xs) (hb : Below base w wr) (hB : base ≤ wr.heap.size) (hg : (wr.alloc o).grownBy w1 v.ownBlock) : Below base w w1 :=
  (hb.alloc hB o).grown hg (by simp; omega) (fun k hk => ow_base h k hk)
theorem ow_slice {w : World} {base n : Nat} {e : TypeId} {size : Nat} {v : Value} {xs : List Value} (h : w.ownsRow base e size v n xs) : ∃ A c, v = .slice A n c := by
  rcases h.2 with ⟨rfl, rfl⟩ | ⟨g, cap, cur, rfl, _⟩
  · exact ⟨none, 0, rfl⟩
  · exact ⟨_, cap, rfl⟩
def ints (xs : List Int) : List Value := xs.map fun x => .int .i64 x
theorem ints_append (xs ys : List Int) : ints (xs ++ ys) = ints xs ++ ints ys := by simp [ints]
theorem cell_two_new (w : World) (x y : Value) (t : TypeId) : ∀ j u, [x, y][j]? = some u → (w.alloc (.cells #[x, y] t)).cell? ((⟨w.heap.size, 0, none⟩ : Addr).add j) = some u := by
  intro j u hj
  match j, hj with
  | 0, hj => simpa [Addr.add] using hj
  | 1, hj => simpa [Addr.add] using hj
theorem A_infoI : (Tryz.prog.info? 3).map (fun i => (i.zero, i.size, i.bytes)) = some (some (.int .i64 0), 1, 8) := by kernel_rfl
theorem info_of {P : Program} {e : TypeId} {z : Value} {s b : Nat} (h : (P.info? e).map (fun i => (i.zero, i.size, i.bytes)) = some (some z, s, b)) : ∃ i, P.info? e = some i ∧ i.zero = some z ∧ i.size = s ∧ i.bytes = b := by
  obtain ⟨i, h1, h2⟩ := Option.map_eq_some_iff.1 h
  simp only [Prod.mk.injEq] at h2
  exact ⟨i, h1, h2.1, h2.2.1, h2.2.2⟩
end Sp

theorem spread_len (s : ByteArray) : ∀ k, (spreadS s k).length ≤ 2 * k
  | 0 => by simp [spreadS]
  | k + 1 => by
    have := spread_len s k
    rw [spreadS_next, List.length_append]
    have : (spread1 (byteAt s k)).length ≤ 2 := by unfold spread1; split <;> simp
    omega
theorem spread_dig {s : ByteArray} : ∀ (k : Nat), (∀ i, i < k → SignI (byteAt s i)) → Dig (spreadS s k)
  | 0, _ => fun d hd => by simp [spreadS] at hd
  | k + 1, h => by
    intro d hd
    rw [spreadS_next, List.mem_append] at hd
    rcases hd with hd | hd
    · exact spread_dig k (fun i hi => h i (by omega)) d hd
    · have sg := h k (by omega)
      unfold SignI at sg
      unfold spread1 at hd
      by_cases e : 48 ≤ byteAt s k ∧ byteAt s k ≤ 57
      · rw [if_pos e] at hd
        simp at hd
        omega
      · rw [if_neg e] at hd
        simp at hd
        omega

theorem refSpread_any (s : ByteArray) (hs : s.size ≤ 1048576) (hsg : ∀ i, i < s.size → SignI (byteAt s i)) (w : World) :
    Calls Tryz.prog 156 #[.string s] w fun e w' => ∃ v, e = .returned v ∧ w'.ownsRow w.heap.size 3 1 v (spreadS s s.size).length (Sp.ints (spreadS s s.size)) ∧ Below w.heap.size w w' := by
  obtain ⟨i0, hi, hz0, hz1, hz2⟩ := Sp.info_of Sp.A_infoI
  have HS := Lib.hid hsg
  clear hsg
  go_enter Tryz.func156, Tryz.ntmps156
  go_wp2
  go_loopg [3, 4] s.size (fun g v vi wr => ∃ (k : Nat), vi = .int .i64 k ∧ k ≤ s.size ∧ s.size - k ≤ g ∧ Hid (wr.ownsRow w.heap.size 3 1 v (spreadS s k).length (Sp.ints (spreadS s k))) ∧ Hid (Below w.heap.size w wr))
  case atStart => exact ⟨0, rfl, by omega, by omega, (show World.ownsRow _ _ _ _ _ _ _ from Sp.ow_nil _ _ _ _), bl_refl w⟩
  case round =>
    obtain ⟨k, rfl, hk, hg, OW, HB⟩ := hrel
    obtain ⟨A1, c1, e1⟩ := Sp.ow_slice OW.out
    subst e1
    by_cases hlt : k < s.size
    · have hltz : (k : Int) < (s.size : Int) := by omega
      have hbx := byteAt_eq s k hlt
      have sg := HS.out k hlt
      have hsz := HB.out.size
      have ID := fun w => isDigit_any (byteAt s k) w
      have hlen := spread_len s k
      have NX := Lib.hid (spreadS_next s k)
      obtain ⟨c, hc⟩ : ∃ c, c = byteAt s k := ⟨_, rfl⟩
      rw [← hc] at hbx sg ID NX
      clear hc
      obtain ⟨ds, hds⟩ : ∃ ds, ds = spreadS s k := ⟨_, rfl⟩
      rw [← hds] at OW hlen NX ⊢
      have HDS := Lib.hid hds
      clear hds
      obtain ⟨n, hn⟩ : ∃ n, n = ds.length := ⟨_, rfl⟩
      rw [← hn] at hlen OW ⊢
      by_cases hle : c ≤ 57
      · have c0 : 48 ≤ c := by unfold SignI at sg; omega
        have wc : IntKind.u8.wrap (c - 48) = c - 48 := by rw [IntKind.wrap_u8]; omega
        have hd : digI c = true := by simp [digI, c0, hle]
        rw [hd] at ID
        have HI := Lib.hid ID
        have e1 : spread1 c = [c - 48] := if_pos ⟨c0, hle⟩
        rw [e1] at NX
        have HN := Lib.hid hn
        clear sg ID hd e1 hn
        go_wp2_with (first | (go_at_call 157; with_reducible refine (HI.out _).mono ?_; rintro e w1 ⟨rfl, rfl⟩) | (at_builtin; refine wpList_append_own _ rfl _ _ 94 rfl w.heap.size 3 i0 (.int .i64 0) 1 8 Tryz.underlying94 hi hz0 hz1 hz2 rfl (by decide) _ _ _ rfl (OW.out.alloc _) ⟨wr.heap.size, 0, none⟩ 1 1 [.int .i64 (c - 48)] rfl rfl ?c1 ?c2 ?c3 ?c4 ?c5 ?_))
        case c1 => exact cell_one_new _ _ _
        case c2 => simp [Value.oneCell']
        case c3 => simp only [maxLen]; omega
        case c4 => omega
        case c5 => simp; omega
        intro v' w1 hown' hgrow _
        have hb1 := Lib.hid (Sp.ow_below _ OW.out HB.out hsz hgrow)
        have OW2 : Hid (w1.ownsRow w.heap.size 3 1 v' (spreadS s (k + 1)).length (Sp.ints (spreadS s (k + 1)))) := (show World.ownsRow _ _ _ _ _ _ _ from by
          rw [NX.out, Sp.ints_append, List.length_append, ← HN.out]
          exact hown')
        clear hown' hgrow
        go_wp2
        go_roundg (s.size - (k + 1))
        case measure => omega
        case rel => exact ⟨k + 1, by go_num, by omega, by omega, OW2, hb1⟩
      · have c0 : 65 ≤ c ∧ c ≤ 90 := by unfold SignI at sg; omega
        have wc : IntKind.u8.wrap (c - 65) = c - 65 := by rw [IntKind.wrap_u8]; omega
        have q1 : (c - 65 + 10).tdiv 10 = (c - 65) / 10 + 1 := by rw [Int.tdiv_eq_ediv_of_nonneg (by omega)]; omega
        have q2 : (c - 65 + 10).tmod 10 = (c - 65) % 10 := by rw [Int.tmod_eq_emod_of_nonneg (by omega)]; omega
        have q1' : (c - 65 + 10) / 10 = (c - 65) / 10 + 1 := by omega
        have q2' : (c - 65 + 10) % 10 = (c - 65) % 10 := by omega
        have hd : digI c = false := by simp [digI]; omega
        rw [hd] at ID
        have HI := Lib.hid ID
        have e1 : spread1 c = [(c - 65) / 10 + 1, (c - 65) % 10] := if_neg (by omega)
        rw [e1] at NX
        have HN := Lib.hid hn
        clear sg ID hd e1 hn
        go_wp2_with (first | (go_at_call 157; with_reducible refine (HI.out _).mono ?_; rintro e w1 ⟨rfl, rfl⟩) | (at_builtin; refine wpList_append_own _ rfl _ _ 94 rfl w.heap.size 3 i0 (.int .i64 0) 1 8 Tryz.underlying94 hi hz0 hz1 hz2 rfl (by decide) _ _ _ rfl (OW.out.alloc _) ⟨wr.heap.size, 0, none⟩ 2 2 [.int .i64 ((c - 65) / 10 + 1), .int .i64 ((c - 65) % 10)] rfl rfl ?c1 ?c2 ?c3 ?c4 ?c5 ?_))
        case c1 => exact Sp.cell_two_new _ _ _ _
        case c2 => simp [Value.oneCell']
        case c3 => simp only [maxLen]; omega
        case c4 => omega
        case c5 => simp; omega
        intro v' w1 hown' hgrow _
        have hb1 := Lib.hid (Sp.ow_below _ OW.out HB.out hsz hgrow)
        have OW2 : Hid (w1.ownsRow w.heap.size 3 1 v' (spreadS s (k + 1)).length (Sp.ints (spreadS s (k + 1)))) := (show World.ownsRow _ _ _ _ _ _ _ from by
          rw [NX.out, Sp.ints_append, List.length_append, ← HN.out]
          exact hown')
        clear hown' hgrow
        go_wp2
        go_roundg (s.size - (k + 1))
        case measure => omega
        case rel => exact ⟨k + 1, by go_num, by omega, by omega, OW2, hb1⟩
    · have e : k = s.size := by omega
      have hltz : ¬ (k : Int) < (s.size : Int) := by omega
      have OW3 := OW.out
      rw [e] at OW3
      go_wp2
      go_ret
      exact ⟨_, rfl, OW3, HB.out⟩

theorem refLuhn_any (A : Option Addr) (n c : Nat) (ds : List Int) (w : World) (hn : ds.length = n) (hd : Dig ds) (hc : ∀ i, i < n → ∃ ad, A = some ad ∧ w.cell? (ad.add i) = some (.int .i64 (ds.getD i 0))) (hm : n ≤ 4194304) :
    Calls Tryz.prog 155 #[.slice A n c] w fun e w' => e = .returned (.int .i64 (luhn1 ds)) ∧ w = w' := by
  have HC := Lib.hid hc
  have HN := Lib.hid hn
  have HD := Lib.hid hd
  have L0 : Hid (∃ j : Nat, (0 : Int) + alt false (ds.take n).reverse = luhn1 ds) := ⟨0, by rw [List.take_of_length_le (by omega)]; simp [luhn1]⟩
  clear hc hn hd
  go_enter Tryz.func155, Tryz.ntmps155
  have e0 : IntKind.i64.wrap ((n : Int) - 1) = (n : Int) - 1 := by rw [IntKind.wrap_i64]; omega
  go_wp2
  go_loopg [3, 4, 5] n (fun g vs vt vi wr => ∃ (k : Nat) (sum : Int) (b : Bool), vi = .int .i64 ((k : Int) - 1) ∧ vs = .int .i64 sum ∧ vt = .bool b ∧ k ≤ n ∧ k ≤ g ∧ wr = w ∧ 0 ≤ sum ∧ sum ≤ 9 * ((n : Int) - k) ∧ Hid (sum + alt b (ds.take k).reverse = luhn1 ds))
  case atStart => exact ⟨n, 0, false, rfl, rfl, rfl, by omega, by omega, rfl, by omega, by omega, (show _ = _ from L0.out.choose_spec)⟩
  case round =>
    clear L0
    obtain ⟨k, sum, b, rfl, rfl, rfl, hk, hg, rfl, s0, s1, HA⟩ := hrel
    by_cases hlt : 0 < k
    · obtain ⟨j, rfl⟩ : ∃ j, k = j + 1 := ⟨k - 1, by omega⟩
      have ej : ((j + 1 : Nat) : Int) - 1 = (j : Int) := by omega
      obtain ⟨ad, rfl, hcj⟩ := HC.out j (by omega)
      have hjd : j < ds.length := by have := HN.out; omega
      have hdj := HD.out (ds.getD j 0) (by simp [List.getD_eq_getElem?_getD, hjd])
      have FE := Lib.hid (from_end hjd HA.out)
      obtain ⟨x, hx⟩ : ∃ x, x = ds.getD j 0 := ⟨_, rfl⟩
      rw [← hx] at hcj hdj FE
      obtain ⟨x0, x1⟩ := hdj
      rw [ej]
      have hjz : (0 : Int) ≤ (j : Int) := by omega
      have hjn : (j : Int) < (n : Int) := by omega
      have wj : IntKind.i64.wrap ((j : Int) - 1) = (j : Int) - 1 := by rw [IntKind.wrap_i64]; omega
      clear hx ej hlt HA hjd
      cases b with
      | false =>
        have ws : IntKind.i64.wrap (sum + x) = sum + x := by rw [IntKind.wrap_i64]; omega
        go_wp2
        go_roundg j
        case measure => omega
        case rel => exact ⟨j, sum + x, true, rfl, rfl, rfl, by omega, by omega, rfl, by omega, by omega, (show _ = _ from by have := FE.out; simpa using this)⟩
      | true =>
        have w2 : IntKind.i64.wrap (2 * x) = 2 * x := by rw [IntKind.wrap_i64]; omega
        by_cases h4 : x ≤ 4
        · have ht := tw_small x0 h4
          have h9 : ¬ 9 < 2 * x := by omega
          have ws : IntKind.i64.wrap (sum + 2 * x) = sum + 2 * x := by rw [IntKind.wrap_i64]; omega
          have HT := Lib.hid ht
          clear ht h4
          go_wp2
          go_roundg j
          case measure => omega
          case rel => exact ⟨j, sum + 2 * x, false, rfl, rfl, rfl, by omega, by omega, rfl, by omega, by omega, (show _ = _ from by have := FE.out; rw [HT.out] at this; simpa using this)⟩
        · have ht := tw_great (show 5 ≤ x by omega) x1
          have h9 : 9 < 2 * x := by omega
          have w3 : IntKind.i64.wrap (2 * x - 9) = 2 * x - 9 := by rw [IntKind.wrap_i64]; omega
          have ws : IntKind.i64.wrap (sum + (2 * x - 9)) = sum + (2 * x - 9) := by rw [IntKind.wrap_i64]; omega
          have HT := Lib.hid ht
          clear ht h4
          go_wp2
          go_roundg j
          case measure => omega
          case rel => exact ⟨j, sum + (2 * x - 9), false, rfl, rfl, rfl, by omega, by omega, rfl, by omega, by omega, (show _ = _ from by have := FE.out; rw [HT.out] at this; simpa using this)⟩
    · have e : k = 0 := by omega
      subst e
      have HA2 : sum = luhn1 ds := by have := HA.out; simpa [alt] using this
      have HZ := Lib.hid HA2
      have ek : ((0 : Nat) : Int) - 1 = -1 := by omega
      rw [ek]
      clear HA2 HA ek s1 hk hg hlt
      go_wp2
      go_ret
      exact ⟨by rw [← HZ.out]; rfl, rfl⟩
end Go.Proofs.YtphabkaiheplpaaGreatDoor
