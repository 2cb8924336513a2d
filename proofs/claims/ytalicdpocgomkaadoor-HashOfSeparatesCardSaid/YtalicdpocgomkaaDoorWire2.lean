import Derived.Test.YtalicdpocgomkaaDoorWire1
namespace Go.Proofs.YtalicdpocgomkaaDoor
open Go.RowKit Go.Dx

set_option maxHeartbeats 400000 in
theorem ref_Int_neg (m : Nat) (hm : m < 9223372036854775808) (w : World) :
    Calls Tryd.prog 39 #[.int .i64 (-1 - (m : Int))] w (Gives 5 1 (encInt (-1 - (m : Int))).length ((encInt (-1 - (m : Int))).map B8) w) := by
  have hd0 : decide (-1 - (m : Int) < 0) = true := by simp; omega
  have hd1 : decide (0 ≤ -1 - (m : Int)) = false := by simp; omega
  have hd2 : decide ((m : Int) ≤ -1) = false := by simp; omega
  have HA : Hid (∀ k, Len m k → encTo true m k k = encInt (-1 - (m : Int))) := fun k h => by
    have := @encTo_all (-1 - (m : Int)) k (by rw [mag_of_neg]; exact h)
    rw [mag_of_neg, show decide ((-1 - (m : Int)) < 0) = true by simp; omega] at this
    exact this
  go_enter Tryd.func39, Tryd.ntmps39
  go_wp2
  go_loopg [3, 4] 8 (fun g x v w' => ∃ (t : Nat) (a : Option Addr) (c : Nat), t ≤ 8 ∧ g = 8 - t ∧ (t = 0 ∨ 256 ^ (t - 1) ≤ m) ∧ x = .int .i64 ((m / 256 ^ t : Nat) : Int) ∧ v = .slice a t c ∧ Own w' w.heap.size 5 1 a t c ((lows m t).map B8) ∧ Below w.heap.size w w')
  case atStart => exact ⟨0, none, 0, by omega, by omega, .inl rfl, by simp; omega, rfl, Own.nil _ _ _ _, Below.refl _ _⟩
  case round =>
    obtain ⟨t, a, c, ht, hg, hlo, rfl, rfl, hown, hb⟩ := hrel
    have HG := hide hg
    have hq : m / 256 ^ t < 9223372036854775808 := Nat.lt_of_le_of_lt (Nat.div_le_self _ _) hm
    have HQ := hide (@Len.lt m t hm)
    have HF := hide (@Len.fin m t)
    have HN := hide (@Len.next m t)
    have HD := hide (dig_int m t)
    have HV := hide (div_int m t)
    clear hg
    generalize m / 256 ^ t = q at *
    by_cases h0 : 0 < q
    · go_wp2_with (at_builtin; refine app_b rfl _ _ rfl w w.heap.size _ _ _ _ rfl hown _ rfl (by omega) hb.size hb ?_; intro a' c' w' hown' hgr' hb')
      have h8 := HQ.out (by omega) ht
      go_roundg (8 - (t + 1))
      case measure => have := HG.out; omega
      case rel =>
        refine ⟨t + 1, a', c', by omega, rfl, .inr (HN.out (by omega)), by rw [HV.out], rfl, ?_, hb'⟩
        rw [lows_succ]
        rw [HD.out] at hown'
        simpa using hown'
    · have hL := HF.out (by omega) ht hlo
      have hk8 := hL.1
      have HS := hide hown.sl
      go_wp2_with (at_builtin; refine app_b rfl _ _ rfl wr wr.heap.size none 0 0 [] rfl (Own.nil _ _ _ _) _ rfl (by omega) (Nat.le_refl _) (Below.refl _ _) ?_; intro a6 c6 w6 hown6 hgr6 hb6)
      obtain ⟨wo, rfl⟩ : ∃ wo : World, wo = wr := ⟨_, rfl⟩
      go_loopg [6, 7] t (fun g x i w' => ∃ (j : Nat) (a : Option Addr) (c : Nat), j ≤ t ∧ g = t - j ∧ i = .int .i64 ((t : Int) - 1 - j) ∧ x = .slice a (j + 1) c ∧ Own w' wo.heap.size 5 1 a (j + 1) c ((encTo true m t j).map B8) ∧ Below wo.heap.size wo w')
      case atStart =>
        refine ⟨0, a6, c6, by omega, by omega, by simp, rfl, ?_, hb6⟩
        rw [encTo_zero]
        have e := hd_neg t hk8
        simp only [List.map_cons, List.map_nil, B8, e]
        simpa using hown6
      case round =>
        obtain ⟨j, a7, c7, hj, hg7, rfl, rfl, hown7, hb7⟩ := hrel
        have HG7 := hide hg7
        clear hg7
        by_cases hjt : j < t
        · obtain ⟨b, off, rfl, hbs, hcell⟩ := Sl.ex (HS.out.below hb7) (by simp [lows_length]; omega)
          have hc : wr.cell? ⟨b, off + (t - 1 - j), none⟩ = some (B8 (dig m (t - 1 - j))) := hcell _ _ (by rw [List.getElem?_map, lows_get m t _ (by omega)]; rfl)
          clear hcell
          have hdb := UInt8.toNat_lt (dig m (t - 1 - j))
          go_wp2_with (at_builtin; refine app_b rfl _ _ rfl wo wo.heap.size _ _ _ _ rfl hown7 _ rfl (by omega) hb7.size hb7 ?_; intro a' c' w' hown' hgr' hb')
          go_roundg (t - (j + 1))
          case measure => have := HG7.out; omega
          case rel =>
            refine ⟨j + 1, a', c', by omega, rfl, by congr 1; omega, rfl, ?_, hb'⟩
            rw [encTo_succ]
            have e := flp_neg (dig m (t - 1 - j))
            simp only [List.map_append, List.map_cons, List.map_nil, B8, e]
            simpa using hown'
        · obtain rfl : j = t := by omega
          go_wp2
          go_ret
          have e := HA.out j hL
          have el : (encInt (-1 - (m : Int))).length = j + 1 := by rw [← e, encTo_length]
          rw [el, ← e]
          exact ⟨a7, c7, rfl, hown7.mono hb.size, hb.trans (hb7.mono hb.size)⟩

set_option maxHeartbeats 400000 in
theorem ref_Int_pos (m : Nat) (hm : m < 9223372036854775808) (w : World) :
    Calls Tryd.prog 39 #[.int .i64 (m : Int)] w (Gives 5 1 (encInt (m : Int)).length ((encInt (m : Int)).map B8) w) := by
  have hd0 : decide ((m : Int) < 0) = false := by simp
  have HA : Hid (∀ k, Len m k → encTo false m k k = encInt (m : Int)) := fun k h => by
    have := @encTo_all (m : Int) k (by rw [mag_of_nat]; exact h)
    rw [mag_of_nat, show decide ((m : Int) < 0) = false by simp] at this
    exact this
  go_enter Tryd.func39, Tryd.ntmps39
  go_wp2
  go_loopg [3, 4] 8 (fun g x v w' => ∃ (t : Nat) (a : Option Addr) (c : Nat), t ≤ 8 ∧ g = 8 - t ∧ (t = 0 ∨ 256 ^ (t - 1) ≤ m) ∧ x = .int .i64 ((m / 256 ^ t : Nat) : Int) ∧ v = .slice a t c ∧ Own w' w.heap.size 5 1 a t c ((lows m t).map B8) ∧ Below w.heap.size w w')
  case atStart => exact ⟨0, none, 0, by omega, by omega, .inl rfl, by simp, rfl, Own.nil _ _ _ _, Below.refl _ _⟩
  case round =>
    obtain ⟨t, a, c, ht, hg, hlo, rfl, rfl, hown, hb⟩ := hrel
    have HG := hide hg
    have hq : m / 256 ^ t < 9223372036854775808 := Nat.lt_of_le_of_lt (Nat.div_le_self _ _) hm
    have HQ := hide (@Len.lt m t hm)
    have HF := hide (@Len.fin m t)
    have HN := hide (@Len.next m t)
    have HD := hide (dig_int m t)
    have HV := hide (div_int m t)
    clear hg
    generalize m / 256 ^ t = q at *
    by_cases h0 : 0 < q
    · go_wp2_with (at_builtin; refine app_b rfl _ _ rfl w w.heap.size _ _ _ _ rfl hown _ rfl (by omega) hb.size hb ?_; intro a' c' w' hown' hgr' hb')
      have h8 := HQ.out (by omega) ht
      go_roundg (8 - (t + 1))
      case measure => have := HG.out; omega
      case rel =>
        refine ⟨t + 1, a', c', by omega, rfl, .inr (HN.out (by omega)), by rw [HV.out], rfl, ?_, hb'⟩
        rw [lows_succ]
        rw [HD.out] at hown'
        simpa using hown'
    · have hL := HF.out (by omega) ht hlo
      have hk8 := hL.1
      have HS := hide hown.sl
      go_wp2_with (at_builtin; refine app_b rfl _ _ rfl wr wr.heap.size none 0 0 [] rfl (Own.nil _ _ _ _) _ rfl (by omega) (Nat.le_refl _) (Below.refl _ _) ?_; intro a6 c6 w6 hown6 hgr6 hb6)
      obtain ⟨wo, rfl⟩ : ∃ wo : World, wo = wr := ⟨_, rfl⟩
      go_loopg [6, 7] t (fun g x i w' => ∃ (j : Nat) (a : Option Addr) (c : Nat), j ≤ t ∧ g = t - j ∧ i = .int .i64 ((t : Int) - 1 - j) ∧ x = .slice a (j + 1) c ∧ Own w' wo.heap.size 5 1 a (j + 1) c ((encTo false m t j).map B8) ∧ Below wo.heap.size wo w')
      case atStart =>
        refine ⟨0, a6, c6, by omega, by omega, by simp, rfl, ?_, hb6⟩
        rw [encTo_zero]
        have e := hd_pos t hk8
        simp only [List.map_cons, List.map_nil, B8, e]
        simpa using hown6
      case round =>
        obtain ⟨j, a7, c7, hj, hg7, rfl, rfl, hown7, hb7⟩ := hrel
        have HG7 := hide hg7
        clear hg7
        by_cases hjt : j < t
        · obtain ⟨b, off, rfl, hbs, hcell⟩ := Sl.ex (HS.out.below hb7) (by simp [lows_length]; omega)
          have hc : wr.cell? ⟨b, off + (t - 1 - j), none⟩ = some (B8 (dig m (t - 1 - j))) := hcell _ _ (by rw [List.getElem?_map, lows_get m t _ (by omega)]; rfl)
          clear hcell
          have hdb := UInt8.toNat_lt (dig m (t - 1 - j))
          go_wp2_with (at_builtin; refine app_b rfl _ _ rfl wo wo.heap.size _ _ _ _ rfl hown7 _ rfl (by omega) hb7.size hb7 ?_; intro a' c' w' hown' hgr' hb')
          go_roundg (t - (j + 1))
          case measure => have := HG7.out; omega
          case rel =>
            refine ⟨j + 1, a', c', by omega, rfl, by congr 1; omega, rfl, ?_, hb'⟩
            rw [encTo_succ]
            have e := flp_pos_int (dig m (t - 1 - j))
            simp only [List.map_append, List.map_cons, List.map_nil, B8, e]
            simpa using hown'
        · obtain rfl : j = t := by omega
          go_wp2
          go_ret
          have e := HA.out j hL
          have el : (encInt (m : Int)).length = j + 1 := by rw [← e, encTo_length]
          rw [el, ← e]
          exact ⟨a7, c7, rfl, hown7.mono hb.size, hb.trans (hb7.mono hb.size)⟩

theorem ref_Int (n : Int) (hn0 : -9223372036854775808 ≤ n) (hn1 : n ≤ 9223372036854775807) (w : World) :
    Calls Tryd.prog 39 #[.int .i64 n] w (Gives 5 1 (encInt n).length ((encInt n).map B8) w) := by
  by_cases h : n < 0
  · obtain ⟨m, rfl⟩ : ∃ m : Nat, n = -1 - (m : Int) := ⟨(-1 - n).toNat, by omega⟩
    exact ref_Int_neg m (by omega) w
  · obtain ⟨m, rfl⟩ : ∃ m : Nat, n = (m : Int) := ⟨n.toNat, by omega⟩
    exact ref_Int_pos m (by omega) w
end Go.Proofs.YtalicdpocgomkaaDoor
