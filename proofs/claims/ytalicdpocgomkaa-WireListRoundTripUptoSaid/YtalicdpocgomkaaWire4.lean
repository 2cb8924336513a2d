import Derived.Test.YtalicdpocgomkaaWire3
namespace Go.Proofs.Ytalicdpocgomkaa
open Go.RowKit Go.Dx

/-- three results that are integers -/
abbrev R3 (r : Int × Int × Int) : Value := .tuple #[.int .i64 r.1, .int .i64 r.2.1, .int .i64 r.2.2]

set_option maxRecDepth 100000 in
set_option maxHeartbeats 400000 in
theorem wire_GetInt (l : List UInt8) (a : Option Addr) (n c : Nat) (w : World) (hs : Sl w 1 a n c (l.map B8)) :
    Calls Try.prog 67 #[.slice a n c] w fun e w' => e = .returned (R3 (decInt l)) ∧ w = w' := by
  obtain rfl := hs.n_eq
  have hm := Nat.le_trans hs.le hs.cap
  unfold maxLen at hm
  cases l with
  | nil =>
    go_enter Try.func67, Try.ntmps67
    go_wp2
    go_ret3
    exact ⟨rfl, rfl⟩
  | cons h t =>
    obtain ⟨b, off, rfl, hbs, hc⟩ := hs.ex (by simp)
    have hc0 : w.cell? ⟨b, off, none⟩ = some (.int .u8 (h.toNat : Int)) := hc 0 _ rfl
    have hle := hs.le
    simp only [List.length_cons] at hm hle ⊢
    have hne : (((t.length : Int) + 1) == 0) = false := by simp; omega
    have HC := hide hc
    clear hc hs
    obtain ⟨neg, HN⟩ : ∃ neg, Hid (neg = decide (h.toNat < 128)) := ⟨_, rfl⟩
    obtain ⟨K, HK⟩ : ∃ K, Hid (K = (flp neg h).toNat - 128) := ⟨_, rfl⟩
    go_enter Try.func67, Try.ntmps67
    go_upto_if 16 with (fail)
    go_cut [5] (fun f w' => f = .int .u8 ((fl neg).toNat : Int) ∧ w = w')
    case first =>
      by_cases h7 : h.toNat < 128
      · go_wp2
        go_meet
        exact ⟨by rw [HN.out, decide_eq_true h7]; rfl, rfl⟩
      · go_wp2
        go_meet
        exact ⟨by rw [HN.out, decide_eq_false h7]; rfl, rfl⟩
    case rest =>
      obtain ⟨rfl, rfl⟩ := hcut
      have hx := xor_fl h neg
      have hfb := UInt8.toNat_lt (flp neg h)
      go_upto_region 6 with (fail)
      go_cut [6] (fun k w' => k = .int .i64 (K : Int) ∧ w = w')
      case first =>
        go_wp2
        go_meet
        exact ⟨by rw [HK.out]; congr 1; have := flp_ge h neg HN.out; omega, rfl⟩
      case rest =>
        obtain ⟨rfl, rfl⟩ := hcut
        have HX := hide hx
        have HD : Hid (decInt (h :: t) = decK neg K t) := by show _ = _; rw [HN.out, HK.out]; rw [HN.out]; rfl
        clear hx hfb
        by_cases h8 : 8 < K
        · go_wp2
          go_ret3
          exact ⟨by rw [HD.out, decK_8 h8]; rfl, rfl⟩
        · by_cases hlen : t.length < K
          · go_wp2
            go_ret3
            exact ⟨by rw [HD.out, decK_more h8 hlen]; rfl, rfl⟩
          · have hsp : (0 < K ∧ flp neg (t.getD 0 0) = 0) ∨ (0 < K ∧ flp neg (t.getD 0 0) ≠ 0 ∧ ¬ c = 1) ∨ (¬ 0 < K ∧ c = 1) ∨ (¬ 0 < K ∧ ¬ c = 1) := by
              by_cases h0 : 0 < K
              · by_cases hz : flp neg (t.getD 0 0) = 0
                · exact .inl ⟨h0, hz⟩
                · exact .inr (.inl ⟨h0, hz, by omega⟩)
              · by_cases hc1 : c = 1
                · exact .inr (.inr (.inl ⟨h0, hc1⟩))
                · exact .inr (.inr (.inr ⟨h0, hc1⟩))
            have hd1 : 0 < K → ∃ d, t.getD 0 0 = d ∧ w.cell? ⟨b, off + 1, none⟩ = some (.int .u8 (d.toNat : Int)) := by
              intro h0
              cases t with
              | nil => simp at hlen; omega
              | cons d t => exact ⟨d, rfl, HC.out 1 _ rfl⟩
            rcases hsp with ⟨h0, hz⟩ | hsp
            · obtain ⟨d, hd, hcd⟩ := hd1 h0
              rw [hd] at hz
              have hx := xor_fl d neg
              have hzz : (flp neg d).toNat = 0 := by rw [hz]; rfl
              have HD2 := hide hd
              clear hd hd1
              go_wp2
              go_ret3
              exact ⟨by rw [HD.out, decK_zero h8 hlen h0 (by rw [HD2.out]; exact hz)]; rfl, rfl⟩
            · have hfin : Hid (K = 0 ∨ flp neg (t.getD 0 0) ≠ 0) := by
                rcases hsp with ⟨h0, hz, _⟩ | ⟨h0, _⟩ | ⟨h0, _⟩
                · exact .inr hz
                · exact .inl (by omega)
                · exact .inl (by omega)
              rcases hsp with ⟨h0, hz, hcap⟩ | ⟨h0, rfl⟩ | ⟨h0, hcap⟩
              all_goals first
                | (obtain ⟨d, hd, hcd⟩ := hd1 h0
                   rw [hd] at hz
                   have hx := xor_fl d neg
                   have hzz : (((flp neg d).toNat : Int) == 0) = false := by
                     simp; intro e; exact hz (UInt8.toNat_inj.1 e)
                   have HD2 := hide hd
                   clear hd hd1 hz
                   go_wp2)
                | (clear hd1
                   go_wp2)
              all_goals
                go_loopg [7, 48] K (fun g m i w' => ∃ j : Nat, j ≤ K ∧ g = K - j ∧ m = .int .u64 ((val ((t.take j).map (flp neg)) : Nat) : Int) ∧ i = .int .i64 j ∧ w = w')
                case atStart => exact ⟨0, by omega, rfl, by simp [val], rfl, rfl⟩
                case round =>
                  obtain ⟨j, hj, hg, rfl, rfl, rfl⟩ := hrel
                  have HG := hide hg
                  clear hg
                  by_cases hjk : j < K
                  · first
                    | (exfalso; omega)
                    | (obtain ⟨d, hd⟩ : ∃ d, t[j]? = some d := ⟨t[j]'(by omega), by simp⟩
                       have hcell : w.cell? ⟨b, off + 1 + j, none⟩ = some (.int .u8 (d.toNat : Int)) := by
                         rw [Nat.add_assoc, Nat.add_comm 1 j]; exact HC.out (j + 1) _ (by simp [hd])
                       have hv : val ((t.take j).map (flp neg)) < 72057594037927936 := val_lt7 _ (by simp; omega)
                       have hx := xor_fl d neg
                       have ho := or_u64 (val ((t.take j).map (flp neg))) (flp neg d) hv
                       have hfd := UInt8.toNat_lt (flp neg d)
                       have HV : Hid (val ((t.take (j + 1)).map (flp neg)) = 256 * val ((t.take j).map (flp neg)) + (flp neg d).toNat) := by
                         show _ = _; rw [List.take_add_one, hd]; simp [val_snoc]
                       clear hd
                       generalize val ((t.take j).map (flp neg)) = v at *
                       go_wp2
                       go_roundg (K - (j + 1))
                       case measure => have := HG.out; omega
                       case rel => exact ⟨j + 1, by omega, rfl, by rw [HV.out]; go_num, by go_num, rfl⟩)
                  · obtain rfl : j = K := by omega
                    have HB := hide (@decK_big neg j t h8 hlen hfin.out)
                    have HO := hide (@decK_ok neg j t h8 hlen hfin.out)
                    have hvl : val ((t.take j).map (flp neg)) < 18446744073709551616 := val_lt8 _ (by simp; omega)
                    generalize val ((t.take j).map (flp neg)) = v at *
                    by_cases hbig : 9223372036854775808 ≤ v
                    · go_wp2
                      go_ret3
                      exact ⟨by rw [HD.out, HB.out hbig]; rfl, rfl⟩
                    · cases neg
                      · go_wp2
                        go_ret3
                        exact ⟨by rw [HD.out, HO.out hbig]; rfl, rfl⟩
                      · have hw : wrap64 (bits .xor .u64 IntKind.u64.max (v : Int)) = -1 - (v : Int) := by
                          rw [u64_not v (by omega)]; unfold wrap64; omega
                        go_wp2
                        go_ret3
                        exact ⟨by rw [HD.out, HO.out hbig]; rfl, rfl⟩
end Go.Proofs.Ytalicdpocgomkaa
