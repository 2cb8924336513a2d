/- Chapter 08: the walk of ContractFewest. -/
import Derived.Test.YtlpkicjijlcbfaaBaseQO
set_option linter.unusedVariables false
namespace Go.Dx
open Go.RowKit
theorem trC_len {t : Ta} {l : List Sy} (ht : validE t = 0) (hg : goodS l = true) (he : trE t l = 0) : ((trC t l).length : Int) = numV t l := by
  unfold trC
  rw [if_pos he]
  exact path_cost ht hg (trE_ok he).2
theorem numV_bd {t : Ta} {l : List Sy} (ht : validE t = 0) (h : l.length ≤ 2048) : numV t l ≤ 1000000 := by
  have hl := numT_len t l
  have hb := bd_num t l ht h
  obtain ⟨r, hr⟩ : ∃ r, (numT t l)[0]? = some r := ⟨_, List.getElem?_eq_getElem (by omega)⟩
  have h8 := sufT_rows t l l.length r (List.mem_of_getElem? hr)
  obtain ⟨v, hv⟩ : ∃ v, r[0]? = some v := ⟨_, List.getElem?_eq_getElem (by omega)⟩
  have e : numV t l = v := by
    have e1 : (numT t l).getD 0 [] = r := by rw [List.getD_eq_getElem?_getD, hr]; rfl
    show ((numT t l).getD 0 []).getD 0 0 = v
    rw [e1, List.getD_eq_getElem?_getD, hv]
    rfl
  rw [e]
  exact (hb r (List.mem_of_getElem? hr) v (List.mem_of_getElem? hv)).2
theorem trC_few {t : Ta} {l : List Sy} (ht : validE t = 0) (hg : goodS l = true) (h : l.length ≤ 2048) (he : trE t l = 0) : (trC t l).length ≤ 1000000 := by
  have h1 := trC_len ht hg he
  have h2 := numV_bd (t := t) (l := l) ht h
  omega
theorem trA_bd {t : Ta} {l : List Sy} (ht : validE t = 0) (h : l.length ≤ 2048) (he : trE t l = 0) : BdN (trA t l) 1000000 := by
  unfold trA
  rw [if_pos he]
  exact bd_num t l ht h
theorem trCh {t : Ta} {l : List Sy} (he : trE t l = 0) : chE t l (trC t l) (trK t l) (trA t l) = 0 := by
  unfold trC trK trA
  rw [if_pos he, if_pos he, if_pos he]
  exact chE_path he
end Go.Dx
namespace Go.Proofs.Ytlpkicjijlcbfaa
open Go.RowKit Go.Dx Go.Al
set_option maxRecDepth 100000 in
set_option maxHeartbeats 8000000 in
theorem walk_ContractFewest (n : Int) (l : List Int) (a : Option Addr) (ln lc : Nat) (m : List Int) (am : Option Addr) (mn mc : Nat) (w : World) (hs : Sl w 1 a ln lc (l.map I64)) (hl : ∀ x ∈ l, -9223372036854775808 ≤ x ∧ x ≤ 9223372036854775807)
    (hms : Sl w 1 am mn mc (m.map I64)) (hml : ∀ x ∈ m, -9223372036854775808 ≤ x ∧ x ≤ 9223372036854775807) (hn : -9223372036854775808 ≤ n ∧ n ≤ 9223372036854775807) :
    Calls Try.prog 6 #[.int .i64 n, .slice a ln lc, .slice am mn mc] w fun e w' => e = .returned (.bool true) ∧ Below w.heap.size w w' := by
  have HML := hide hml
  clear hml
  obtain ⟨S, HSS⟩ : ∃ S, Hid (symsL l = S) := ⟨_, hide rfl⟩
  have hSok := symsL_ok l
  rw [HSS.out] at hSok
  have hS24 := hSok.2
  have hgS : goodS S = true := by
    unfold goodS
    rw [List.all_eq_true]
    intro x hx
    have h := hSok.1 x hx
    unfold plainSy at h
    rw [Bool.and_eq_true] at h
    exact h.1
  have HGS := hide hgS
  clear hSok hgS
  go_enter Try.func6, Try.ntmps6
  go_wp2_with fail
  refine (ref_Tables n hn.1 hn.2 w).mono ?_
  rintro e w1 ⟨H, t, rfl, hT, hG, hb1⟩
  have HV : Hid (validE t = 0) := hide hG.ok
  clear hG
  have Hm := hide hT
  clear hT
  obtain ⟨⟨a0, n0, c0⟩, ⟨a1, n1, c1⟩, ps0, ps1, ⟨ad, nd, cd⟩, ⟨ac, nc, cc⟩, ⟨an, nn, cn⟩, ⟨af, nf, cf⟩, ⟨aw, nw, cw⟩⟩ := H
  unfold TH.v
  simp only [hdv]
  have Y1 := Box.new w1 29 #[.slice a0 n0 c0, .slice a1 n1 c1, .slice ad nd cd, .slice ac nc cc, .slice an nn cn, .slice af nf cf, .slice aw nw cw]
  have hbY := blo w1 (.cells #[.slice a0 n0 c0, .slice a1 n1 c1, .slice ad nd cd, .slice ac nc cc, .slice an nn cn, .slice af nf cf, .slice aw nw cw] 29)
  go_wp2_with fail
  generalize w1.alloc (.cells _ 29) = w2 at *
  obtain ⟨H, hH⟩ : ∃ H : TH, H = ⟨(a0, n0, c0), (a1, n1, c1), ps0, ps1, (ad, nd, cd), (ac, nc, cc), (an, nn, cn), (af, nf, cf), (aw, nw, cw)⟩ := ⟨_, rfl⟩
  have hX2 : Box w2 w1.heap.size 29 (tcells H) := by rw [hH]; exact Y1
  have hT2 : TaIs w2 H t := by rw [hH]; exact Hm.out.below hbY
  have hB2 := hb1.trans (hbY.mono hb1.size)
  clear hH Hm hbY hb1 Y1
  generalize w1.heap.size = gT at *
  refine (ref_Syms l hl a ln lc w2 (hs.below hB2)).mono ?_
  rintro e w3 ⟨a3, c3, rfl, hO3, hb3⟩
  rw [HSS.out] at hO3 ⊢
  have HX3 := hX2.under hb3
  have HT3 := hT2.below hb3
  have hB3 := hB2.trans (hb3.mono hB2.size)
  have HS3 := hO3.sl
  clear hO3 hX2 hT2 hB2 hb3 hs hn hl HSS
  obtain ⟨N, hN⟩ : ∃ N, Hid (S.length = N) := ⟨_, hide rfl⟩
  rw [hN.out] at HS3 hS24 ⊢
  have hFE : Hid (fitsE t S = 0) := hide (fitsE_of HV.out HGS.out (by rw [hN.out]; omega))
  obtain ⟨TX, hTX⟩ : ∃ X, Hid (trE t S = X) := ⟨_, hide rfl⟩
  have hT06 : TX = 0 ∨ TX = 6 := by
    rw [← hTX.out]
    unfold trE
    rw [hFE.out, if_neg (by simp)]
    split
    · exact .inr rfl
    · exact .inl rfl
  have htr := hide (tr_at H t S a3 N c3 w3 HT3 HS3 hTX.out rfl rfl rfl)
  have hM3 := hms.below hB3
  clear hms
  go_wp2_with (first
    | (with_reducible refine load_struct 22 29 _ 7 size_tables _ Try.underlying29 ⟨gT, 0, none⟩ rfl (tcells H) rfl (fun j u hj => by rw [Addr.add_lit, Nat.zero_add]; exact HX3.at_ hj) ?_)
    | (go_at_call 13; refine htr.out.mono ?_; rintro e w4 ⟨⟨v, rfl, hce⟩, hb4⟩; refine hold ?_))
  refine hide ?_
  have hbM4 := hb4
  obtain ⟨ea, en, ec, ta, tn, tc, la, ln4, lc4, hs4, hv, hE4, hK4, hL4⟩ := hce.ce
  subst hv
  have HX4 := HX3.under hb4
  have HT4 := HT3.below hb4
  have HS4 := HS3.below hb4
  have hB4 := hB3.trans (hb4.mono hB3.size)
  clear hce HX3 HT3 HS3 hB3 hb4 htr
  have HC5 := Box.new w4 39 #[.slice ea en ec, .slice ta tn tc, .slice la ln4 lc4]
  have hb5 := blo w4 (.cells #[.slice ea en ec, .slice ta tn tc, .slice la ln4 lc4] 39)
  have hbM5 := hb5
  go_upto_region 4 with fail
  generalize w4.alloc (.cells #[.slice ea en ec, .slice ta tn tc, .slice la ln4 lc4] 39) = w5 at *
  obtain ⟨gC, hgC⟩ : ∃ g, Hid (w4.heap.size = g) := ⟨_, hide rfl⟩
  rw [hgC.out] at HC5 ⊢
  have HX5 := HX4.under hb5
  have HT5 := HT4.below hb5
  have HS5 := HS4.below hb5
  have hE5 := hE4.below hb5
  have hK5 := hK4.below hb5
  have hL5 := hL4.below hb5
  have hB5 := hB4.trans (hb5.mono hB4.size)
  have HC5 : Box w5 gC 39 [.slice ea en ec, .slice ta tn tc, .slice la ln4 lc4] := HC5
  clear HX4 HT4 HS4 hE4 hK4 hL4 hB4 hb5
  have hbM : Below w3.heap.size w3 w5 := hbM4.trans (hbM5.mono hbM4.size)
  clear hbM4 hbM5
  have hM5 := hM3.below hbM
  clear hM3 hbM
  rcases hT06 with rfl | rfl
  · have hck := hide (con_Check H t S a3 N c3 (trC t S) (trK t S) (trA t S) hs4 ea ta la en ec tn tc ln4 lc4 w5 HT5 HS5 hE5 hK5 hL5 (trC_few HV.out HGS.out (by rw [hN.out]; omega) hTX.out) (trA_bd HV.out (by rw [hN.out]; omega) hTX.out))
    rw [trCh hTX.out] at hck
    go_wp2_with (first
      | (with_reducible refine load_struct 34 29 _ 7 size_tables _ Try.underlying29 ⟨gT, 0, none⟩ rfl (tcells H) rfl (fun j u hj => by rw [Addr.add_lit, Nat.zero_add]; exact HX5.at_ hj) ?_)
      | (with_reducible refine load_struct 36 39 _ 3 size_cert _ Try.underlying39 ⟨gC, 0, none⟩ rfl [.slice ea en ec, .slice ta tn tc, .slice la ln4 lc4] rfl (fun j u hj => by rw [Addr.add_lit, Nat.zero_add]; exact HC5.at_ hj) ?_)
      | (go_at_call 27; refine hck.out.mono ?_; rintro e w6 ⟨rfl, hb6⟩; refine hold ?_))
    refine hide ?_
    have HX6 := HX5.under hb6
    have HC6 := HC5.under hb6
    have HT6 := HT5.below hb6
    have HS6 := HS5.below hb6
    have hE6 := hE5.below hb6
    have hM6 := hM5.below hb6
    have hB6 := hB5.trans (hb6.mono hB5.size)
    clear HX5 HC5 HT5 HS5 hE5 hK5 hL5 hM5 hB5 hb6 hck
    have hen : Hid ((en : Int) = numV t S) := hide (by rw [hE6.n_eq]; exact trC_len HV.out HGS.out hTX.out)
    have HBs := Box.new w6 63 #[.int .i64 0, .bool false, .bool false]
    have hbB := blo w6 (.cells #[.int .i64 0, .bool false, .bool false] 63)
    go_wp2_with fail
    generalize w6.alloc (.cells _ 63) = w7 at *
    obtain ⟨gS, hgS⟩ : ∃ gS, Hid (w6.heap.size = gS) := ⟨_, hide rfl⟩
    rw [hgS.out] at HBs hbB ⊢
    have hS7 : gS + 1 ≤ w7.heap.size := HBs.lt
    have hgTS : gT < gS := by rw [← hgS.out]; exact HX6.lt
    have hgCS : gC < gS := by rw [← hgS.out]; exact HC6.lt
    have hgwS : w.heap.size ≤ gS := by rw [← hgS.out]; exact hB6.size
    clear hE6
    go_loopg [12, 13, 14] (measP S 0 s00) (fun gh v12 v13 v14 w' => ∃ (i : Nat) (s : St) (cc k : Nat), gh = measP S i s ∧ v12 = .int .i64 (i : Int) ∧ v13 = .int .i64 (cc : Int) ∧ v14 = .int .i64 (k : Int) ∧ i ≤ N ∧ (s.lang = 0 ∨ s.lang = 1) ∧ Box w' gS 63 (scells s) ∧ Below gS w6 w' ∧ gS + 1 ≤ w'.heap.size ∧ k + measP S i s ≤ 2 * N + 1 ∧ cc + 12 * measP S i s ≤ 12 * (2 * N + 1) ∧ (0 ≤ valA (numT t S) i s → numV t S ≤ cc + valA (numT t S) i s))
    case atStart => exact ⟨0, s00, 0, 0, rfl, rfl, rfl, rfl, Nat.zero_le _, .inl rfl, HBs, hbB, hS7, by have := meas_le (l := S) (i := 0) (s := s00); have := hN.out; omega, by have := meas_le (l := S) (i := 0) (s := s00); have := hN.out; omega, fun _ => by unfold numV; omega⟩
    case round =>
      clear HBs hbB hS7
      obtain ⟨i, s, cc, k, hgh, rfl, rfl, rfl, hi, hsl, hX, hb, hBw, hkm, hcm, hval⟩ := hrel
      have HGH := hide hgh
      have HKM := hide hkm
      have HCM := hide hcm
      have HVA := hide hval
      clear hgh hkm hcm hval
      have hb' : Below w6.heap.size w6 wr := by rw [hgS.out]; exact hb
      by_cases hin : i < N
      · have d1 : decide ((i : Int) < (N : Int)) = true := decide_eq_true (by omega)
        have HXr : Box wr gT 29 (tcells H) := HX6.below hb hgTS
        have HTr := HT6.below hb'
        have HSr := HS6.below hb'
        have hinl : i < S.length := by have := hN.out; omega
        have hsN := steps_ofT H t s S (i : Int) (L := stepsL t s S i) rfl a3 N c3 (by have := hN.out; omega) wr HTr HSr
        obtain ⟨L, hL⟩ : ∃ L, Hid (stepsL t s S i = L) := ⟨_, hide rfl⟩
        rw [hL.out] at hsN
        have HSN := hide hsN
        clear hsN
        go_wp2_with (first
          | (with_reducible refine load_struct 45 29 _ 7 size_tables _ Try.underlying29 ⟨gT, 0, none⟩ rfl (tcells H) rfl (fun j u hj => by rw [Addr.add_lit, Nat.zero_add]; exact HXr.at_ hj) ?_)
          | (with_reducible refine load_struct 46 63 _ 3 size_state _ Try.underlying63 ⟨gS, 0, none⟩ rfl (scells s) rfl (fun j u hj => by rw [Addr.add_lit, Nat.zero_add]; exact hX.at_ hj) ?_)
          | (go_at_call 28; refine HSN.out.mono ?_; rintro e w8 ⟨a2, c2, ps2, rfl, hS8, hb8, hty8⟩; refine hold ?_))
        refine hide ?_
        have hX8 := hX.under hb8
        have hb68 := hb.trans (hb8.mono (by omega))
        have hB8 : gS + 1 ≤ w8.heap.size := Nat.le_trans hBw hb8.size
        clear HXr HTr HSr HSN hX hb hb' hBw hb8 hty8
        obtain ⟨LN, hLN⟩ : ∃ LN, L.length = LN := ⟨_, rfl⟩
        rw [hLN] at hS8 ⊢
        have hLN6 : LN ≤ 1000000 := by rw [← hLN, ← hL.out]; exact steps_few HV.out s S i
        have HLN := hide hLN
        clear hLN
        have hbl8 := hB6.trans (hb68.mono hgwS)
        by_cases hl0 : LN = 0
        · have d2 : ((LN : Int) == 0) = true := by simp [hl0]
          have hlv := hide (law8_lives w8)
          go_wp2_with (go_at_call 17; refine hlv.out.mono ?_; rintro e w9 ⟨rfl, hb9⟩)
          go_ret
          exact ⟨rfl, hbl8.trans (hb9.mono hbl8.size)⟩
        · have d2 : ((LN : Int) == 0) = false := by simp [hl0]
          have hM8 : Sl w8 1 am mn mc (m.map I64) := hM6.below (by rw [hgS.out]; exact hb68)
          obtain ⟨q, hq⟩ : ∃ q, atF m (k : Int) LN = q := ⟨_, rfl⟩
          have hqL : q < LN := by rw [← hq]; exact atF_lt (by omega)
          have hat := hide (At_at hq (show (LN : Int) = (LN : Int) from rfl) (by omega) (by omega) HML.out hM8)
          obtain ⟨p, hpk⟩ : ∃ p, ps2[q]? = some p := ⟨_, List.getElem?_eq_getElem (by have := congrArg List.length hS8.eq; rw [List.length_map] at this; have := HLN.out; omega)⟩
          have hkx : (stepsL t s S i)[q]? = some p.1 := by rw [hL.out, ← hS8.eq, List.getElem?_map, hpk]; rfl
          have hxm : p.1 ∈ stepsL t s S i := List.mem_of_getElem? hkx
          have hst := step_meas HV.out HGS.out hinl hsl hxm
          have hcf := step_cells HV.out hxm
          have hsle := step_le HV.out HGS.out hinl hsl hxm
          clear hkx hxm hq
          obtain ⟨b4, o4, hab, hb4', x0, x1, x2, x3, x4, x5⟩ := st_cells hS8 hpk
          subst hab
          have hpn := (hS8.row p (List.mem_of_getElem? hpk)).n_eq
          obtain ⟨⟨⟨sl, sn, si⟩, lnn, cs, ru⟩, ⟨qa, qn, qc⟩⟩ := p
          simp only at x0 x1 x2 x3 x4 x5 hpn hst hcf hsle
          obtain ⟨lk, rfl⟩ : ∃ lk : Nat, lnn = (lk : Int) := ⟨lnn.toNat, by have := hst.2.2.2; omega⟩
          simp only [Int.toNat_natCast] at hst hsle
          have hil : i + lk ≤ N := by have := hN.out; omega
          have hqn12 : qn ≤ 12 := by omega
          have hk3 : k ≤ 3 * N := by have h1 := meas_pos (l := S) (i := i) (s := s) hinl; have := HKM.out; omega
          have HST := hide hst
          have HSLE := hide hsle
          have HPN := hide hpn
          have hcc6 : cc ≤ 100000 := by have := HCM.out; omega
          clear hst hcf hsle hpn hpk
          have hldc : ∀ j u, ([.int .i64 sl, .bool sn, .bool si, .int .i64 (lk : Int), .slice qa qn qc, .int .i64 ru] : List Value)[j]? = some u → w8.cell? ((⟨b4, o4 + q * 6, none⟩ : Addr).add j) = some u := fun j u hj => by
            rw [Addr.add_lit]
            match j, hj with
            | 0, hj => cases hj; exact x0
            | 1, hj => cases hj; exact x1
            | 2, hj => cases hj; exact x2
            | 3, hj => cases hj; exact x3
            | 4, hj => cases hj; exact x4
            | 5, hj => cases hj; exact x5
            | j + 6, hj => cases hj
          have HLD := hide hldc
          clear hldc x0 x1 x2 x3 x4 x5 hS8
          have HP9 := Box.new w8 67 #[.int .i64 sl, .bool sn, .bool si, .int .i64 (lk : Int), .slice qa qn qc, .int .i64 ru]
          have hb89 := blo w8 (.cells #[.int .i64 sl, .bool sn, .bool si, .int .i64 (lk : Int), .slice qa qn qc, .int .i64 ru] 67)
          go_wp2_with (first
            | (go_at_call 21; refine hat.out.mono ?_; rintro e w9 ⟨rfl, rfl⟩)
            | (with_reducible refine index_rowk 60 64 _ _ 67 Try.underlying64 6 size_stp6 b4 o4 LN c2 rfl _ _ q rfl rfl hqL ?_)
            | (with_reducible refine load_struct 61 67 _ 6 size_stp6 _ Try.underlying67 ⟨b4, o4 + q * 6, none⟩ rfl [.int .i64 sl, .bool sn, .bool si, .int .i64 (lk : Int), .slice qa qn qc, .int .i64 ru] rfl HLD.out ?_)
            | (with_reducible refine store_fresh 67 67 _ _ 6 size_stp6 _ rfl (.agg #[.int .i64 sl, .bool sn, .bool si, .int .i64 (lk : Int), .slice qa qn qc, .int .i64 ru]) [.int .i64 sl, .bool sn, .bool si, .int .i64 (lk : Int), .slice qa qn qc, .int .i64 ru] rfl rfl rfl rfl (by simp [Value.oneCell']) ?_; refine hold ?_))
          refine hide ?_
          generalize w8.alloc (.cells _ 67) = w9 at *
          obtain ⟨gP, hgP⟩ : ∃ g, Hid (w8.heap.size = g) := ⟨_, hide rfl⟩
          rw [hgP.out] at HP9 ⊢
          have HP9 : Box w9 gP 67 [.int .i64 sl, .bool sn, .bool si, .int .i64 (lk : Int), .slice qa qn qc, .int .i64 ru] := HP9
          have hX9 := hX8.under hb89
          have hb69 := hb68.trans (hb89.mono (by omega))
          have hB9 : gS + 1 ≤ w9.heap.size := Nat.le_trans hB8 hb89.size
          have z0 : w9.cell? ⟨gP, 0, none⟩ = some (.int .i64 sl) := HP9.at_ rfl
          have z1 : w9.cell? ⟨gP, 1, none⟩ = some (.bool sn) := HP9.at_ rfl
          have z2 : w9.cell? ⟨gP, 2, none⟩ = some (.bool si) := HP9.at_ rfl
          have z3 : w9.cell? ⟨gP, 3, none⟩ = some (.int .i64 (lk : Int)) := HP9.at_ rfl
          have z4 : w9.cell? ⟨gP, 4, none⟩ = some (.slice qa qn qc) := HP9.at_ rfl
          have d3 : decide ((lk : Int) < 0) = false := decide_eq_false (by omega)
          have d4 : decide ((N : Int) < (i : Int) + (lk : Int)) = false := decide_eq_false (by omega)
          have d5 : decide (3 * (N : Int) < (k : Int)) = false := decide_eq_false (by omega)
          clear hX8 hb68 hB8 hb89 HLD hat hbl8 hM8
          have hldS : ∀ j u, ([.int .i64 sl, .bool sn, .bool si] : List Value)[j]? = some u → w9.cell? ((⟨gP, 0, none⟩ : Addr).add j) = some u := fun j u hj => by
            rw [Addr.add_lit, Nat.zero_add]
            match j, hj with
            | 0, hj => cases hj; exact z0
            | 1, hj => cases hj; exact z1
            | 2, hj => cases hj; exact z2
            | j + 3, hj => cases hj
          have HLS := hide hldS
          clear hldS HP9
          go_wp2_with (first
            | (with_reducible refine load_struct 91 63 _ 3 size_state _ Try.underlying63 ⟨gP, 0, none⟩ rfl [.int .i64 sl, .bool sn, .bool si] rfl HLS.out ?_)
            | (with_reducible refine hold_store ?_))
          refine hide ?_
          refine store_all 63 _ _ 63 gS (scells s) [.int .i64 sl, .bool sn, .bool si] (.agg #[.int .i64 sl, .bool sn, .bool si]) size_state hX9 rfl rfl rfl rfl (by simp [Value.oneCell']) ?_; intro w10 hX10 gb10 zb10
          have hb610 := hb69.grown gb10 (by omega) (fun q hq => by cases hq; exact Nat.le_refl _)
          have hB10 : gS + 1 ≤ w10.heap.size := Nat.le_trans hB9 gb10.size
          clear z0 z1 z2 z3 z4 HLS hX9 hb69 hB9 gb10 zb10
          go_wp2_with fail
          go_roundg (measP S (i + lk) ⟨sl, sn, si⟩)
          case measure => have := HGH.out; have := HST.out; omega
          case rel => exact ⟨i + lk, ⟨sl, sn, si⟩, cc + qn, k + 1, rfl, by go_num, by go_num, by go_num, hil, HST.out.2.2.1, hX10, hb610, hB10, by have := HST.out; have := HKM.out; omega, by have := HST.out; have := HCM.out; omega, fun h => by
            have h1 := HSLE.out h
            have h2 := HVA.out h1.1
            have h3 := HPN.out
            try simp only at h1
            omega⟩
      · have d1 : decide ((i : Int) < (N : Int)) = false := decide_eq_false (by omega)
        have hfin : numV t S ≤ cc := by
          obtain rfl : i = S.length := by have := hN.out; omega
          have h1 := val_end t S s hsl
          have h2 := HVA.out (by rw [h1]; exact Int.le_refl _)
          rw [h1] at h2
          omega
        have d2 : decide ((en : Int) ≤ (cc : Int)) = true := decide_eq_true (by rw [hen.out]; exact hfin)
        have d3 : en ≤ cc := by have := hen.out; omega
        have d3' : decide (en ≤ cc) = true := decide_eq_true d3
        have HCr := HC6.below hb hgCS
        have y0 : wr.cell? ⟨gC, 0, none⟩ = some (.slice ea en ec) := HCr.at_ rfl
        have hlv := hide (law8_lives wr)
        have hbl := hB6.trans (hb.mono hgwS)
        clear hfin HVA HCr
        go_wp2_with (go_at_call 17; refine hlv.out.mono ?_; rintro e w9 ⟨rfl, hb9⟩)
        go_ret
        exact ⟨rfl, hbl.trans (hb9.mono hbl.size)⟩
  · have hlv := hide (law8_lives w5)
    go_wp2_with (go_at_call 17; refine hlv.out.mono ?_; rintro e w6 ⟨rfl, hb6⟩)
    go_ret
    exact ⟨rfl, hB5.trans (hb6.mono hB5.size)⟩
end Go.Proofs.Ytlpkicjijlcbfaa
