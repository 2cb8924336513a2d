/- Chapter 08: the walk of ContractEquations. -/
import Derived.Test.YtlpkicjijlcbfaaBaseQO
import Derived.Test.YtlpkicjijlcbfaaLawDL1
set_option linter.unusedVariables false
set_option linter.unusedSimpArgs false
namespace Go.Dx
open Go.RowKit
theorem want_step {f : Stp → Int} {L : List Stp} {k : Nat} {x : Stp} (h : L[k]? = some x) {W : Int} (hW : (leastF f (L.take k)).2 = W) : (leastF f (L.take (k + 1))).2 = if 0 ≤ f x ∧ (W < 0 ∨ f x + x.cells.length < W) then f x + x.cells.length else W := by
  have hk := (List.getElem?_eq_some_iff.1 h).1
  have hf := found_take f L k (by omega)
  rw [leastF_take h]
  have he : ((leastF f (L.take k)).1 < 0) ↔ W < 0 := by
    rw [← hW]
    refine ⟨fun h1 => by rw [(hf.none h1).2.1]; decide, fun h1 => Classical.byContradiction fun h2 => ?_⟩
    obtain ⟨z, _, h4, h5, _⟩ := hf.some (by omega)
    rw [h5] at h1
    omega
  unfold lstep8
  by_cases hc : 0 ≤ f x ∧ (W < 0 ∨ f x + x.cells.length < W)
  · rw [if_pos hc, if_pos ⟨hc.1, hc.2.imp he.2 (fun h => by rw [hW]; exact h)⟩]
  · rw [if_neg hc, if_neg (fun h => hc ⟨h.1, h.2.imp he.1 (fun h => by rw [hW] at h; exact h)⟩)]
    exact hW
theorem least_bd2 {f : Stp → Int} {L : List Stp} {B : Int} (hf : ∀ x ∈ L, f x ≤ B) (hc : ∀ x ∈ L, x.cells.length ≤ 12) (hB : 0 ≤ B) {k : Nat} : -1 ≤ (leastF f (L.take k)).2 ∧ (leastF f (L.take k)).2 ≤ B + 12 := least_bd (fun x hx => hf x (List.mem_of_mem_take hx)) (fun x hx => hc x (List.mem_of_mem_take hx)) hB
end Go.Dx
namespace Go.Proofs.Ytlpkicjijlcbfaa
open Go.RowKit Go.Dx Go.Al
set_option maxRecDepth 100000 in
set_option maxHeartbeats 16000000 in
theorem walk_ContractEquations (n : Int) (l : List Int) (a : Option Addr) (ln lc : Nat) (w : World) (hs : Sl w 1 a ln lc (l.map I64)) (hl : ∀ x ∈ l, -9223372036854775808 ≤ x ∧ x ≤ 9223372036854775807)
    (hn : -9223372036854775808 ≤ n ∧ n ≤ 9223372036854775807) :
    Calls Try.prog 7 #[.int .i64 n, .slice a ln lc] w fun e w' => e = .returned (.bool true) ∧ Below w.heap.size w w' := by
  obtain ⟨S, HSS⟩ : ∃ S, Hid (symsL l = S) := ⟨_, hide rfl⟩
  have hSok := symsL_ok l
  rw [HSS.out] at hSok
  have hS24 := hSok.2
  have hgS : goodS S = true := by
    unfold goodS
    rw [List.all_eq_true]
    intro x hx
    have h := hSok.1 x hx
    unfold plainSy at h
    rw [Bool.and_eq_true] at h
    exact h.1
  have HGS := hide hgS
  clear hSok hgS
  go_enter Try.func7, Try.ntmps7
  go_wp2_with fail
  refine (ref_Tables n hn.1 hn.2 w).mono ?_
  rintro e w1 ⟨H, t, rfl, hT, hG, hb1⟩
  have HV : Hid (validE t = 0) := hide hG.ok
  clear hG
  have Hm := hide hT
  clear hT
  obtain ⟨⟨a0, n0, c0⟩, ⟨a1, n1, c1⟩, ps0, ps1, ⟨ad, nd, cd⟩, ⟨ac, nc, cc⟩, ⟨an, nn, cn⟩, ⟨af, nf, cf⟩, ⟨aw, nw, cw⟩⟩ := H
  unfold TH.v
  simp only [hdv]
  have Y1 := Box.new w1 29 #[.slice a0 n0 c0, .slice a1 n1 c1, .slice ad nd cd, .slice ac nc cc, .slice an nn cn, .slice af nf cf, .slice aw nw cw]
  have hbY := blo w1 (.cells #[.slice a0 n0 c0, .slice a1 n1 c1, .slice ad nd cd, .slice ac nc cc, .slice an nn cn, .slice af nf cf, .slice aw nw cw] 29)
  go_wp2_with fail
  generalize w1.alloc (.cells _ 29) = w2 at *
  obtain ⟨H, hH⟩ : ∃ H : TH, H = ⟨(a0, n0, c0), (a1, n1, c1), ps0, ps1, (ad, nd, cd), (ac, nc, cc), (an, nn, cn), (af, nf, cf), (aw, nw, cw)⟩ := ⟨_, rfl⟩
  have hX2 : Box w2 w1.heap.size 29 (tcells H) := by rw [hH]; exact Y1
  have hT2 : TaIs w2 H t := by rw [hH]; exact Hm.out.below hbY
  have hB2 := hb1.trans (hbY.mono hb1.size)
  clear hH Hm hbY hb1 Y1
  generalize w1.heap.size = gT at *
  refine (ref_Syms l hl a ln lc w2 (hs.below hB2)).mono ?_
  rintro e w3 ⟨a3, c3, rfl, hO3, hb3⟩
  rw [HSS.out] at hO3 ⊢
  have HX3 := hX2.under hb3
  have HT3 := hT2.below hb3
  have hB3 := hB2.trans (hb3.mono hB2.size)
  have HS3 := hO3.sl
  clear hO3 hX2 hT2 hB2 hb3 hs hn hl HSS
  obtain ⟨N, hN⟩ : ∃ N, Hid (S.length = N) := ⟨_, hide rfl⟩
  rw [hN.out] at HS3 hS24 ⊢
  have hFE : Hid (fitsE t S = 0) := hide (fitsE_of HV.out HGS.out (by rw [hN.out]; omega))
  obtain ⟨TX, hTX⟩ : ∃ X, Hid (trE t S = X) := ⟨_, hide rfl⟩
  have hT06 : TX = 0 ∨ TX = 6 := by
    rw [← hTX.out]
    unfold trE
    rw [hFE.out, if_neg (by simp)]
    split
    · exact .inr rfl
    · exact .inl rfl
  have htr := hide (tr_at H t S a3 N c3 w3 HT3 HS3 hTX.out rfl rfl rfl)
  go_wp2_with (first
    | (with_reducible refine load_struct 23 29 _ 7 size_tables _ Try.underlying29 ⟨gT, 0, none⟩ rfl (tcells H) rfl (fun j u hj => by rw [Addr.add_lit, Nat.zero_add]; exact HX3.at_ hj) ?_)
    | (go_at_call 13; refine htr.out.mono ?_; rintro e w4 ⟨⟨v, rfl, hce⟩, hb4⟩; refine hold ?_))
  refine hide ?_
  obtain ⟨ea, en, ec, ta, tn, tc, la, ln4, lc4, hs4, hv, hE4, hK4, hL4⟩ := hce.ce
  subst hv
  have HX4 := HX3.under hb4
  have HT4 := HT3.below hb4
  have HS4 := HS3.below hb4
  have hB4 := hB3.trans (hb4.mono hB3.size)
  clear hce HX3 HT3 HS3 hB3 hb4 htr
  have HC5 := Box.new w4 39 #[.slice ea en ec, .slice ta tn tc, .slice la ln4 lc4]
  have hb5 := blo w4 (.cells #[.slice ea en ec, .slice ta tn tc, .slice la ln4 lc4] 39)
  go_upto_region 4 with fail
  generalize w4.alloc (.cells #[.slice ea en ec, .slice ta tn tc, .slice la ln4 lc4] 39) = w5 at *
  obtain ⟨gC, hgC⟩ : ∃ g, Hid (w4.heap.size = g) := ⟨_, hide rfl⟩
  rw [hgC.out] at HC5 ⊢
  have HX5 := HX4.under hb5
  have HT5 := HT4.below hb5
  have HS5 := HS4.below hb5
  have hE5 := hE4.below hb5
  have hK5 := hK4.below hb5
  have hL5 := hL4.below hb5
  have hB5 := hB4.trans (hb5.mono hB4.size)
  have HC5 : Box w5 gC 39 [.slice ea en ec, .slice ta tn tc, .slice la ln4 lc4] := HC5
  clear HX4 HT4 HS4 hE4 hK4 hL4 hB4 hb5
  rcases hT06 with rfl | rfl
  · have eA : trA t S = numT t S := by unfold trA; rw [if_pos hTX.out]
    rw [eA] at hL5
    have hln4 : ln4 = N + 1 := by rw [hL5.n_eq, numT_len, hN.out]
    obtain ⟨M, hM⟩ : ∃ M, Hid (N + 1 = M) := ⟨_, hide rfl⟩
    have hMI : (N : Int) + 1 = (M : Int) := by have := hM.out; omega
    obtain rfl : ln4 = M := by rw [hln4]; exact hM.out
    have hM24 : ln4 ≤ 25 := by have := hM.out; omega
    have HNI : Hid ((numT t S).length = ln4) := hide (by rw [numT_len, hN.out]; exact hM.out)
    have y2 : w5.cell? ⟨gC, 2, none⟩ = some (.slice la ln4 lc4) := HC5.at_ rfl
    have HR8 : Hid (∀ r ∈ numT t S, r.length = 8) := hide (sufT_rows t S _)
    have hrows : Hid (∀ j, j < ln4 → ∃ ra rc r, (hs4.map hdv)[j]? = some (.slice ra 8 rc) ∧ (numT t S)[j]? = some r ∧ r.length = 8 ∧ Sl w5 1 ra 8 rc (r.map I64)) := hide (fun j hj => by
      obtain ⟨r, hr⟩ : ∃ r, (numT t S)[j]? = some r := ⟨_, List.getElem?_eq_getElem (by rw [HNI.out]; exact hj)⟩
      obtain ⟨⟨x1, x2, x3⟩, hx⟩ : ∃ h, hs4[j]? = some h := ⟨_, List.getElem?_eq_getElem (by rw [hL5.len, HNI.out]; exact hj)⟩
      have h1 := hL5.row j _ r hx hr
      have h2 := HR8.out r (List.mem_of_getElem? hr)
      obtain rfl : x2 = 8 := by rw [← h2]; exact h1.n_eq
      exact ⟨x1, x3, r, by rw [List.getElem?_map, hx]; rfl, hr, h2, h1⟩)
    clear hln4 eA hE5 hK5
    go_wp2_with fail
    clear y2
    go_loopg [9] ln4 (fun gh v w' => ∃ j : Nat, j ≤ ln4 ∧ gh = ln4 - j ∧ v = .int .i64 (j : Int) ∧ w5 = w')
    case atStart => exact ⟨0, Nat.zero_le _, rfl, rfl, rfl⟩
    case round =>
      obtain ⟨j, hj, rfl, rfl, rfl⟩ := hrel
      by_cases hjM : j < ln4
      · have d1 : decide ((j : Int) ≤ (N : Int)) = true := decide_eq_true (by have := hM.out; omega)
        have d1' : decide (j ≤ N) = true := decide_eq_true (by have := hM.out; omega)
        obtain ⟨ra, rc, r, hra, -, -, -⟩ := hrows.out j hjM
        have y2 : w5.cell? ⟨gC, 2, none⟩ = some (.slice la ln4 lc4) := HC5.at_ rfl
        have htop := hL5.top
        go_wp2_with (with_reducible refine idx_ii 51 _ _ la ln4 lc4 _ rfl htop _ _ j rfl rfl _ hra ?_; intro bI oI hcI hbI)
        go_roundg (ln4 - (j + 1))
        case measure => omega
        case rel => exact ⟨j + 1, by omega, rfl, by go_num, rfl⟩
      · obtain rfl : j = ln4 := by omega
        have d1 : decide ((j : Int) ≤ (N : Int)) = false := decide_eq_false (by have := hM.out; omega)
        have d1' : decide (j ≤ N) = false := decide_eq_false (by have := hM.out; omega)
        go_wp2_with fail
        clear d1 d1' hj hjM
        obtain ⟨ln4, rfl⟩ : ∃ z : Nat, z = j := ⟨_, rfl⟩
        go_loopg [10] ln4 (fun gh v w' => ∃ j : Nat, j ≤ ln4 ∧ gh = ln4 - j ∧ v = .int .i64 (j : Int) ∧ Below w5.heap.size w5 w')
        case atStart => exact ⟨0, Nat.zero_le _, rfl, rfl, Below.refl _ _⟩
        case round =>
          as_aux_lemma =>
            obtain ⟨at_, hat, rfl, rfl, hb⟩ := hrel
            by_cases haM : at_ < ln4
            · have d1 : decide ((at_ : Int) ≤ (N : Int)) = true := decide_eq_true (by have := hM.out; omega)
              have d1' : decide (at_ ≤ N) = true := decide_eq_true (by have := hM.out; omega)
              obtain ⟨ra0, rc0, r0, hra0, hr0, hr08, hrow0⟩ := hrows.out at_ haM
              have HRA := hide hra0
              have HR0 := hide hr0
              clear hra0 hr0
              go_wp2_with fail
              clear d1 d1'
              go_loopg [11] 8 (fun gh v w' => ∃ k : Nat, k ≤ 8 ∧ gh = 8 - k ∧ v = .int .i64 (k : Int) ∧ Below w5.heap.size w5 w')
              case atStart => exact ⟨0, Nat.zero_le _, rfl, rfl, hb⟩
              case round =>
                clear hb
                obtain ⟨k, hk, rfl, rfl, hb⟩ := hrel
                by_cases hk8 : k < 8
                · have d2 : decide ((k : Int) < 8) = true := decide_eq_true (by omega)
                  have d2' : decide (k < 8) = true := decide_eq_true hk8
                  obtain ⟨s8, hs8⟩ : ∃ s, Hid (stN k = s) := ⟨_, hide rfl⟩
                  have hsl8k : s8.lang = 0 ∨ s8.lang = 1 := by rw [← hs8.out]; exact stN_lang k hk8
                  go_upto_region 19 with fail
                  go_cut [12] (fun v w' => ∃ g, v = .pointer (some ⟨g, 0, none⟩) ∧ Box w' g 63 (scells s8) ∧ Below w5.heap.size w5 w')
                  case first =>
                    as_aux_lemma =>
                      have hk01 : k = 0 ∨ k = 1 ∨ k = 2 ∨ k = 3 ∨ k = 4 ∨ k = 5 ∨ k = 6 ∨ k = 7 := by omega
                      have hc0 := Box.new wr 63 (scells s8).toArray
                      have hb0 := hb.trans ((blo wr (.cells (scells s8).toArray 63)).mono hb.size)
                      have hsv := hs8.out
                      clear d2 d2' hk hk8
                      rcases hk01 with rfl | rfl | rfl | rfl | rfl | rfl | rfl | rfl <;> (subst hsv; go_wp2_with fail; go_meet; exact ⟨_, rfl, hc0, hb0⟩)
                  case rest =>
                    as_aux_lemma =>
                      clear hb
                      obtain ⟨gK, rfl, hXK, hb⟩ := hcut
                      obtain ⟨vv, hvv⟩ : ∃ vv, r0[k]? = some vv := ⟨_, List.getElem?_eq_getElem (by rw [hr08]; exact hk8)⟩
                      have HVV := hide hvv
                      have hval : Hid (vv = valA (numT t S) at_ s8) := hide (by
                        unfold valA
                        have e1 : (numT t S).getD at_ [] = r0 := by rw [List.getD_eq_getElem?_getD, HR0.out]; rfl
                        rw [e1, ← hs8.out, numS_stN k hk8, List.getD_eq_getElem?_getD, hvv]
                        rfl)
                      clear hvv d2'
                      by_cases haN : at_ = N
                      · skip
                        as_aux_lemma =>
                          have hvz : vv = 0 := by
                            rw [hval.out]
                            have h1 := val_end t S s8 hsl8k
                            rw [hN.out, ← haN] at h1
                            exact h1
                          obtain rfl := hvz
                          have d3 : ((at_ : Int) == (N : Int)) = true := by simp [haN]
                          have d4 : decide ((at_ : Int) < (N : Int)) = false := decide_eq_false (by omega)
                          have d4' : decide (at_ < N) = false := decide_eq_false (by omega)
                          have y2 : wc.cell? ⟨gC, 2, none⟩ = some (.slice la ln4 lc4) := (HC5.under hb).at_ rfl
                          have htop := hL5.top.below hb
                          have hrw := hrow0.below hb
                          clear haN
                          go_wp2_with fail
                          go_loopg [13, 15] 0 (fun gh v13 v w' => v13 = .int .i64 0 ∧ v = .int .i64 0 ∧ wc = w')
                          case atStart => exact ⟨rfl, rfl, rfl⟩
                          case round =>
                            obtain ⟨rfl, rfl, rfl⟩ := hrel
                            go_wp2_with (first
                              | (with_reducible refine idx_ii 183 _ _ la ln4 lc4 _ rfl htop _ _ at_ rfl rfl _ HRA.out ?_; intro bI oI hcI hbI)
                              | (with_reducible refine idx_i 186 _ _ ra0 8 rc0 r0 rfl hrw _ _ k rfl rfl _ HVV.out ?_; intro bJ oJ hcJ hbJ))
                            go_roundg (8 - (k + 1))
                            case measure => omega
                            case rel => exact ⟨k + 1, by omega, rfl, by go_num, hb⟩
                      · have hatN : at_ < N := by have := hM.out; omega
                        have d3 : ((at_ : Int) == (N : Int)) = false := by simp; omega
                        have d4 : decide ((at_ : Int) < (N : Int)) = true := decide_eq_true (by omega)
                        have d4' : decide (at_ < N) = true := decide_eq_true hatN
                        have hinl : at_ < S.length := by have := hN.out; omega
                        have HXr := HX5.under hb
                        have HTr := HT5.below hb
                        have HSr := HS5.below hb
                        have hsN := steps_ofT H t s8 S (at_ : Int) (L := stepsL t s8 S at_) rfl a3 N c3 (by have := hN.out; omega) wc HTr HSr
                        obtain ⟨L, hL⟩ : ∃ L, Hid (stepsL t s8 S at_ = L) := ⟨_, hide rfl⟩
                        rw [hL.out] at hsN
                        have HSN := hide hsN
                        clear hsN
                        go_wp2_with (first
                          | (with_reducible refine load_struct 83 29 _ 7 size_tables _ Try.underlying29 ⟨gT, 0, none⟩ rfl (tcells H) rfl (fun j u hj => by rw [Addr.add_lit, Nat.zero_add]; exact HXr.at_ hj) ?_)
                          | (with_reducible refine load_struct 84 63 _ 3 size_state _ Try.underlying63 ⟨gK, 0, none⟩ rfl (scells s8) rfl (fun j u hj => by rw [Addr.add_lit, Nat.zero_add]; exact hXK.at_ hj) ?_)
                          | (go_at_call 28; refine HSN.out.mono ?_; rintro e w7 ⟨a2, c2, ps2, rfl, hS7, hb7, hty7⟩; refine hold ?_))
                        refine hide ?_
                        have hbw7 := hb.trans (hb7.mono hb.size)
                        clear HXr HTr HSr HSN hXK hb hb7 hty7
                        obtain ⟨LN, hLN⟩ : ∃ LN, L.length = LN := ⟨_, rfl⟩
                        rw [hLN] at hS7 ⊢
                        have hLN6 : LN ≤ 1000000 := by rw [← hLN, ← hL.out]; exact steps_few HV.out s8 S at_
                        have HLN := hide hLN
                        clear hLN d3 d4 d4'
                        have hbdA := bd_num t S HV.out (by rw [hN.out]; omega)
                        have hLB : Hid (∀ x ∈ L, lookA (numT t S) at_ x ≤ 1000000) := hide (fun x hx => by
                          rw [← hL.out] at hx
                          have hm := step_meas HV.out HGS.out hinl hsl8k hx
                          have hrl := (lkt_all HV.out HGS.out hinl hsl8k (A := numT t S) (by rw [numT_len]) hbdA x hx).hi
                          exact hrl)
                        have hLC : Hid (∀ x ∈ L, x.cells.length ≤ 12) := hide (fun x hx => step_cells HV.out (by rw [hL.out]; exact hx))
                        go_wp2_with fail
                        go_loopg [13, 15] LN (fun gh v13 v15 w' => ∃ (i : Nat) (W : Int), i ≤ LN ∧ gh = LN - i ∧ v15 = .int .i64 (i : Int) ∧ v13 = .int .i64 W ∧ Below w7.heap.size w7 w' ∧ (leastF (lookA (numT t S) at_) (L.take i)).2 = W)
                        case atStart => exact ⟨0, -1, Nat.zero_le _, rfl, rfl, rfl, Below.refl _ _, rfl⟩
                        case round =>
                          as_aux_lemma =>
                            obtain ⟨i, W, hi, rfl, rfl, rfl, hb, hW⟩ := hrel
                            have hb8 := hbw7.trans (hb.mono hbw7.size)
                            have hS8 := hS7.below hb
                            have HWI := hide hW
                            have hWb := least_bd2 (k := i) hLB.out hLC.out (by decide)
                            rw [hW] at hWb
                            have hWb1 := hWb.1
                            have hWb2 := hWb.2
                            have hbq := hb
                            clear hW hWb hb
                            by_cases hiL : i < LN
                            · have d5 : decide ((i : Int) < (LN : Int)) = true := decide_eq_true (by omega)
                              obtain ⟨p, hpk⟩ : ∃ p, ps2[i]? = some p := ⟨_, List.getElem?_eq_getElem (by have := congrArg List.length hS8.eq; rw [List.length_map] at this; have := HLN.out; omega)⟩
                              have hkx : L[i]? = some p.1 := by rw [← hS8.eq, List.getElem?_map, hpk]; rfl
                              have hxm : p.1 ∈ stepsL t s8 S at_ := by rw [hL.out]; exact List.mem_of_getElem? hkx
                              have hst := step_meas HV.out HGS.out hinl hsl8k hxm
                              have hcf := step_cells HV.out hxm
                              have hws := want_step hkx HWI.out
                              obtain ⟨b4, o4, hab, hb4', x0, x1, x2, x3, x4, x5⟩ := st_cells hS8 hpk
                              subst hab
                              have hpn := (hS8.row p (List.mem_of_getElem? hpk)).n_eq
                              obtain ⟨⟨⟨sl, sn, si⟩, lnn, cs, ru⟩, ⟨qa, qn, qc⟩⟩ := p
                              simp only at x0 x1 x2 x3 x4 x5 hpn hst hcf hws
                              obtain ⟨lk, rfl⟩ : ∃ lk : Nat, lnn = (lk : Int) := ⟨lnn.toNat, by have := hst.2.2.2; omega⟩
                              simp only [Int.toNat_natCast] at hst
                              have hil : at_ + lk ≤ N := by have := hN.out; omega
                              have hil2 : at_ + lk < ln4 := by have := hM.out; omega
                              have hqn12 : qn ≤ 12 := by omega
                              have hsl8 := hide hst.2.2.1
                              obtain ⟨tn8, htn8⟩ : ∃ z, Hid (numS ⟨sl, sn, si⟩ = z) := ⟨_, hide rfl⟩
                              have htn : tn8 < 8 := by rw [← htn8.out]; exact numS_lt hst.2.2.1
                              obtain ⟨ra, rc, RR, hra, hRRe, hRR8, hRRs⟩ := hrows.out (at_ + lk) hil2
                              obtain ⟨rv, hrvv⟩ : ∃ v, RR[tn8]? = some v := ⟨_, List.getElem?_eq_getElem (by rw [hRR8]; exact htn)⟩
                              have hlook : lookA (numT t S) at_ ⟨⟨sl, sn, si⟩, (lk : Int), cs, ru⟩ = rv := by
                                unfold lookA
                                simp only [Int.toNat_natCast]
                                have e1 : (numT t S).getD (at_ + lk) [] = RR := by rw [List.getD_eq_getElem?_getD, hRRe]; rfl
                                rw [e1, htn8.out, List.getD_eq_getElem?_getD, hrvv]
                                rfl
                              rw [hlook, ← hpn] at hws
                              have hrb : Hid (rv ≤ 1000000) := hide (by rw [← hlook]; exact hLB.out _ (by rw [← hL.out]; exact hxm))
                              have HWS := hide hws
                              have hrw := hide hra
                              have hRR := hide hRRs
                              have hrv := hide hrvv
                              have e3 : decide ((tn8 : Int) < 0) = false := decide_eq_false (by omega)
                              have e4 : decide ((7 : Int) < (tn8 : Int)) = false := decide_eq_false (by omega)
                              have e4' : decide (7 < tn8) = false := decide_eq_false (by omega)
                              have e5 : decide ((lk : Int) < 0) = false := decide_eq_false (by omega)
                              have e6 : decide ((N : Int) < (at_ : Int) + (lk : Int)) = false := decide_eq_false (by omega)
                              have e7 : decide (N < at_ + lk) = false := decide_eq_false (by omega)
                              clear hpn hst hcf hkx hxm hws hlook hra hRRe hRR8 hRRs hrvv hpk x5 HWI
                              go_wp2_with fail
                              refine wp_region_free 20 [⟨0, 94, [94], fun vs _ => vs = [.slice (some ⟨b4, o4, none⟩) LN c2]⟩, ⟨1, 95, [95], fun vs _ => vs = [.int .i64 (i : Int)]⟩, ⟨2, 96, [96], fun vs _ => vs = [.pointer (some ⟨b4, o4 + i * 6, none⟩)]⟩, ⟨3, 97, [97], fun vs _ => vs = [.pointer (some ⟨b4, o4 + i * 6, none⟩)]⟩, ⟨4, 98, [98], fun vs _ => vs = [.pointer (some ⟨b4, o4 + i * 6, none⟩)]⟩, ⟨5, 99, [99], fun vs _ => vs = [.int .i64 sl]⟩, ⟨6, 100, [100], fun vs _ => vs = [.slice (some ⟨b4, o4, none⟩) LN c2]⟩, ⟨7, 101, [101], fun vs _ => vs = [.int .i64 (i : Int)]⟩, ⟨8, 102, [102], fun vs _ => vs = [.pointer (some ⟨b4, o4 + i * 6, none⟩)]⟩, ⟨9, 103, [103], fun vs _ => vs = [.pointer (some ⟨b4, o4 + i * 6, none⟩)]⟩, ⟨10, 104, [104], fun vs _ => vs = [.pointer (some ⟨b4, o4 + i * 6 + 1, none⟩)]⟩, ⟨11, 105, [105], fun vs _ => vs = [.bool sn]⟩, ⟨12, 106, [106], fun vs _ => vs = [.slice (some ⟨b4, o4, none⟩) LN c2]⟩, ⟨13, 107, [107], fun vs _ => vs = [.int .i64 (i : Int)]⟩, ⟨14, 108, [108], fun vs _ => vs = [.pointer (some ⟨b4, o4 + i * 6, none⟩)]⟩, ⟨15, 109, [109], fun vs _ => vs = [.pointer (some ⟨b4, o4 + i * 6, none⟩)]⟩, ⟨16, 110, [110], fun vs _ => vs = [.pointer (some ⟨b4, o4 + i * 6 + 2, none⟩)]⟩, ⟨17, 111, [111], fun vs _ => vs = [.bool si]⟩, ⟨18, 112, [112], fun vs _ => vs = [.agg #[.int .i64 sl, .bool sn, .bool si]]⟩, ⟨19, 113, [113], fun vs _ => vs = [.int .i64 (tn8 : Int)]⟩] (by kernel_rfl) (by kernel_rfl) ?_ ?_ ?_
                              · simp only [All]
                                refine ⟨fun _ _ _ _ h => h, fun _ _ _ _ h => h, fun _ _ _ _ h => h, fun _ _ _ _ h => h, fun _ _ _ _ h => h, fun _ _ _ _ h => h, fun _ _ _ _ h => h, fun _ _ _ _ h => h, fun _ _ _ _ h => h, fun _ _ _ _ h => h, fun _ _ _ _ h => h, fun _ _ _ _ h => h, fun _ _ _ _ h => h, fun _ _ _ _ h => h, fun _ _ _ _ h => h, fun _ _ _ _ h => h, fun _ _ _ _ h => h, fun _ _ _ _ h => h, fun _ _ _ _ h => h, fun _ _ _ _ h => h, trivial⟩
                              · simp only [All]
                                refine ⟨?_, ?_, ?_, ?_, ?_, ?_, ?_, ?_, ?_, ?_, ?_, ?_, ?_, ?_, ?_, ?_, ?_, ?_, ?_, ?_, trivial⟩
                                · intro o ho a' w' hb hfr hdep
                                  obtain rfl := Option.some.inj ho
                                  have g14 : a'.tmps[14]?.getD undef = .slice (some ⟨b4, o4, none⟩) LN c2 := by have h := hfr 14 (by kernel_rfl); simpa using h
                                  clear ho hfr hdep
                                  go_wp2_with fail
                                  exact ⟨rfl, _, rfl, Below.refl _ _, rfl⟩
                                · intro o ho a' w' hb hfr hdep
                                  obtain rfl := Option.some.inj ho
                                  have g15 : a'.tmps[15]?.getD undef = .int .i64 (i : Int) := by have h := hfr 15 (by kernel_rfl); simpa using h
                                  clear ho hfr hdep
                                  go_wp2_with fail
                                  exact ⟨rfl, _, rfl, Below.refl _ _, rfl⟩
                                · intro o ho a' w' hb hfr hdep
                                  obtain rfl := Option.some.inj ho
                                  have g94 : a'.tmps[94]?.getD undef = .slice (some ⟨b4, o4, none⟩) LN c2 := by have h := hdep 0 _ rfl (by kernel_rfl); simpa using h
                                  have g95 : a'.tmps[95]?.getD undef = .int .i64 (i : Int) := by have h := hdep 1 _ rfl (by kernel_rfl); simpa using h
                                  clear ho hfr hdep
                                  refine index_rowk 96 64 _ _ 67 Try.underlying64 6 size_stp6 b4 o4 LN c2 (by show a'.tmps.getD 94 undef = _; simpa using g94) _ _ i (by show a'.tmps.getD 95 undef = _; simpa using g95) rfl hiL ?_
                                  exact ⟨rfl, _, rfl, Below.refl _ _, rfl⟩
                                · intro o ho a' w' hb hfr hdep
                                  obtain rfl := Option.some.inj ho
                                  have g96 : a'.tmps[96]?.getD undef = .pointer (some ⟨b4, o4 + i * 6, none⟩) := by have h := hdep 2 _ rfl (by kernel_rfl); simpa using h
                                  clear ho hfr hdep
                                  go_wp2_with fail
                                  exact ⟨rfl, _, rfl, Below.refl _ _, rfl⟩
                                · intro o ho a' w' hb hfr hdep
                                  obtain rfl := Option.some.inj ho
                                  have g97 : a'.tmps[97]?.getD undef = .pointer (some ⟨b4, o4 + i * 6, none⟩) := by have h := hdep 3 _ rfl (by kernel_rfl); simpa using h
                                  clear ho hfr hdep
                                  go_wp2_with fail
                                  exact ⟨rfl, _, rfl, Below.refl _ _, rfl⟩
                                · intro o ho a' w' hb hfr hdep
                                  obtain rfl := Option.some.inj ho
                                  have g98 : a'.tmps[98]?.getD undef = .pointer (some ⟨b4, o4 + i * 6, none⟩) := by have h := hdep 4 _ rfl (by kernel_rfl); simpa using h
                                  clear ho hfr hdep
                                  have hcl := cell_below x0 hb
                                  go_wp2_with fail
                                  exact ⟨rfl, _, rfl, Below.refl _ _, rfl⟩
                                · intro o ho a' w' hb hfr hdep
                                  obtain rfl := Option.some.inj ho
                                  have g14 : a'.tmps[14]?.getD undef = .slice (some ⟨b4, o4, none⟩) LN c2 := by have h := hfr 14 (by kernel_rfl); simpa using h
                                  clear ho hfr hdep
                                  go_wp2_with fail
                                  exact ⟨rfl, _, rfl, Below.refl _ _, rfl⟩
                                · intro o ho a' w' hb hfr hdep
                                  obtain rfl := Option.some.inj ho
                                  have g15 : a'.tmps[15]?.getD undef = .int .i64 (i : Int) := by have h := hfr 15 (by kernel_rfl); simpa using h
                                  clear ho hfr hdep
                                  go_wp2_with fail
                                  exact ⟨rfl, _, rfl, Below.refl _ _, rfl⟩
                                · intro o ho a' w' hb hfr hdep
                                  obtain rfl := Option.some.inj ho
                                  have g100 : a'.tmps[100]?.getD undef = .slice (some ⟨b4, o4, none⟩) LN c2 := by have h := hdep 6 _ rfl (by kernel_rfl); simpa using h
                                  have g101 : a'.tmps[101]?.getD undef = .int .i64 (i : Int) := by have h := hdep 7 _ rfl (by kernel_rfl); simpa using h
                                  clear ho hfr hdep
                                  refine index_rowk 102 64 _ _ 67 Try.underlying64 6 size_stp6 b4 o4 LN c2 (by show a'.tmps.getD 100 undef = _; simpa using g100) _ _ i (by show a'.tmps.getD 101 undef = _; simpa using g101) rfl hiL ?_
                                  exact ⟨rfl, _, rfl, Below.refl _ _, rfl⟩
                                · intro o ho a' w' hb hfr hdep
                                  obtain rfl := Option.some.inj ho
                                  have g102 : a'.tmps[102]?.getD undef = .pointer (some ⟨b4, o4 + i * 6, none⟩) := by have h := hdep 8 _ rfl (by kernel_rfl); simpa using h
                                  clear ho hfr hdep
                                  go_wp2_with fail
                                  exact ⟨rfl, _, rfl, Below.refl _ _, rfl⟩
                                · intro o ho a' w' hb hfr hdep
                                  obtain rfl := Option.some.inj ho
                                  have g103 : a'.tmps[103]?.getD undef = .pointer (some ⟨b4, o4 + i * 6, none⟩) := by have h := hdep 9 _ rfl (by kernel_rfl); simpa using h
                                  clear ho hfr hdep
                                  go_wp2_with fail
                                  exact ⟨rfl, _, rfl, Below.refl _ _, rfl⟩
                                · intro o ho a' w' hb hfr hdep
                                  obtain rfl := Option.some.inj ho
                                  have g104 : a'.tmps[104]?.getD undef = .pointer (some ⟨b4, o4 + i * 6 + 1, none⟩) := by have h := hdep 10 _ rfl (by kernel_rfl); simpa using h
                                  clear ho hfr hdep
                                  have hcl := cell_below x1 hb
                                  go_wp2_with fail
                                  exact ⟨rfl, _, rfl, Below.refl _ _, rfl⟩
                                · intro o ho a' w' hb hfr hdep
                                  obtain rfl := Option.some.inj ho
                                  have g14 : a'.tmps[14]?.getD undef = .slice (some ⟨b4, o4, none⟩) LN c2 := by have h := hfr 14 (by kernel_rfl); simpa using h
                                  clear ho hfr hdep
                                  go_wp2_with fail
                                  exact ⟨rfl, _, rfl, Below.refl _ _, rfl⟩
                                · intro o ho a' w' hb hfr hdep
                                  obtain rfl := Option.some.inj ho
                                  have g15 : a'.tmps[15]?.getD undef = .int .i64 (i : Int) := by have h := hfr 15 (by kernel_rfl); simpa using h
                                  clear ho hfr hdep
                                  go_wp2_with fail
                                  exact ⟨rfl, _, rfl, Below.refl _ _, rfl⟩
                                · intro o ho a' w' hb hfr hdep
                                  obtain rfl := Option.some.inj ho
                                  have g106 : a'.tmps[106]?.getD undef = .slice (some ⟨b4, o4, none⟩) LN c2 := by have h := hdep 12 _ rfl (by kernel_rfl); simpa using h
                                  have g107 : a'.tmps[107]?.getD undef = .int .i64 (i : Int) := by have h := hdep 13 _ rfl (by kernel_rfl); simpa using h
                                  clear ho hfr hdep
                                  refine index_rowk 108 64 _ _ 67 Try.underlying64 6 size_stp6 b4 o4 LN c2 (by show a'.tmps.getD 106 undef = _; simpa using g106) _ _ i (by show a'.tmps.getD 107 undef = _; simpa using g107) rfl hiL ?_
                                  exact ⟨rfl, _, rfl, Below.refl _ _, rfl⟩
                                · intro o ho a' w' hb hfr hdep
                                  obtain rfl := Option.some.inj ho
                                  have g108 : a'.tmps[108]?.getD undef = .pointer (some ⟨b4, o4 + i * 6, none⟩) := by have h := hdep 14 _ rfl (by kernel_rfl); simpa using h
                                  clear ho hfr hdep
                                  go_wp2_with fail
                                  exact ⟨rfl, _, rfl, Below.refl _ _, rfl⟩
                                · intro o ho a' w' hb hfr hdep
                                  obtain rfl := Option.some.inj ho
                                  have g109 : a'.tmps[109]?.getD undef = .pointer (some ⟨b4, o4 + i * 6, none⟩) := by have h := hdep 15 _ rfl (by kernel_rfl); simpa using h
                                  clear ho hfr hdep
                                  go_wp2_with fail
                                  exact ⟨rfl, _, rfl, Below.refl _ _, rfl⟩
                                · intro o ho a' w' hb hfr hdep
                                  obtain rfl := Option.some.inj ho
                                  have g110 : a'.tmps[110]?.getD undef = .pointer (some ⟨b4, o4 + i * 6 + 2, none⟩) := by have h := hdep 16 _ rfl (by kernel_rfl); simpa using h
                                  clear ho hfr hdep
                                  have hcl := cell_below x2 hb
                                  go_wp2_with fail
                                  exact ⟨rfl, _, rfl, Below.refl _ _, rfl⟩
                                · intro o ho a' w' hb hfr hdep
                                  obtain rfl := Option.some.inj ho
                                  have g99 : a'.tmps[99]?.getD undef = .int .i64 sl := by have h := hdep 5 _ rfl (by kernel_rfl); simpa using h
                                  have g105 : a'.tmps[105]?.getD undef = .bool sn := by have h := hdep 11 _ rfl (by kernel_rfl); simpa using h
                                  have g111 : a'.tmps[111]?.getD undef = .bool si := by have h := hdep 17 _ rfl (by kernel_rfl); simpa using h
                                  clear ho hfr hdep
                                  go_wp2_with fail
                                  exact ⟨rfl, _, rfl, Below.refl _ _, rfl⟩
                                · intro o ho a' w' hb hfr hdep
                                  obtain rfl := Option.some.inj ho
                                  have g112 : a'.tmps[112]?.getD undef = .agg #[.int .i64 sl, .bool sn, .bool si] := by have h := hdep 18 _ rfl (by kernel_rfl); simpa using h
                                  clear ho hfr hdep
                                  have hnm := hide (r8_Number ⟨sl, sn, si⟩ hsl8.out w')
                                  rw [htn8.out] at hnm
                                  go_wp2_with (go_at_call 29; refine hnm.out.mono ?_; rintro e w2 ⟨rfl, h2⟩)
                                  exact ⟨rfl, _, rfl, h2, rfl⟩
                              · intro gg w9 hbl hp'
                                have p113 := hp' 19 _ rfl
                                clear hp'
                                simp at p113
                                simp only [List.drop_succ_cons, List.drop_zero, List.map_cons, List.map_nil, putAll, Act.put, List.setIfInBounds_toArray, List.set_cons_succ, List.set_cons_zero, List.cons_append, List.nil_append, p113]
                                clear p113
                                have hb9 := hb8.trans (hbl.mono hb8.size)
                                have hbq9 := hbq.trans (hbl.mono hbq.size)
                                have hS9 := hS8.below hbl
                                have y3 := cell_below x3 hbl
                                have y4 := cell_below x4 hbl
                                clear x0 x1 x2 x3 x4 hb8 hbl hbq
                                obtain ⟨w9, rfl⟩ : ∃ z : World, z = w9 := ⟨_, rfl⟩
                                go_upto_region 32 with (refine unguard_any (by first | rfl | (simp [Region.wanted, yielded, Act.put]; done)) ?_; with_reducible refine index_rowk _ 64 _ _ 67 Try.underlying64 6 size_stp6 b4 o4 LN c2 rfl _ _ i rfl rfl hiL ?_)
                                have HC9 := HC5.under hb9
                                have hL9 := hL5.below hb9
                                have cL : w9.cell? ⟨gC, 2, none⟩ = some (.slice la ln4 lc4) := HC9.at_ rfl
                                refine wp_region_free 14 [⟨0, 140, [140], fun vs _ => vs = [.pointer (some ⟨gC, 2, none⟩)]⟩, ⟨1, 141, [141], fun vs _ => vs = [.slice la ln4 lc4]⟩, ⟨2, 142, [142], fun vs _ => vs = [.int .i64 (at_ : Int)]⟩, ⟨3, 143, [143], fun vs _ => vs = [.slice (some ⟨b4, o4, none⟩) LN c2]⟩, ⟨4, 144, [144], fun vs _ => vs = [.int .i64 (i : Int)]⟩, ⟨5, 145, [145], fun vs _ => vs = [.pointer (some ⟨b4, o4 + i * 6, none⟩)]⟩, ⟨6, 146, [146], fun vs _ => vs = [.pointer (some ⟨b4, o4 + i * 6 + 3, none⟩)]⟩, ⟨7, 147, [147], fun vs _ => vs = [.int .i64 (lk : Int)]⟩, ⟨8, 148, [148], fun vs _ => vs = [.int .i64 ((at_ + lk : Nat) : Int)]⟩, ⟨9, 149, [149], PtL (.slice ra 8 rc)⟩, ⟨10, 150, [150], fun vs _ => vs = [.slice ra 8 rc]⟩, ⟨11, 151, [151], fun vs _ => vs = [.int .i64 (tn8 : Int)]⟩, ⟨12, 152, [152], PtL (.int .i64 rv)⟩, ⟨13, 153, [153], fun vs _ => vs = [.int .i64 rv]⟩] (by kernel_rfl) (by kernel_rfl) ?_ ?_ ?_
                                · simp only [All]
                                  refine ⟨fun _ _ _ _ h => h, fun _ _ _ _ h => h, fun _ _ _ _ h => h, fun _ _ _ _ h => h, fun _ _ _ _ h => h, fun _ _ _ _ h => h, fun _ _ _ _ h => h, fun _ _ _ _ h => h, fun _ _ _ _ h => h, ?_, fun _ _ _ _ h => h, fun _ _ _ _ h => h, ?_, fun _ _ _ _ h => h, trivial⟩
                                  · rintro vs w1 w2 hb ⟨b, o, h1, h2⟩
                                    exact ⟨b, o, h1, cell_blw8 h2 hb⟩
                                  · rintro vs w1 w2 hb ⟨b, o, h1, h2⟩
                                    exact ⟨b, o, h1, cell_blw8 h2 hb⟩
                                · simp only [All]
                                  refine ⟨?_, ?_, ?_, ?_, ?_, ?_, ?_, ?_, ?_, ?_, ?_, ?_, ?_, ?_, trivial⟩
                                  · intro o ho a' w' hb hfr hdep
                                    obtain rfl := Option.some.inj ho
                                    have g7 : a'.tmps[7]?.getD undef = .pointer (some ⟨gC, 0, none⟩) := by have h := hfr 7 (by kernel_rfl); simpa using h
                                    clear ho hfr hdep
                                    go_wp2_with fail
                                    exact ⟨rfl, _, rfl, Below.refl _ _, rfl⟩
                                  · intro o ho a' w' hb hfr hdep
                                    obtain rfl := Option.some.inj ho
                                    have g140 : a'.tmps[140]?.getD undef = .pointer (some ⟨gC, 2, none⟩) := by have h := hdep 0 _ rfl (by kernel_rfl); simpa using h
                                    clear ho hfr hdep
                                    have hcl := cell_below cL hb
                                    go_wp2_with fail
                                    exact ⟨rfl, _, rfl, Below.refl _ _, rfl⟩
                                  · intro o ho a' w' hb hfr hdep
                                    obtain rfl := Option.some.inj ho
                                    have g10 : a'.tmps[10]?.getD undef = .int .i64 (at_ : Int) := by have h := hfr 10 (by kernel_rfl); simpa using h
                                    clear ho hfr hdep
                                    go_wp2_with fail
                                    exact ⟨rfl, _, rfl, Below.refl _ _, rfl⟩
                                  · intro o ho a' w' hb hfr hdep
                                    obtain rfl := Option.some.inj ho
                                    have g14 : a'.tmps[14]?.getD undef = .slice (some ⟨b4, o4, none⟩) LN c2 := by have h := hfr 14 (by kernel_rfl); simpa using h
                                    clear ho hfr hdep
                                    go_wp2_with fail
                                    exact ⟨rfl, _, rfl, Below.refl _ _, rfl⟩
                                  · intro o ho a' w' hb hfr hdep
                                    obtain rfl := Option.some.inj ho
                                    have g15 : a'.tmps[15]?.getD undef = .int .i64 (i : Int) := by have h := hfr 15 (by kernel_rfl); simpa using h
                                    clear ho hfr hdep
                                    go_wp2_with fail
                                    exact ⟨rfl, _, rfl, Below.refl _ _, rfl⟩
                                  · intro o ho a' w' hb hfr hdep
                                    obtain rfl := Option.some.inj ho
                                    have g143 : a'.tmps[143]?.getD undef = .slice (some ⟨b4, o4, none⟩) LN c2 := by have h := hdep 3 _ rfl (by kernel_rfl); simpa using h
                                    have g144 : a'.tmps[144]?.getD undef = .int .i64 (i : Int) := by have h := hdep 4 _ rfl (by kernel_rfl); simpa using h
                                    clear ho hfr hdep
                                    refine index_rowk 145 64 _ _ 67 Try.underlying64 6 size_stp6 b4 o4 LN c2 (by show a'.tmps.getD 143 undef = _; simpa using g143) _ _ i (by show a'.tmps.getD 144 undef = _; simpa using g144) rfl hiL ?_
                                    exact ⟨rfl, _, rfl, Below.refl _ _, rfl⟩
                                  · intro o ho a' w' hb hfr hdep
                                    obtain rfl := Option.some.inj ho
                                    have g145 : a'.tmps[145]?.getD undef = .pointer (some ⟨b4, o4 + i * 6, none⟩) := by have h := hdep 5 _ rfl (by kernel_rfl); simpa using h
                                    clear ho hfr hdep
                                    go_wp2_with fail
                                    exact ⟨rfl, _, rfl, Below.refl _ _, rfl⟩
                                  · intro o ho a' w' hb hfr hdep
                                    obtain rfl := Option.some.inj ho
                                    have g146 : a'.tmps[146]?.getD undef = .pointer (some ⟨b4, o4 + i * 6 + 3, none⟩) := by have h := hdep 6 _ rfl (by kernel_rfl); simpa using h
                                    clear ho hfr hdep
                                    have hcl := cell_below y3 hb
                                    go_wp2_with fail
                                    exact ⟨rfl, _, rfl, Below.refl _ _, rfl⟩
                                  · intro o ho a' w' hb hfr hdep
                                    obtain rfl := Option.some.inj ho
                                    have g142 : a'.tmps[142]?.getD undef = .int .i64 (at_ : Int) := by have h := hdep 2 _ rfl (by kernel_rfl); simpa using h
                                    have g147 : a'.tmps[147]?.getD undef = .int .i64 (lk : Int) := by have h := hdep 7 _ rfl (by kernel_rfl); simpa using h
                                    clear ho hfr hdep
                                    go_wp2_with fail
                                    exact ⟨rfl, _, rfl, Below.refl _ _, by simp⟩
                                  · intro o ho a' w' hb hfr hdep
                                    obtain rfl := Option.some.inj ho
                                    have g141 : a'.tmps[141]?.getD undef = .slice la ln4 lc4 := by have h := hdep 1 _ rfl (by kernel_rfl); simpa using h
                                    have g148 : a'.tmps[148]?.getD undef = .int .i64 ((at_ + lk : Nat) : Int) := by have h := hdep 8 _ rfl (by kernel_rfl); simpa using h
                                    clear ho hfr hdep
                                    refine idx_ii 149 _ _ la ln4 lc4 _ (by show a'.tmps.getD 141 undef = _; simpa using g141) (hL9.top.below hb) .i64 _ (at_ + lk) (by show a'.tmps.getD 148 undef = _; simpa using g148) rfl _ hrw.out ?_
                                    intro b o hcell hbo
                                    exact ⟨rfl, _, rfl, Below.refl _ _, b, o, rfl, hcell⟩
                                  · intro o ho a' w' hb hfr hdep
                                    obtain rfl := Option.some.inj ho
                                    obtain ⟨b149, o149, g149, c149⟩ := hdep 9 _ rfl (by kernel_rfl)
                                    simp at g149
                                    clear ho hfr hdep
                                    have hcl := c149
                                    go_wp2_with fail
                                    exact ⟨rfl, _, rfl, Below.refl _ _, rfl⟩
                                  · intro o ho a' w' hb hfr hdep
                                    obtain rfl := Option.some.inj ho
                                    have g16 : a'.tmps[16]?.getD undef = .int .i64 (tn8 : Int) := by have h := hfr 16 (by kernel_rfl); simpa using h
                                    clear ho hfr hdep
                                    go_wp2_with fail
                                    exact ⟨rfl, _, rfl, Below.refl _ _, rfl⟩
                                  · intro o ho a' w' hb hfr hdep
                                    obtain rfl := Option.some.inj ho
                                    have g150 : a'.tmps[150]?.getD undef = .slice ra 8 rc := by have h := hdep 10 _ rfl (by kernel_rfl); simpa using h
                                    have g151 : a'.tmps[151]?.getD undef = .int .i64 (tn8 : Int) := by have h := hdep 11 _ rfl (by kernel_rfl); simpa using h
                                    clear ho hfr hdep
                                    refine idx_i 152 _ _ ra 8 rc RR (by show a'.tmps.getD 150 undef = _; simpa using g150) (hRR.out.below (hb9.trans (hb.mono hb9.size))) .i64 _ tn8 (by show a'.tmps.getD 151 undef = _; simpa using g151) rfl _ hrv.out ?_
                                    intro b o hcell hbo
                                    exact ⟨rfl, _, rfl, Below.refl _ _, b, o, rfl, hcell⟩
                                  · intro o ho a' w' hb hfr hdep
                                    obtain rfl := Option.some.inj ho
                                    obtain ⟨b152, o152, g152, c152⟩ := hdep 12 _ rfl (by kernel_rfl)
                                    simp at g152
                                    clear ho hfr hdep
                                    have hcl := c152
                                    go_wp2_with fail
                                    exact ⟨rfl, _, rfl, Below.refl _ _, rfl⟩
                                · intro gg w10 hbl hp'
                                  have p153 := hp' 13 _ rfl
                                  clear hp'
                                  simp at p153
                                  simp only [List.drop_succ_cons, List.drop_zero, List.map_cons, List.map_nil, putAll, Act.put, List.setIfInBounds_toArray, List.set_cons_succ, List.set_cons_zero, List.cons_append, List.nil_append, p153]
                                  clear p153
                                  have hb10 := hbq9.trans (hbl.mono hbq9.size)
                                  have hS10 := hS9.below hbl
                                  have z4 := cell_below y4 hbl
                                  clear y3 y4 cL HC9 hL9 hb9 hS9 hbl hbq9
                                  by_cases hr0 : rv < 0
                                  · have d6 : decide (0 ≤ rv) = false := decide_eq_false (by omega)
                                    have d6' : decide (rv ≥ 0) = false := decide_eq_false (by omega)
                                    have HW2 : Hid ((leastF (lookA (numT t S) at_) (L.take (i + 1))).2 = W) := hide (by rw [HWS.out, if_neg (by omega)])
                                    go_wp2_with fail
                                    go_roundg (LN - (i + 1))
                                    case measure => omega
                                    case rel => exact ⟨i + 1, W, by omega, rfl, by go_num, rfl, hb10, HW2.out⟩
                                  · have d6 : decide (0 ≤ rv) = true := decide_eq_true (by omega)
                                    have d6' : decide (rv ≥ 0) = true := decide_eq_true (by omega)
                                    have hrv6 : rv ≤ 1000000 := hrb.out
                                    by_cases hw0 : W < 0
                                    · have d7 : decide (W < 0) = true := decide_eq_true hw0
                                      have HW2 : Hid ((leastF (lookA (numT t S) at_) (L.take (i + 1))).2 = rv + (qn : Int)) := hide (by rw [HWS.out, if_pos ⟨by omega, .inl hw0⟩])
                                      go_wp2_with (with_reducible refine index_rowk 175 64 _ _ 67 Try.underlying64 6 size_stp6 b4 o4 LN c2 rfl _ _ i rfl rfl hiL ?_)
                                      go_roundg (LN - (i + 1))
                                      case measure => omega
                                      case rel => exact ⟨i + 1, rv + (qn : Int), by omega, rfl, by go_num, rfl, hb10, HW2.out⟩
                                    · have d7 : decide (W < 0) = false := decide_eq_false hw0
                                      by_cases hlt : rv + (qn : Int) < W
                                      · have d8 : decide (rv + (qn : Int) < W) = true := decide_eq_true hlt
                                        have HW2 : Hid ((leastF (lookA (numT t S) at_) (L.take (i + 1))).2 = rv + (qn : Int)) := hide (by rw [HWS.out, if_pos ⟨by omega, .inr hlt⟩])
                                        go_wp2_with (first
                                          | (refine unguard_any (by first | rfl | (simp [Region.wanted, yielded, Act.put]; done)) ?_; with_reducible refine index_rowk 163 64 _ _ 67 Try.underlying64 6 size_stp6 b4 o4 LN c2 rfl _ _ i rfl rfl hiL ?_)
                                          | (with_reducible refine index_rowk 175 64 _ _ 67 Try.underlying64 6 size_stp6 b4 o4 LN c2 rfl _ _ i rfl rfl hiL ?_))
                                        go_roundg (LN - (i + 1))
                                        case measure => omega
                                        case rel => exact ⟨i + 1, rv + (qn : Int), by omega, rfl, by go_num, rfl, hb10, HW2.out⟩
                                      · have d8 : decide (rv + (qn : Int) < W) = false := decide_eq_false hlt
                                        have HW2 : Hid ((leastF (lookA (numT t S) at_) (L.take (i + 1))).2 = W) := hide (by rw [HWS.out, if_neg (by omega)])
                                        go_wp2_with (refine unguard_any (by first | rfl | (simp [Region.wanted, yielded, Act.put]; done)) ?_; with_reducible refine index_rowk 163 64 _ _ 67 Try.underlying64 6 size_stp6 b4 o4 LN c2 rfl _ _ i rfl rfl hiL ?_)
                                        go_roundg (LN - (i + 1))
                                        case measure => omega
                                        case rel => exact ⟨i + 1, W, by omega, rfl, by go_num, rfl, hb10, HW2.out⟩
                            · obtain rfl : i = LN := by omega
                              have d5 : decide ((i : Int) < (i : Int)) = false := decide_eq_false (by omega)
                              have hfin : W = vv := by
                                have h1 := HWI.out
                                rw [List.take_of_length_le (by rw [HLN.out]; exact Nat.le_refl _)] at h1
                                rw [hval.out, val_eq HV.out HGS.out hinl hsl8k, hL.out]
                                exact h1.symm
                              subst hfin
                              have y2 : wr.cell? ⟨gC, 2, none⟩ = some (.slice la ln4 lc4) := (HC5.under hb8).at_ rfl
                              have htop := hL5.top.below hb8
                              have hrw := hrow0.below hb8
                              have d6 : (W != W) = false := by simp
                              clear HWI hS7 hS8
                              go_wp2_with (first
                                | (with_reducible refine idx_ii 183 _ _ la ln4 lc4 _ rfl htop _ _ at_ rfl rfl _ HRA.out ?_; intro bI oI hcI hbI)
                                | (with_reducible refine idx_i 186 _ _ ra0 8 rc0 r0 rfl hrw _ _ k rfl rfl _ HVV.out ?_; intro bJ oJ hcJ hbJ))
                              go_roundg (8 - (k + 1))
                              case measure => omega
                              case rel => exact ⟨k + 1, by omega, rfl, by go_num, hb8⟩
                · obtain rfl : k = 8 := by omega
                  have d2 : decide (((8 : Nat) : Int) < 8) = false := by decide
                  go_wp2_with fail
                  go_roundg (ln4 - (at_ + 1))
                  case measure => omega
                  case rel => exact ⟨at_ + 1, by omega, rfl, by go_num, hb⟩
            · obtain rfl : at_ = ln4 := by omega
              have d1 : decide ((at_ : Int) ≤ (N : Int)) = false := decide_eq_false (by have := hM.out; omega)
              have d1' : decide (at_ ≤ N) = false := decide_eq_false (by have := hM.out; omega)
              have hlv := hide (law8_lives wr)
              have hbl := hB5.trans (hb.mono hB5.size)
              go_wp2_with (go_at_call 17; refine hlv.out.mono ?_; rintro e w9 ⟨rfl, hb9⟩)
              go_ret
              exact ⟨rfl, hbl.trans (hb9.mono hbl.size)⟩
  · have hlv := hide (law8_lives w5)
    go_wp2_with (go_at_call 17; refine hlv.out.mono ?_; rintro e w6 ⟨rfl, hb6⟩)
    go_ret
    exact ⟨rfl, hB5.trans (hb6.mono hB5.size)⟩
end Go.Proofs.Ytlpkicjijlcbfaa
