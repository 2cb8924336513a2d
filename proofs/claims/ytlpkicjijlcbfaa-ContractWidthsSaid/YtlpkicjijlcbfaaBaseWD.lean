/- The contracts of the functions that the law reaches, joined into one text. -/
import Derived.Test.YtlpkicjijlcbfaaBaseWC
set_option linter.unusedVariables false
set_option linter.unusedSimpArgs false

/- the text B25d -/
section
/- Chapter 06: the program's Steps. -/
namespace Go.Proofs.Ytlpkicjijlcbfaa
open Go.RowKit Go.Dx

set_option maxRecDepth 100000 in
set_option maxHeartbeats 8000000 in
theorem tab_Steps_ru (H : TH) (t : Ta) (s : St) (l : List Sy) (a : Option Addr) (n c : Nat) (p : Nat) (x : Sy) (hv : validE t = 0) (hsl : s.lang = 0 ∨ s.lang = 1) (hx : l[p]? = some x) (hgd : goodS l = true) (hll : l.length ≤ 1000000) (heq : x.lang = s.lang) (hd : isD x.c = false) (w : World) (hT : TaIs w H t) (hs : Sl w 2 a n c (l.flatMap sc)) :
    Calls Try.prog 28 #[H.v, .agg #[.int .i64 s.lang, .bool s.num, .bool s.wrd], .slice a n c, .int .i64 (p : Int)] w (StepsT 67 (ruleSteps t s x l p 0 (langOf t x.lang)) w) := by
  have hV := fun w' (hb : Below w.heap.size w w') => tab_Valid H t w' (hT.below hb)
  have hC := fun w' (hb : Below w.heap.size w w') => contains_y l a n c w' (hs.below hb)
  obtain rfl := hs.nf sc_len (by decide)
  obtain ⟨⟨a0, n0, c0⟩, ⟨a1, n1, c1⟩, ps0, ps1, ⟨ad, nd, cd⟩, ⟨ac, nc, cc⟩, ⟨an, nn, cn⟩, ⟨af, nf, cf⟩, ⟨aw, nw, cw⟩⟩ := H
  obtain ⟨sg, sn, si⟩ := s
  unfold TH.v at hV ⊢
  simp only [hdv] at hV ⊢
  have hbb : Below w.heap.size w ((w.alloc (.cells #[.slice a0 n0 c0, .slice a1 n1 c1, .slice ad nd cd, .slice ac nc cc, .slice an nn cn, .slice af nf cf, .slice aw nw cw] 29)).alloc (.cells #[.int .i64 sg, .bool sn, .bool si] 63)) := (blo w _).trans ((blo _ _).mono (by simp))
  have X4 : Box ((w.alloc (.cells #[.slice a0 n0 c0, .slice a1 n1 c1, .slice ad nd cd, .slice ac nc cc, .slice an nn cn, .slice af nf cf, .slice aw nw cw] 29)).alloc (.cells #[.int .i64 sg, .bool sn, .bool si] 63)) w.heap.size 29 #[.slice a0 n0 c0, .slice a1 n1 c1, .slice ad nd cd, .slice ac nc cc, .slice an nn cn, .slice af nf cf, .slice aw nw cw].toList := (Box.new w _ _).alloc _
  have X5 : Box ((w.alloc (.cells #[.slice a0 n0 c0, .slice a1 n1 c1, .slice ad nd cd, .slice ac nc cc, .slice an nn cn, .slice af nf cf, .slice aw nw cw] 29)).alloc (.cells #[.int .i64 sg, .bool sn, .bool si] 63)) (w.heap.size + 1) 63 [.int .i64 sg, .bool sn, .bool si] := by
    have := Box.new (w.alloc (.cells #[.slice a0 n0 c0, .slice a1 n1 c1, .slice ad nd cd, .slice ac nc cc, .slice an nn cn, .slice af nf cf, .slice aw nw cw] 29)) 63 #[.int .i64 sg, .bool sn, .bool si]
    rwa [show (w.alloc (.cells #[.slice a0 n0 c0, .slice a1 n1 c1, .slice ad nd cd, .slice ac nc cc, .slice an nn cn, .slice af nf cf, .slice aw nw cw] 29)).heap.size = w.heap.size + 1 by simp] at this
  have HBB := hide hbb
  have HX4 := hide X4
  have HX5 := hide X5
  clear hbb X4 X5
  have hsl : sg = 0 ∨ sg = 1 := hsl
  obtain ⟨xg, xc⟩ := x
  rw [hv] at hV
  rw [hgd] at hC
  have hp := (List.getElem?_eq_some_iff.1 hx).1
  have d1 : decide (sg < 0) = false := decide_eq_false (by omega)
  have d2 : decide (1 < sg) = false := decide_eq_false (by omega)
  have d4 : decide ((l.length : Int) ≤ (p : Int)) = false := decide_eq_false (by omega)
  have d4' : decide (l.length ≤ p) = false := decide_eq_false (by omega)
  have HXP := hide hx
  have hxg : xg = 0 ∨ xg = 1 := by
    have h1 : symOk ⟨xg, xc⟩ = true := by
      unfold goodS at hgd
      exact List.all_eq_true.1 hgd _ (List.mem_of_getElem? hx)
    unfold symOk at h1
    simp only [Bool.and_eq_true, Bool.or_eq_true, decide_eq_true_eq] at h1
    exact h1.1
  have HGD := hide hgd
  have HV0 := hide hv
  clear hv hgd hx
  have heq : sg = xg := heq.symm
  subst heq
  obtain ⟨kx, rfl, hkx⟩ : ∃ kx : Nat, sg = (kx : Int) ∧ kx < 2 := by
    rcases hxg with h | h
    · exact ⟨0, h, by decide⟩
    · exact ⟨1, h, by decide⟩
  have hd : isD xc = false := hd
  have hD := fun w' => tab_digit xc w'
  have hL := fun w' => tab_Letter xc w'
  unfold LetterR at hL
  rw [hd] at hD
  have HLOW : Hid (langOf t (kx : Int) = langK t kx) := hide (two_cases (p := fun k => langOf t (k : Int) = langK t k) (by simp [langOf, langK]) (by simp [langOf, langK]) kx hkx)
  have hgp := good_parts (valid_parts HV0.out).2.2.1
  have hlok := fun r (hr : r ∈ langK t kx) => lang_ok (valid_parts HV0.out).2.2.1 (kx : Int) r (by rw [HLOW.out]; exact hr)
  have HLOK := hide hlok
  have hnf : nf = t.fin.length := hT.f.n_eq
  have hnc : nc = t.cap.length := hT.c.n_eq
  have hf4 := indic_le hgp.2.2.2.1
  have hc4 := indic_le hgp.2.1
  have hnf4 : nf ≤ 4 := by omega
  have hnc4 : nc ≤ 4 := by omega
  have HTF : Hid (Sl w 1 af nf cf (t.fin.map B8)) := hide hT.f
  have HTC : Hid (Sl w 1 ac nc cc (t.cap.map B8)) := hide hT.c
  obtain ⟨ak, nk, ck, pk, hck, hRk, hek⟩ := sel_lang hT kx hkx
  simp only [hdv] at hck
  have HCK := hide hck
  have HEK := hide hek
  have HRK := hide hRk
  have hnk := hRk.n_eq
  have hm1 := Nat.le_trans hRk.top.le hRk.top.cap
  unfold maxLen at hm1
  have hpk96 : pk.length ≤ 96 := by
    have h1 := (valid_parts HV0.out).1
    have h2 := (valid_parts HV0.out).2.1
    have h3 : (rus pk).length = pk.length := by unfold rus; simp
    rw [← h3, hek]
    unfold langK
    split
    · exact h1
    · exact h2
  obtain ⟨il, hil⟩ : ∃ il, isL xc = il := ⟨_, rfl⟩
  obtain ⟨ic, hic⟩ : ∃ ic, isC xc = ic := ⟨_, rfl⟩
  obtain ⟨cbv, hcb⟩ : ∃ cbv, (sn && il) = cbv := ⟨_, rfl⟩
  rw [hil, hic] at hL
  have HIL := hide hil
  have HIC := hide hic
  have HCB := hide hcb
  obtain ⟨pre1, hp1⟩ : ∃ pre1 : List UInt8, pre1 = if cbv then t.fin else [] := ⟨_, rfl⟩
  obtain ⟨pre2, hp2⟩ : ∃ pre2 : List UInt8, pre2 = pre1 ++ if ic then t.cap else [] := ⟨_, rfl⟩
  have HHEAD : Hid (headC t ⟨(kx : Int), sn, si⟩ ⟨(kx : Int), xc⟩ = pre2) := hide (by
    unfold headC
    simp only [hil, hic]
    rw [hp2, hp1, ← hcb])
  have hl1 : pre1.length ≤ 4 := by rw [hp1]; cases cbv <;> simp <;> omega
  have hl2 : pre2.length ≤ 8 := by rw [hp2, List.length_append]; cases ic <;> simp <;> omega
  have HP1 := hide hp1
  have HP2 := hide hp2
  clear hd hil hic hcb hp1 hp2 hgp hnf hnc hf4 hc4 hT hck hRk hek hlok
  rw [HLOW.out]
  go_enter Try.func28, Try.ntmps28
  go_upto_region 13 with (first | (go_at_call 56; refine (hV _ HBB.out).mono ?_; rintro e w3 ⟨rfl, hb3⟩; have x5 := HX5.out.under hb3; have k5 : w3.cell? ⟨w.heap.size + 1, 0, none⟩ = some (.int .i64 (kx : Int)) := x5.at_ rfl; have hbw3 := HBB.out.trans (hb3.mono HBB.out.size)) | (go_at_call 57; refine (hC _ hbw3).mono ?_; rintro e w4 ⟨rfl, hb4⟩; have hbw4 := hbw3.trans (hb4.mono hbw3.size); have x4 := (HX4.out.under hb3).under hb4; have x5' := x5.under hb4; have k5' : w4.cell? ⟨w.heap.size + 1, 0, none⟩ = some (.int .i64 (kx : Int)) := x5'.at_ rfl; have hw5 : w.heap.size + 1 < w4.heap.size := x5'.lt) | (with_reducible refine idx_y 47 _ _ _ _ _ _ rfl (hs.below hbw4) _ _ p rfl rfl _ HXP.out ?_; intro b o hcell hcell2 hbo) | (go_at_call 61; refine (hD _).mono ?_; rintro e wd ⟨rfl, rfl⟩) | (go_at_call 62; refine (hL _).mono ?_; rintro e wl ⟨rfl, rfl⟩))
  have y9 := Box.new w4 88 #[.int .i64 (kx : Int), .int .u8 (xc.toNat : Int)]
  have y4 := x4.alloc (.cells #[.int .i64 (kx : Int), .int .u8 (xc.toNat : Int)] 88)
  have y5 := x5'.alloc (.cells #[.int .i64 (kx : Int), .int .u8 (xc.toNat : Int)] 88)
  have hbw5 := hbw4.trans ((blo w4 (.cells #[.int .i64 (kx : Int), .int .u8 (xc.toNat : Int)] 88)).mono hbw4.size)
  have h9 : w.heap.size + 1 < w4.heap.size := hw5
  clear k5 k5' hcell hcell2 hbo hb3 hb4 hbw3 x4 x5 x5' hw5
  generalize w4.alloc (.cells _ 88) = w5 at *
  obtain ⟨g9, hg9⟩ : ∃ g9, g9 = w4.heap.size := ⟨_, rfl⟩
  rw [← hg9] at y9 h9 ⊢
  clear hg9
  have k51 : w5.cell? ⟨w.heap.size + 1, 1, none⟩ = some (.bool sn) := y5.at_ rfl
  go_cut [98] from 94 to 98 (fun v w' => v = .bool cbv ∧ w5 = w')
  case first =>
    have hh := HCB.out
    cases sn
    · have hz : cbv = false := hh.symm
      subst hz
      go_wp2_with fail
      go_meet
      exact ⟨rfl, rfl⟩
    · have hz : cbv = il := hh.symm
      subst hz
      go_wp2_with fail
      go_meet
      exact ⟨rfl, rfl⟩
  case rest =>
    obtain ⟨rfl, rfl⟩ := hcut
    have kf : w5.cell? ⟨w.heap.size, 5, none⟩ = some (.slice af nf cf) := y4.at_ rfl
    have kc : w5.cell? ⟨w.heap.size, 3, none⟩ = some (.slice ac nc cc) := y4.at_ rfl
    have hTf5 := HTF.out.below hbw5
    have hTc5 := HTC.out.below hbw5
    go_upto_if 98 with fail
    go_cut [14] (fun v w' => ∃ a c, v = .slice a pre1.length c ∧ Own w' w5.heap.size 5 1 a pre1.length c (pre1.map B8) ∧ Below w5.heap.size w5 w')
    case first =>
      have hh := HP1.out
      cases cbv
      · have hz : pre1 = [] := hh
        subst hz
        go_wp2_with fail
        go_meet
        exact ⟨none, 0, rfl, Own.nil _ _ _ _, Below.refl _ _⟩
      · have hz : pre1 = t.fin := hh
        have hnf : nf = pre1.length := by rw [hz]; exact hTf5.n_eq
        rw [← hz] at hTf5
        subst hnf
        clear hz hh
        go_wp2_with (at_builtin; refine app_bs rfl _ _ rfl w5 w5.heap.size _ 0 0 _ rfl (Own.nil _ _ _ _) af _ cf pre1 rfl hTf5 (by omega) (Nat.le_refl _) (Below.refl _ _) ?_; intro a6 c6 w6 ho6 hgr6 hb6; rw [Nat.zero_add] at ho6 ⊢)
        go_meet
        exact ⟨a6, c6, rfl, ho6, hb6⟩
    case rest =>
      obtain ⟨a6, c6, rfl, ho6, hb6⟩ := hcut
      obtain ⟨w6, rfl⟩ : ∃ w6 : World, w6 = wc := ⟨_, rfl⟩
      go_upto_if 103 with fail
      go_cut [14] (fun v w' => ∃ a c, v = .slice a pre2.length c ∧ Own w' w5.heap.size 5 1 a pre2.length c (pre2.map B8) ∧ Below w5.heap.size w5 w')
      case first =>
        have hh := HP2.out
        cases ic
        · have hz : pre2 = pre1 := by rw [hh]; simp
          clear hh
          subst hz
          go_wp2_with fail
          go_meet
          exact ⟨a6, c6, rfl, ho6, hb6⟩
        · have hz : pre2 = pre1 ++ t.cap := hh
          have hnc : nc = t.cap.length := hTc5.n_eq
          have kc6 := cell_below kc hb6
          have hTc6 := hTc5.below hb6
          subst hnc
          have HZL : Hid (pre2.length = pre1.length + t.cap.length) := hide (by rw [hz, List.length_append])
          have HZ := hide hz
          clear hh hz
          go_wp2_with (at_builtin; refine app_bs rfl _ _ rfl w5 w5.heap.size a6 _ c6 _ rfl ho6 ac _ cc t.cap rfl hTc6 (by omega) hb6.size hb6 ?_; intro a8 c8 w8 ho8 hgr8 hb8)
          go_meet
          exact ⟨a8, c8, by rw [HZL.out], by rw [HZL.out, HZ.out, List.map_append]; exact ho8, hb8⟩
      case rest =>
        clear ho6 hb6
        obtain ⟨ab, cb, rfl, hob, hb57⟩ := hcut
        obtain ⟨w7, rfl⟩ : ∃ w7 : World, w7 = wc := ⟨_, rfl⟩
        have hbw7 := hbw5.trans (hb57.mono hbw5.size)
        have y97 := y9.under hb57
        have y47 := y4.under hb57
        have HRW := hide (HRK.out.below hbw7)
        have hs7 := hs.below hbw7
        have kr : w7.cell? ⟨w.heap.size, kx, none⟩ = some (.slice ak nk ck) := y47.at_ (by
          have h := HCK.out
          rcases kx with _ | _ | k
          · exact h
          · exact h
          · omega)
        have kx9 : w7.cell? ⟨g9, 0, none⟩ = some (.int .i64 (kx : Int)) := y97.at_ rfl
        subst hnk
        clear hb57 y9 y4 y5 kf kc hTf5 hTc5 k51
        go_wp2_with fail
        go_loopg [15, 115] pk.length (fun gh o v w' => ∃ (k : Nat) (ps : List SH) (ao : Option Addr) (co : Nat), k ≤ pk.length ∧ gh = pk.length - k ∧ ps.length ≤ k ∧ o = .slice ao ps.length co ∧ v = .int .i64 (k : Int) ∧ Hid (ps.map (·.1) = ruleSteps t ⟨(kx : Int), sn, si⟩ ⟨(kx : Int), xc⟩ l p 0 ((rus pk).take k)) ∧ OSt w' 67 5 w7.heap.size ao co ps ∧ Below w7.heap.size w7 w')
        case atStart => exact ⟨0, [], none, 0, by omega, by omega, by simp, rfl, rfl, hide rfl, OSt.nil _ _ _ _, Below.refl _ _⟩
        case round =>
          obtain ⟨k, ps, ao, co, hk, hg, hpl, rfl, rfl, HPS, hOS, hbr⟩ := hrel
          have HG := hide hg
          clear hg
          by_cases hkl : k < pk.length
          · obtain ⟨q, hq⟩ : ∃ q, pk[k]? = some q := ⟨pk[k], by simp [hkl]⟩
            have HQ := hide hq
            have hRr := HRW.out.below hbr
            obtain ⟨hrow, _⟩ := hRr.row q (List.mem_of_getElem? hq)
            have hrk := ru_parts (HLOK.out q.1 (by rw [← HEK.out]; exact List.mem_of_getElem? (rus_get hq)))
            have HRJ := hide (rus_get hq)
            clear hq
            obtain ⟨⟨sx, wh, cl⟩, h1, h2, h3⟩ := q
            have hs1 : 1 ≤ sx.size := hrk.1
            have hs8 : sx.size ≤ 8 := hrk.2.1
            have hcl4 : cl.length ≤ 4 := indic_le hrk.2.2.2.2.1
            have hrow : Sl wr 1 h1 h2 h3 (cl.map B8) := hrow
            obtain rfl := hrow.n_eq
            have hF := fun w' (hb : Below wr.heap.size wr w') => tab_fits sx wh cl h1 cl.length h3 l a _ c (p : Int) p rfl ⟨(kx : Int), xc⟩ HXP.out hs1 hs8 hll w' ((hs7.below hbr).below hb)
            have HSN := hide (ruleSteps_snoc t ⟨(kx : Int), sn, si⟩ ⟨(kx : Int), xc⟩ l p ⟨sx, wh, cl⟩ ((rus pk).take k) 0)
            have HTK : Hid ((rus pk).take (k + 1) = (rus pk).take k ++ [⟨sx, wh, cl⟩]) := hide (take_succ_get HRJ.out)
            have hrl : (rus pk).length = pk.length := by unfold rus; simp
            have HTL : Hid (((rus pk).take k).length = k) := hide (by rw [List.length_take, hrl]; omega)
            clear hrl
            clear hrk
            cases hfb : fitsB ⟨sx, wh, cl⟩ l p
            · have HN : Hid (ps.map (·.1) = ruleSteps t ⟨(kx : Int), sn, si⟩ ⟨(kx : Int), xc⟩ l p 0 ((rus pk).take (k + 1))) := hide (by rw [HTK.out, HSN.out, hfb, HPS.out]; simp)
              rw [hfb] at hF
              clear hfb
              go_wp2_with (first
                | (with_reducible refine idx_r 118 _ _ _ _ _ _ rfl hRr.top _ _ k rfl rfl _ HQ.out ?_; intro b o hcell hcell2 hcell3 hbo)
                | (go_at_call 63; refine (hF _ (blo wr _)).mono ?_; rintro e w8 ⟨rfl, hb8⟩))
              have hbr8 := (blo wr _).trans (hb8.mono (blo wr _).size)
              have hb78 := hbr.trans (hbr8.mono hbr.size)
              have hOS8 := hOS.below hbr8
              go_roundg (pk.length - (k + 1))
              case measure => have := HG.out; omega
              case rel => exact ⟨k + 1, ps, ao, co, by omega, rfl, by omega, rfl, by go_num, HN, hOS8, hb78⟩
            · obtain ⟨CT, hCT⟩ : ∃ CT, pre2 ++ cl = CT := ⟨_, rfl⟩
              obtain ⟨NN, hNN⟩ : ∃ NN, CT.length = NN := ⟨_, rfl⟩
              have HCT := hide hCT
              have HNN := hide hNN
              clear hCT hNN
              have HN : Hid (∀ q : (Option Addr × Nat × Nat), ((ps ++ [((⟨⟨(kx : Int), false, il⟩, (sx.size : Int), CT, (k : Int)⟩ : Stp), q)]) : List SH).map (·.1) = ruleSteps t ⟨(kx : Int), sn, si⟩ ⟨(kx : Int), xc⟩ l p 0 ((rus pk).take (k + 1))) := hide (fun q => by
                rw [HTK.out, HSN.out, hfb, List.map_append, HPS.out, HHEAD.out, HTL.out, HIL.out, HCT.out]; simp)
              have X17 := Box.new wr 84 #[.string sx, .int .i64 wh, .slice h1 cl.length h3]
              rw [hfb] at hF
              clear hfb
              go_wp2_with (first
                | (with_reducible refine idx_r 118 _ _ _ _ _ _ rfl hRr.top _ _ k rfl rfl _ HQ.out ?_; intro b o hcell hcell2 hcell3 hbo)
                | (go_at_call 63; refine (hF _ (blo wr _)).mono ?_; rintro e w8 ⟨rfl, hb8⟩))
              have hbr8 := (blo wr (.cells #[.string sx, .int .i64 wh, .slice h1 cl.length h3] 84)).trans (hb8.mono (blo wr _).size)
              have hb78 := hbr.trans (hbr8.mono hbr.size)
              have hsz8 := hb78.size
              have x17 := X17.under hb8
              have x9 := (y97.under hbr).under hbr8
              have hob8 := ((hob.below hbr).below hbr8).sl
              have hrow8 := hrow.below hbr8
              obtain ⟨g17, hg17⟩ : ∃ g17, g17 = wr.heap.size := ⟨_, rfl⟩
              rw [← hg17] at x17 ⊢
              clear hcell hcell2 hcell3 hbo hb8 X17 hg17 hF hrow HSN HTK HTL HPS HRJ
              have hcX : ∀ w', Below w8.heap.size w8 w' → w'.cell? ⟨g9, 0, none⟩ = some (.int .i64 (kx : Int)) := fun w' h => (x9.under h).at_ rfl
              have hcS : ∀ w', Below w8.heap.size w8 w' → w'.cell? ⟨g17, 0, none⟩ = some (.string sx) := fun w' h => (x17.under h).at_ rfl
              have hcR : ∀ w', Below w8.heap.size w8 w' → w'.cell? ⟨g17, 2, none⟩ = some (.slice h1 cl.length h3) := fun w' h => (x17.under h).at_ rfl
              have hCo : ∀ w', Below w8.heap.size w8 w' → ∀ b, Sl w' 1 (some ⟨b, 0, none⟩) 2 2 [.slice ab pre2.length cb, .slice h1 cl.length h3] → Calls Try.prog 64 #[.slice (some ⟨b, 0, none⟩) 2 2] w' fun e w'' => ∃ a' c', e = .returned (.slice a' NN c') ∧ Own w'' w'.heap.size 5 1 a' NN c' (CT.map B8) ∧ Below w'.heap.size w' w'' := by
                rw [← HNN.out, ← HCT.out]
                exact fun w' h b hsb => concat6 pre2 cl ab h1 cb h3 (some ⟨b, 0, none⟩) 2 w' hsb (hob8.below h) (hrow8.below h) (by omega) (by omega)
              refine wp_region_free 16 [⟨0, 124, [124], fun vs _ => vs = [.slice ao ps.length co]⟩, ⟨1, 125, [125], fun vs _ => vs = [.pointer (some ⟨g9, 0, none⟩)]⟩, ⟨2, 126, [126], fun vs _ => vs = [.int .i64 (kx : Int)]⟩, ⟨3, 127, [127], fun vs _ => vs = [.bool il]⟩, ⟨4, 128, [128], fun vs _ => vs = [.agg #[.int .i64 (kx : Int), .bool false, .bool il]]⟩, ⟨5, 129, [129], fun vs _ => vs = [.pointer (some ⟨g17, 0, none⟩)]⟩, ⟨6, 130, [130], fun vs _ => vs = [.string sx]⟩, ⟨7, 131, [131], fun vs _ => vs = [.int .i64 (sx.size : Int)]⟩, ⟨8, 132, [132], fun vs _ => vs = [.slice ab pre2.length cb]⟩, ⟨9, 133, [133], fun vs _ => vs = [.pointer (some ⟨g17, 2, none⟩)]⟩, ⟨10, 134, [134], fun vs _ => vs = [.slice h1 cl.length h3]⟩, ⟨11, 135, [135], fun vs w' => ∃ b, vs = [.slice (some ⟨b, 0, none⟩) 2 2] ∧ Sl w' 1 (some ⟨b, 0, none⟩) 2 2 [.slice ab pre2.length cb, .slice h1 cl.length h3]⟩, ⟨12, 136, [136], fun vs w' => ∃ a' c', vs = [.slice a' NN c'] ∧ Own w' w7.heap.size 5 1 a' NN c' (CT.map B8)⟩, ⟨13, 137, [137], fun vs _ => vs = [.int .i64 (k : Int)]⟩, ⟨14, 138, [138], fun vs w' => ∃ a' c', vs = [.agg #[.int .i64 (kx : Int), .bool false, .bool il, .int .i64 (sx.size : Int), .slice a' NN c', .int .i64 (k : Int)]] ∧ Own w' w7.heap.size 5 1 a' NN c' (CT.map B8)⟩, ⟨15, 139, [139], fun vs w' => ∃ b a' c', vs = [.slice (some ⟨b, 0, none⟩) 1 1] ∧ Sl w' 6 (some ⟨b, 0, none⟩) 1 1 (stc (⟨⟨(kx : Int), false, il⟩, (sx.size : Int), CT, (k : Int)⟩, (a', NN, c'))) ∧ Own w' w7.heap.size 5 1 a' NN c' (CT.map B8)⟩] (by kernel_rfl) (by kernel_rfl) ?_ ?_ ?_
              · simp only [All]
                refine ⟨fun _ _ _ _ h => h, fun _ _ _ _ h => h, fun _ _ _ _ h => h, fun _ _ _ _ h => h, fun _ _ _ _ h => h, fun _ _ _ _ h => h, fun _ _ _ _ h => h, fun _ _ _ _ h => h, fun _ _ _ _ h => h, fun _ _ _ _ h => h, fun _ _ _ _ h => h, ?_, ?_, fun _ _ _ _ h => h, ?_, ?_, trivial⟩
                · rintro vs w w' hb ⟨b, h1, h2⟩
                  exact ⟨b, h1, h2.below hb⟩
                · rintro vs w w' hb ⟨a', c', h1, h2⟩
                  exact ⟨a', c', h1, h2.below hb⟩
                · rintro vs w w' hb ⟨a', c', h1, h2⟩
                  exact ⟨a', c', h1, h2.below hb⟩
                · rintro vs w w' hb ⟨b, a', c', h1, h2, h3⟩
                  exact ⟨b, a', c', h1, h2.below hb, h3.below hb⟩
              · simp only [All]
                refine ⟨?_, ?_, ?_, ?_, ?_, ?_, ?_, ?_, ?_, ?_, ?_, ?_, ?_, ?_, ?_, ?_, trivial⟩
                · intro o ho a' w' hb hfr hdep
                  obtain rfl := Option.some.inj ho
                  have g15 : a'.tmps[15]?.getD undef = .slice ao ps.length co := by have h := hfr 15 (by kernel_rfl); simpa using h
                  clear ho hfr hdep
                  go_wp2_with fail
                  exact ⟨rfl, _, rfl, Below.refl _ _, rfl⟩
                · intro o ho a' w' hb hfr hdep
                  obtain rfl := Option.some.inj ho
                  have g9 : a'.tmps[9]?.getD undef = .pointer (some ⟨g9, 0, none⟩) := by have h := hfr 9 (by kernel_rfl); simpa using h
                  clear ho hfr hdep
                  go_wp2_with fail
                  exact ⟨rfl, _, rfl, Below.refl _ _, rfl⟩
                · intro o ho a' w' hb hfr hdep
                  obtain rfl := Option.some.inj ho
                  have g125 : a'.tmps[125]?.getD undef = .pointer (some ⟨g9, 0, none⟩) := by have h := hdep 1 _ rfl (by kernel_rfl); simpa using h
                  clear ho hfr hdep
                  have hcl := hcX _ hb
                  go_wp2_with fail
                  exact ⟨rfl, _, rfl, Below.refl _ _, rfl⟩
                · intro o ho a' w' hb hfr hdep
                  obtain rfl := Option.some.inj ho
                  have g12 : a'.tmps[12]?.getD undef = .bool il := by have h := hfr 12 (by kernel_rfl); simpa using h
                  clear ho hfr hdep
                  go_wp2_with fail
                  exact ⟨rfl, _, rfl, Below.refl _ _, rfl⟩
                · intro o ho a' w' hb hfr hdep
                  obtain rfl := Option.some.inj ho
                  have g126 : a'.tmps[126]?.getD undef = .int .i64 (kx : Int) := by have h := hdep 2 _ rfl (by kernel_rfl); simpa using h
                  have g127 : a'.tmps[127]?.getD undef = .bool il := by have h := hdep 3 _ rfl (by kernel_rfl); simpa using h
                  clear ho hfr hdep
                  go_wp2_with fail
                  exact ⟨rfl, _, rfl, Below.refl _ _, rfl⟩
                · intro o ho a' w' hb hfr hdep
                  obtain rfl := Option.some.inj ho
                  have g17 : a'.tmps[17]?.getD undef = .pointer (some ⟨g17, 0, none⟩) := by have h := hfr 17 (by kernel_rfl); simpa using h
                  clear ho hfr hdep
                  go_wp2_with fail
                  exact ⟨rfl, _, rfl, Below.refl _ _, rfl⟩
                · intro o ho a' w' hb hfr hdep
                  obtain rfl := Option.some.inj ho
                  have g129 : a'.tmps[129]?.getD undef = .pointer (some ⟨g17, 0, none⟩) := by have h := hdep 5 _ rfl (by kernel_rfl); simpa using h
                  clear ho hfr hdep
                  have hcl := hcS _ hb
                  go_wp2_with fail
                  exact ⟨rfl, _, rfl, Below.refl _ _, rfl⟩
                · intro o ho a' w' hb hfr hdep
                  obtain rfl := Option.some.inj ho
                  have g130 : a'.tmps[130]?.getD undef = .string sx := by have h := hdep 6 _ rfl (by kernel_rfl); simpa using h
                  clear ho hfr hdep
                  go_wp2_with fail
                  exact ⟨rfl, _, rfl, Below.refl _ _, rfl⟩
                · intro o ho a' w' hb hfr hdep
                  obtain rfl := Option.some.inj ho
                  have g14 : a'.tmps[14]?.getD undef = .slice ab pre2.length cb := by have h := hfr 14 (by kernel_rfl); simpa using h
                  clear ho hfr hdep
                  go_wp2_with fail
                  exact ⟨rfl, _, rfl, Below.refl _ _, rfl⟩
                · intro o ho a' w' hb hfr hdep
                  obtain rfl := Option.some.inj ho
                  have g17 : a'.tmps[17]?.getD undef = .pointer (some ⟨g17, 0, none⟩) := by have h := hfr 17 (by kernel_rfl); simpa using h
                  clear ho hfr hdep
                  go_wp2_with fail
                  exact ⟨rfl, _, rfl, Below.refl _ _, rfl⟩
                · intro o ho a' w' hb hfr hdep
                  obtain rfl := Option.some.inj ho
                  have g133 : a'.tmps[133]?.getD undef = .pointer (some ⟨g17, 2, none⟩) := by have h := hdep 9 _ rfl (by kernel_rfl); simpa using h
                  clear ho hfr hdep
                  have hcl := hcR _ hb
                  go_wp2_with fail
                  exact ⟨rfl, _, rfl, Below.refl _ _, rfl⟩
                · intro o ho a' w' hb hfr hdep
                  obtain rfl := Option.some.inj ho
                  have g132 : a'.tmps[132]?.getD undef = .slice ab pre2.length cb := by have h := hdep 8 _ rfl (by kernel_rfl); simpa using h
                  have g134 : a'.tmps[134]?.getD undef = .slice h1 cl.length h3 := by have h := hdep 10 _ rfl (by kernel_rfl); simpa using h
                  clear ho hfr hdep
                  go_wp2_with fail
                  exact ⟨rfl, _, rfl, blo _ _, _, rfl, Sl.fresh _ _ 1 2 [.slice ab pre2.length cb, .slice h1 cl.length h3] rfl (by decide)⟩
                · intro o ho a' w' hb hfr hdep
                  obtain rfl := Option.some.inj ho
                  obtain ⟨b8, g135, hs8⟩ := hdep 11 _ rfl (by kernel_rfl)
                  simp at g135
                  clear ho hfr hdep
                  go_wp2_with fail
                  refine (hCo _ hb b8 hs8).mono ?_
                  rintro e w9 ⟨a9, c9, rfl, ho9, hb9⟩
                  go_wp2_with fail
                  exact ⟨rfl, _, rfl, hb9, a9, c9, rfl, ho9.mono (Nat.le_trans hsz8 hb.size)⟩
                · intro o ho a' w' hb hfr hdep
                  obtain rfl := Option.some.inj ho
                  have g16 : a'.tmps[16]?.getD undef = .int .i64 (k : Int) := by have h := hfr 16 (by kernel_rfl); simpa using h
                  clear ho hfr hdep
                  go_wp2_with fail
                  exact ⟨rfl, _, rfl, Below.refl _ _, rfl⟩
                · intro o ho a' w' hb hfr hdep
                  obtain rfl := Option.some.inj ho
                  have g128 : a'.tmps[128]?.getD undef = .agg #[.int .i64 (kx : Int), .bool false, .bool il] := by have h := hdep 4 _ rfl (by kernel_rfl); simpa using h
                  have g131 : a'.tmps[131]?.getD undef = .int .i64 (sx.size : Int) := by have h := hdep 7 _ rfl (by kernel_rfl); simpa using h
                  obtain ⟨a9, c9, g136, ho'⟩ := hdep 12 _ rfl (by kernel_rfl)
                  simp at g136
                  have g137 : a'.tmps[137]?.getD undef = .int .i64 (k : Int) := by have h := hdep 13 _ rfl (by kernel_rfl); simpa using h
                  clear ho hfr hdep
                  go_wp2_with fail
                  exact ⟨rfl, _, rfl, Below.refl _ _, a9, c9, rfl, ho'⟩
                · intro o ho a' w' hb hfr hdep
                  obtain rfl := Option.some.inj ho
                  obtain ⟨a9, c9, g138, ho'⟩ := hdep 14 _ rfl (by kernel_rfl)
                  simp at g138
                  clear ho hfr hdep
                  go_wp2_with fail
                  exact ⟨rfl, _, rfl, blo _ _, _, a9, c9, rfl, Sl.fresh _ _ 6 1 (stc (⟨⟨(kx : Int), false, il⟩, (sx.size : Int), CT, (k : Int)⟩, (a9, NN, c9))) rfl (by decide), ho'.alloc _⟩
              · intro g w9 hb9 hp22
                obtain ⟨b', a', c', p139, hs', ho'⟩ := hp22 15 _ rfl
                have p124 := hp22 0 _ rfl
                clear hp22
                simp at p139 p124
                simp only [List.drop_succ_cons, List.drop_zero, List.map_cons, List.map_nil, putAll, Act.put, List.setIfInBounds_toArray, List.set_cons_succ, List.set_cons_zero, List.cons_append, List.nil_append, p139, p124]
                have hb79 := hb78.trans (hb9.mono hb78.size)
                have host9 := (hOS.below hbr8).below hb9
                go_wp2_with (at_builtin; refine app_st2 rfl _ _ rfl w7 w7.heap.size ao co ps rfl host9 (⟨⟨(kx : Int), false, il⟩, (sx.size : Int), CT, (k : Int)⟩, (a', NN, c')) ho' _ _ rfl hs' (by omega) hb79.size hb79 ?_; intro a10 c10 w10 ho10 hb10)
                go_roundg (pk.length - (k + 1))
                case measure => have := HG.out; omega
                case rel => exact ⟨k + 1, ps ++ [(⟨⟨(kx : Int), false, il⟩, (sx.size : Int), CT, (k : Int)⟩, (a', NN, c'))], a10, c10, by omega, rfl, by rw [List.length_append]; simp; omega, by rw [List.length_append]; rfl, by go_num, hide (HN.out _), ho10, hb10⟩
          · obtain rfl : k = pk.length := by omega
            have hps := HPS.out
            rw [List.take_of_length_le (by unfold rus; simp), HEK.out] at hps
            have HPN : Hid ((ruleSteps t ⟨(kx : Int), sn, si⟩ ⟨(kx : Int), xc⟩ l p 0 (langK t kx)).length = ps.length) := hide (by rw [← hps, List.length_map])
            go_wp2
            go_ret
            refine ⟨ao, co, ps, by rw [HPN.out]; rfl, ?_, hbw7.trans (hbr.mono hbw7.size), hOS.top.typ⟩
            rw [HPN.out, ← hps]
            exact hOS.stl
end Go.Proofs.Ytlpkicjijlcbfaa
end

/- the text B25e -/
section
/- Chapter 06: the program's Steps, whole. -/
namespace Go.Proofs.Ytlpkicjijlcbfaa
open Go.RowKit Go.Dx
def sv (s : St) : Value := .agg #[.int .i64 s.lang, .bool s.num, .bool s.wrd]
theorem tab_StepsT (H : TH) (t : Ta) (s : St) (l : List Sy) (a : Option Addr) (n c : Nat) (i : Int) (hll : l.length ≤ 1000000) (w : World) (hT : TaIs w H t) (hs : Sl w 2 a n c (l.flatMap sc)) :
    Calls Try.prog 28 #[H.v, sv s, .slice a n c, .int .i64 i] w (StepsT 67 (stepsL t s l i) w) := by
  by_cases hno : ¬ (validE t = 0 ∧ (s.lang = 0 ∨ s.lang = 1) ∧ 0 ≤ i ∧ goodS l = true) ∨ (l.length : Int) ≤ i
  · rw [steps_none hno]
    exact tab_Steps_no H t s l a n c i hno w hT hs
  · have h1 : ¬ (l.length : Int) ≤ i := fun h => hno (.inr h)
    have h2 : validE t = 0 ∧ (s.lang = 0 ∨ s.lang = 1) ∧ 0 ≤ i ∧ goodS l = true := Classical.byContradiction fun h => hno (.inl h)
    obtain ⟨hv, hsl, hi, hg⟩ := h2
    obtain ⟨p, rfl⟩ : ∃ p : Nat, i = (p : Int) := ⟨i.toNat, by omega⟩
    obtain ⟨x, hx⟩ : ∃ x, l[p]? = some x := ⟨l[p]'(by omega), List.getElem?_eq_getElem _⟩
    rw [steps_at hv hsl hg hx]
    unfold nextL
    by_cases hne : x.lang ≠ s.lang
    · rw [if_pos hne]
      exact tab_Steps_sw H t s l a n c p x hv hsl hx hg hll hne w hT hs
    · rw [if_neg hne]
      have heq : x.lang = s.lang := Classical.byContradiction hne
      cases hd : isD x.c
      · rw [if_neg (by simp)]
        exact tab_Steps_ru H t s l a n c p x hv hsl hx hg hll heq hd w hT hs
      · rw [if_pos rfl]
        exact tab_Steps_dg H t s l a n c p x hv hsl hx hg hll heq hd w hT hs
theorem tab_Steps (H : TH) (t : Ta) (s : St) (l : List Sy) (a : Option Addr) (n c : Nat) (i : Int) (hll : l.length ≤ 1000000) (w : World) (hT : TaIs w H t) (hs : Sl w 2 a n c (l.flatMap sc)) :
    Calls Try.prog 28 #[H.v, sv s, .slice a n c, .int .i64 i] w (StepsR (stepsL t s l i) w) := (tab_StepsT H t s l a n c i hll w hT hs).mono fun _ _ h => h.out
end Go.Proofs.Ytlpkicjijlcbfaa
end

/- the text B28 -/
section
/- Chapter 06: text and are, of the law. -/
namespace Go.Dx
open Go.RowKit
/-- rows of bytes, as they lie -/
structure BB (w : World) (a : Option Addr) (n c : Nat) (hs : List (Option Addr × Nat × Nat)) (rows : List (List UInt8)) : Prop where
  top : Sl w 1 a n c (hs.map hdv)
  len : hs.length = rows.length
  row : ∀ (i : Nat) (h : Option Addr × Nat × Nat) (r : List UInt8), hs[i]? = some h → rows[i]? = some r → Sl w 1 h.1 h.2.1 h.2.2 (r.map B8)
theorem BB.below {w w' : World} {a : Option Addr} {n c : Nat} {hs : List (Option Addr × Nat × Nat)} {rows : List (List UInt8)} (h : BB w a n c hs rows) (hb : Below w.heap.size w w') : BB w' a n c hs rows :=
  ⟨h.top.below hb, h.len, fun i x r h1 h2 => (h.row i x r h1 h2).below hb⟩
theorem BB.n_eq {w : World} {a : Option Addr} {n c : Nat} {hs : List (Option Addr × Nat × Nat)} {rows : List (List UInt8)} (h : BB w a n c hs rows) : n = rows.length := by rw [← h.len, ← h.top.n_eq]
def symsOf (s : ByteArray) : List Sy := (chars s).map fun c => ⟨0, c⟩
theorem symsOf_step {s : ByteArray} {k : Nat} {c : UInt8} (h : (chars s)[k]? = some c) : (symsOf s).take (k + 1) = (symsOf s).take k ++ [⟨0, c⟩] := by
  have : (symsOf s)[k]? = some ⟨0, c⟩ := by unfold symsOf; rw [List.getElem?_map, h]; rfl
  exact take_succ_get this
end Go.Dx
namespace Go.Proofs.Ytlpkicjijlcbfaa
open Go.RowKit Go.Dx
def zeroSym : Value := .agg #[.int .i64 0, .int .u8 0]
theorem info_sym : (Try.prog.info? 88).map (fun i => (i.zero, i.size, i.bytes)) = some (some zeroSym, 2, 16) := by kernel_rfl
section
variable {w : World} {ops : Array Oper} {rest : List Oper} {o : Oper} {act : Act} {Q : Exit → Act → World → Prop}
/-- 'append(l, sym)' -/
theorem app_sy (hg : o.guard = none) (s x : Operand) (hop : o.op = Op.call { callee := Callee.builtin Builtin.append, args := #[s, x], argTypes := #[31, 31] })
    (w0 : World) (B : Nat) (a : Option Addr) (n c : Nat) (xs : List Value) (hs : act.eval s = .slice a n c) (hown : Own w B 88 2 a n c xs)
    (p : Sy) (hx : act.eval x = .slice (some ⟨w.heap.size, 0, none⟩) 1 1)
    (hn : n ≤ 1000000) (hB : B ≤ w.heap.size) (hbel : Below B w0 w)
    (hK : ∀ a' c' w', Own w' B 88 2 a' (n + 1) c' (xs ++ sc p) → w.grownBy w' (a.map (·.block)) → Below B w0 w' → wpList Try.prog ops Q rest (act.put o.dst (.slice a' (n + 1) c')) w') :
    wpList Try.prog ops Q (o :: rest) act (w.alloc (.cells (sc p).toArray 88)) :=
  append_lit hg s x 31 hop 88 zeroSym 2 16 Try.underlying31 info_sym rfl w0 B a n c xs hs hown 1 (sc p) hx rfl (sc_one p) (by omega) (by unfold maxLen; omega) hB hbel hK
end
/-- the cells of a step -/
theorem st_cells {w : World} {a : Option Addr} {n c : Nat} {ps : List SH} {L : List Stp} (hs : Stl w a n c ps L) {k : Nat} {p : SH} (hx : ps[k]? = some p) :
    ∃ b o, a = some ⟨b, o, none⟩ ∧ b < w.heap.size ∧ w.cell? ⟨b, o + k * 6, none⟩ = some (.int .i64 p.1.dst.lang) ∧ w.cell? ⟨b, o + k * 6 + 1, none⟩ = some (.bool p.1.dst.num) ∧ w.cell? ⟨b, o + k * 6 + 2, none⟩ = some (.bool p.1.dst.wrd) ∧ w.cell? ⟨b, o + k * 6 + 3, none⟩ = some (.int .i64 p.1.len) ∧ w.cell? ⟨b, o + k * 6 + 4, none⟩ = some (.slice p.2.1 p.2.2.1 p.2.2.2) ∧ w.cell? ⟨b, o + k * 6 + 5, none⟩ = some (.int .i64 p.1.rule) := by
  have hk := (List.getElem?_eq_some_iff.1 hx).1
  obtain ⟨b, o, hab, hb, hc⟩ := hs.top.ex (by rw [flat_len stc_len]; omega)
  refine ⟨b, o, hab, hb, ?_, ?_, ?_, ?_, ?_, ?_⟩
  · exact hc (k * 6) _ (flat_get stc_len hx (j := 0) (by decide))
  · exact hc (k * 6 + 1) _ (flat_get stc_len hx (j := 1) (by decide))
  · exact hc (k * 6 + 2) _ (flat_get stc_len hx (j := 2) (by decide))
  · exact hc (k * 6 + 3) _ (flat_get stc_len hx (j := 3) (by decide))
  · exact hc (k * 6 + 4) _ (flat_get stc_len hx (j := 4) (by decide))
  · exact hc (k * 6 + 5) _ (flat_get stc_len hx (j := 5) (by decide))
end Go.Proofs.Ytlpkicjijlcbfaa
end

/- the text B29 -/
section
/- Chapter 06: the example's tables in plain Lean; more laws on rules that a call owns. -/
namespace Go.Dx
open Go.RowKit
def letters (n : Nat) : List Ru := (List.range n).map fun i => ⟨⟨#[UInt8.ofNat (97 + i)]⟩, 0, [UInt8.ofNat (1 + i)]⟩
theorem letters_step (i : Nat) : letters (i + 1) = letters i ++ [⟨⟨#[UInt8.ofNat (97 + i)]⟩, 0, [UInt8.ofNat (1 + i)]⟩] := by
  unfold letters; rw [List.range_succ, List.map_append]; rfl
def more4 : List Ru := [⟨⟨#[97, 110]⟩, 0, [30]⟩, ⟨⟨#[97, 110]⟩, 1, [31]⟩, ⟨⟨#[110]⟩, 3, [32]⟩, ⟨⟨#[46]⟩, 0, [33]⟩]
def exTa : Ta := { l0 := letters 26 ++ more4, l1 := letters 26, dig := [41, 42, 43, 44, 45, 46, 47, 48, 49, 50], cap := [60], num := [61], fin := [62], sw := [63] }
theorem grown_below {a b c : World} {row : Option Nat} (h : a.grownBy b row) (hb : Below a.heap.size b c) : a.grownBy c row :=
  ⟨hb.os.trans h.os, hb.tape.trans h.tape, hb.output.trans h.output, Nat.le_trans h.size hb.size, fun i hi hr => (hb.block i hi).trans (h.block i hi hr)⟩
theorem far_map {w : World} {B B' : Nat} {e e' : TypeId} {sz sz' : Nat} {p : Addr} {a : Option Addr} {n n' c c' : Nat} {cs cs' : List Value} (h : Own w B e sz (some p) n c cs) (h' : Own w B' e' sz' a n' c' cs') (he : e ≠ e') : some p.block ≠ a.map (·.block) := by
  cases a with
  | none => simp
  | some q => have := own_far h h' he; simpa using this
theorem own_map {w : World} {B : Nat} {e : TypeId} {sz : Nat} {a : Option Addr} {n c : Nat} {cs : List Value} (h : Own w B e sz a n c cs) {b : Nat} (hb : w.heap.size ≤ b) : some b ≠ a.map (·.block) := by
  cases a with
  | none => simp
  | some q => have := h.base.2; simp; omega
theorem box_far {w : World} {g B : Nat} {t e : TypeId} {us : List Value} {sz : Nat} {p : Addr} {n c : Nat} {cs : List Value} (h : Box w g t us) (h' : Own w B e sz (some p) n c cs) (he : t ≠ e) : p.block ≠ g := by
  rcases h'.2 with ⟨k1, _⟩ | ⟨q, cap, cur, k1, _, k2, _⟩
  · cases k1
  · injection k1 with k1
    injection k1 with k1
    subst k1
    intro e2
    have e2 : q = g := e2
    unfold Box at h
    rw [← e2, k2] at h
    injection h with h
    injection h with _ h
    exact he h.symm
theorem ORu.kept {w w' : World} {E U : TypeId} {B : Nat} {a : Option Addr} {c : Nat} {ps : List RH} {g : Nat} {t : TypeId} {us : List Value} (h : ORu w E U B a c ps) (hg : w.grownBy w' (some g)) (hx : Box w g t us) (hE : t ≠ E) (hU : t ≠ U) : ORu w' E U B a c ps := by
  refine ⟨?_, fun p hp => ⟨?_, (h.row p hp).2⟩⟩
  · refine h.top.kept hg fun q hq => ?_
    have ho := h.top
    rw [hq] at ho
    have := box_far hx ho hE
    simpa using this
  · have ho := (h.row p hp).1
    refine ho.kept hg fun q hq => ?_
    rw [hq] at ho
    have := box_far hx ho hU
    simpa using this
theorem ORu.mono {w : World} {E U : TypeId} {B B' : Nat} {a : Option Addr} {c : Nat} {ps : List RH} (h : ORu w E U B a c ps) (hB : B' ≤ B) : ORu w E U B' a c ps := ⟨h.top.mono hB, h.row⟩
theorem set_same {α : Type} {l : List α} {k : Nat} {v : α} (h : l[k]? = some v) : l.set k v = l := by
  apply List.ext_getElem?
  intro i
  rw [List.getElem?_set]
  split
  · rename_i e
    subst e
    rw [h]
    have := (List.getElem?_eq_some_iff.1 h).1
    simp [this]
  · rfl
end Go.Dx
end

/- the text Free3 -/
section
/- A region that draws its order, whose operations that change the world follow one another (CH); the others (TL) leave the world as it is and may come at any time. No program in sight. -/
set_option linter.unusedVariables false
namespace Go.Dx
open Go.RowKit

structure ChInv (l : List Oper) (n : Nat) (CH TL T : List HOp) (a0 : Act) (G : Nat → List Value → World → Prop) (listed : Array Bool) (a : Act) (w : World) : Prop where
  inv : HeadInv .any l.toArray n listed
  defers : a.defers = a0.defers
  size : a.tmps.size = a0.tmps.size
  frame : ∀ k, (∀ t ∈ T, t.d ≠ k) → a.tmps.getD k undef = a0.tmps.getD k undef
  stage : ∃ j, j ≤ CH.length ∧ (∀ m c, CH[m]? = some c → (listed.getD c.i false = true ↔ m < j)) ∧ G j (CH.map fun c => a.tmps.getD c.d undef) w
  facts : ∀ t ∈ TL, listed.getD t.i false = true → t.fact a w

/-- each waits for the one before it -/
def linkOk (ops : Array Oper) : List Nat → Bool
  | i :: j :: l => Region.waitsFor .any ops j i && linkOk ops (j :: l)
  | _ => true
theorem linkOk_get {ops : Array Oper} : ∀ {L : List Nat}, linkOk ops L = true → ∀ m i j, L[m]? = some i → L[m + 1]? = some j → Region.waitsFor .any ops j i = true := by
  intro L
  induction L with
  | nil => intro _ m i j h; cases h
  | cons x L ih =>
    intro h m i j h1 h2
    cases L with
    | nil => cases m <;> simp at h2
    | cons y L =>
      simp only [linkOk, Bool.and_eq_true] at h
      cases m with
      | zero => cases h1; cases h2; exact h.1
      | succ m => exact ih h.2 m i j h1 h2

section
variable {P : Program}
end
end Go.Dx
end

/- the text Free4 -/
section
/- A region that draws its order: some operations follow one another (CH) and may change what they own; the others (TL) may make memory, come at any time, and their facts outlast what the chain does (R). No program in sight. -/
set_option linter.unusedVariables false
namespace Go.Dx
open Go.RowKit

def headOk4 (l : List Oper) (n : Nat) (T : List (Nat × Nat × List Nat)) : Bool :=
  let ops := l.toArray
  decide ((T.map (·.1)).Nodup) && decide (n < l.length) && Region.sinkB .any ops n && Region.chainB .any ops n && Region.seqB .any ops (l.length - n) n ((List.replicate n true ++ List.replicate (l.length - n) false).toArray) &&
  (List.range n).all (fun j => T.any fun t => t.1 == j) &&
  T.all (fun t => decide (t.1 < n) && (match l[t.1]? with | some o => (o.after.all fun e => !Region.binds .any e || decide (e.on < t.1)) | none => false)) &&
  T.all (fun t => T.all fun u => t.1 == u.1 || (t.2.1 != u.2.1 && (!u.2.2.contains t.2.1 || Region.waitsFor .any ops u.1 t.1)))
theorem putAll_get4 (g : Nat → Value) : ∀ (L : List Nat) (a : Act) (k : Nat), (putAll a (L.map fun d => (d, g d))).tmps.getD k undef = if k ∈ L ∧ k < a.tmps.size then g k else a.tmps.getD k undef := by
  intro L
  induction L with
  | nil => intro a k; simp [putAll]
  | cons d L ih =>
    intro a k
    have hz : (a.put (some d) (g d)).tmps.size = a.tmps.size := by simp [Act.put]
    rw [List.map_cons, putAll, ih, put_get, hz]
    by_cases h0 : k < a.tmps.size
    · by_cases h1 : k ∈ L
      · rw [if_pos ⟨h1, h0⟩, if_pos ⟨List.mem_cons_of_mem _ h1, h0⟩]
      · rw [if_neg (fun h => h1 h.1)]
        by_cases h2 : d = k
        · subst h2; rw [if_pos ⟨rfl, h0⟩, if_pos ⟨List.mem_cons_self, h0⟩]
        · rw [if_neg (fun h => h2 h.1), if_neg (fun h => by rcases List.mem_cons.1 h.1 with h | h; exact h2 h.symm; exact h1 h)]
    · rw [if_neg (fun h => h0 h.2), if_neg (fun h => h0 (by omega)), if_neg (fun h => h0 h.2)]
section
variable {P : Program}
/-- one operation of the chain is done -/
def OneTurn4 (c : HOp) (a : Act) (R : Value → World → Prop) (e : Exit) (a' : Act) (w' : World) : Prop := e = .normal ∧ ∃ v, a' = (if c.s = [] then a.put (some c.d) v else a) ∧ R v w'
theorem put_out (a : Act) (d : Nat) (v : Value) (h : a.tmps.size ≤ d) : a.put (some d) v = a := by
  refine act_ext rfl (by simp [Act.put]) (fun k => ?_)
  rw [put_get, if_neg (fun hh => by omega)]
/-- A chain operation without a slot (a store) is given a slot beyond the frame and 's' not []. -/
theorem wp_region_chain4 {id : Nat} {Q : Exit → Act → World → Prop} {a0 : Act} {w0 : World} {l : List Oper} (n : Nat) (R4 : World → World → Prop) (G : Nat → List Value → World → Prop) (CH TL : List HOp) (hm : P.follows .mixedOrders = true)
    (hB : ((TL.all fun t => decide (t.d < a0.tmps.size)) && (CH.all fun c => if c.s = [] then decide (c.d < a0.tmps.size) else decide (a0.tmps.size ≤ c.d)) && headOk4 l n ((CH ++ TL).map fun t => (t.i, t.d, if TL.any (fun u => u.i == t.i) then t.s else [])) && linkOk l.toArray (CH.map (·.i)) && (TL.all fun t => CH.all fun c => t.i != c.i && t.d != c.d)) = true)
    (hG0 : G 0 (CH.map fun c => a0.tmps.getD c.d undef) { w0 with drawn := w0.drawn + 1 })
    (hR : ∀ w w', Below w.heap.size w w' → R4 w w')
    (hGm : ∀ j vs w w', Below w.heap.size w w' → G j vs w → G j vs w')
    (hmono : All (fun t : HOp => ∀ vs w w', R4 w w' → t.p vs w → t.p vs w') TL)
    (hopC : ∀ m c, CH[m]? = some c → ∀ o, l[c.i]? = some o → ∀ (a : Act) (w : World), G m (CH.map fun c => a.tmps.getD c.d undef) w →
      (∀ k, ((CH ++ TL).map (·.d)).contains k = false → a.tmps.getD k undef = a0.tmps.getD k undef) →
      (∀ (k : Nat) (u : HOp), TL[k]? = some u → Region.waitsFor .any l.toArray c.i u.i = true → u.p (u.s.map fun k => a.tmps.getD k undef) w) →
      wpList P l.toArray (OneTurn4 c a fun v w' => R4 w w' ∧ G (m + 1) (CH.map fun e => if e.d = c.d then (if c.s = [] then v else undef) else a.tmps.getD e.d undef) w') [o] a w)
    (hopL : All (fun t : HOp => ∀ o, l[t.i]? = some o → ∀ (a : Act) (w : World),
      (∀ k, ((CH ++ TL).map (·.d)).contains k = false → a.tmps.getD k undef = a0.tmps.getD k undef) →
      (∀ (k : Nat) (u : HOp), TL[k]? = some u → Region.waitsFor .any l.toArray t.i u.i = true → u.p (u.s.map fun k => a.tmps.getD k undef) w) →
      (∃ j, (∀ m c, CH[m]? = some c → Region.waitsFor .any l.toArray t.i c.i = true → m < j) ∧ j ≤ CH.length ∧ G j (CH.map fun c => a.tmps.getD c.d undef) w) →
      wpList P l.toArray (OneDone t.d a w fun v w' => t.p (t.s.map fun k => if t.d = k then v else a.tmps.getD k undef) w') [o] a w) TL)
    (hend : ∀ (g : Nat → Value) (w : World), G CH.length (CH.map fun c => g c.d) w → (∀ (k : Nat) (u : HOp), TL[k]? = some u → u.p (u.s.map fun k => if k ∈ (CH ++ TL).map (·.d) then g k else a0.tmps.getD k undef) w) →
      wpList P l.toArray Q (l.drop n) (putAll a0 (((CH ++ TL).map (·.d)).map fun d => (d, g d))) w) : (Code.region id l.toArray true).wp P Q a0 w0 := by
  obtain ⟨T, hTdef⟩ : ∃ T, CH ++ TL = T := ⟨_, rfl⟩
  have memC : ∀ t ∈ CH, t ∈ T := fun t ht => by rw [← hTdef]; exact List.mem_append_left _ ht
  have memL : ∀ t ∈ TL, t ∈ T := fun t ht => by rw [← hTdef]; exact List.mem_append_right _ ht
  have split : ∀ t ∈ T, t ∈ CH ∨ t ∈ TL := fun t ht => by rw [← hTdef] at ht; exact List.mem_append.1 ht
  rw [hTdef] at hB hopC hopL hend
  rw [Bool.and_eq_true, Bool.and_eq_true] at hB
  obtain ⟨⟨hB, hlink⟩, hdis⟩ := hB
  rw [Bool.and_eq_true, Bool.and_eq_true] at hB
  obtain ⟨⟨hTLd, hCHd⟩, hB⟩ := hB
  have htl : ∀ t ∈ TL, t.d < a0.tmps.size := fun t ht => by simpa using List.all_eq_true.1 hTLd t ht
  have hch : ∀ c ∈ CH, c.s = [] → c.d < a0.tmps.size := fun c hc hs => by have := List.all_eq_true.1 hCHd c hc; simpa [hs] using this
  have hch2 : ∀ c ∈ CH, c.s ≠ [] → a0.tmps.size ≤ c.d := fun c hc hs => by have := List.all_eq_true.1 hCHd c hc; simpa [hs] using this
  have hdis2 : ∀ t ∈ TL, ∀ c ∈ CH, t.i ≠ c.i ∧ t.d ≠ c.d := by
    intro t ht c hc
    have := List.all_eq_true.1 (List.all_eq_true.1 hdis t ht) c hc
    simpa using this
  have hlk : ∀ m c e, CH[m]? = some c → CH[m + 1]? = some e → Region.waitsFor .any l.toArray e.i c.i = true := fun m c e h1 h2 =>
    linkOk_get hlink m c.i e.i (by rw [List.getElem?_map, h1]; rfl) (by rw [List.getElem?_map, h2]; rfl)
  simp only [headOk4, Bool.and_eq_true, decide_eq_true_eq] at hB
  obtain ⟨⟨⟨⟨⟨⟨⟨hnd, hn⟩, hs⟩, hc⟩, hseq⟩, hcov⟩, hT⟩, hpair⟩ := hB
  have hnodup : ∀ t ∈ T, ∀ u ∈ T, t.i = u.i → t = u := inj_nodup (·.i) T (by rw [List.map_map] at hnd; exact hnd)
  have hn' : n < l.toArray.size := by simpa using hn
  have cover : ∀ j, j < n → ∃ t ∈ T, t.i = j := by
    intro j hj
    have h := List.all_eq_true.1 hcov j (List.mem_range.2 hj)
    obtain ⟨x, hx, he⟩ := List.any_eq_true.1 h
    obtain ⟨t, ht, rfl⟩ := List.mem_map.1 hx
    exact ⟨t, ht, by simpa using he⟩
  have own : ∀ t ∈ T, t.i < n ∧ ∃ o, l[t.i]? = some o ∧ ∀ e ∈ o.after, Region.binds .any e = true → e.on < t.i := by
    intro t ht
    have h := List.all_eq_true.1 hT _ (List.mem_map.2 ⟨t, ht, rfl⟩)
    simp only [Bool.and_eq_true, decide_eq_true_eq] at h
    obtain ⟨h1, h3⟩ := h
    refine ⟨h1, ?_⟩
    cases ho : l[t.i]? with
    | none => rw [ho] at h3; cases h3
    | some o =>
      rw [ho] at h3
      refine ⟨o, rfl, fun e he hb => ?_⟩
      have := Array.all_eq_true_iff_forall_mem.1 h3 e he
      simpa [hb] using this
  have pair : ∀ t ∈ T, ∀ u ∈ T, t.i ≠ u.i → t.d ≠ u.d ∧ (u ∈ TL → t.d ∈ u.s → Region.waitsFor .any l.toArray u.i t.i = true) := by
    intro t ht u hu hne
    have h := List.all_eq_true.1 (List.all_eq_true.1 hpair _ (List.mem_map.2 ⟨t, ht, rfl⟩)) _ (List.mem_map.2 ⟨u, hu, rfl⟩)
    simp only [Bool.or_eq_true, beq_iff_eq, hne, false_or, Bool.and_eq_true, bne_iff_ne, ne_eq, Bool.not_eq_true'] at h
    refine ⟨h.1, fun huL hin => ?_⟩
    have hany : (TL.any fun v => v.i == u.i) = true := List.any_eq_true.2 ⟨u, huL, by simp⟩
    rw [hany, if_pos rfl] at h
    rcases h.2 with h2 | h2
    · have : u.s.contains t.d = true := by simpa using hin
      rw [this] at h2; cases h2
    · exact h2
  have key : ∀ (f : Nat) (listed : Array Bool) (a : Act) (w : World), ChInv l n CH TL T a0 G listed a w → todo listed n = f → wpAny P .any l.toArray Q (f + (l.length - n)) listed a w := by
    intro f
    induction f with
    | zero =>
      intro listed a w I h0
      have hall : ∀ j, j < n → listed.getD j true = true := by
        intro j hj
        cases hb : listed.getD j true with
        | true => rfl
        | false =>
          have : j ∈ (List.range n).filter fun j => !listed.getD j true := List.mem_filter.2 ⟨List.mem_range.2 hj, by rw [hb]; rfl⟩
          unfold todo at h0
          rw [List.eq_nil_of_length_eq_zero h0] at this
          cases this
      have hlist : listed = (List.replicate n true ++ List.replicate (l.length - n) false).toArray := by
        have hsz := I.inv.size
        apply Array.ext
        · simp at hsz ⊢; omega
        · intro j h1 h2
          by_cases hj : j < n
          · have := hall j hj
            simp [Array.getD, h1] at this
            simp [this, List.getElem_append_left, hj]
          · have := I.inv.tail j (by omega) (by rw [← hsz]; exact h1)
            simp [Array.getD, h1] at this
            simp only [this, List.getElem_toArray]
            rw [List.getElem_append_right (by simp; omega)]
            simp
      have ha : a = putAll a0 ((T.map (·.d)).map fun d => (d, a.tmps.getD d undef)) := by
        refine act_ext (by rw [putAll_defers]; exact I.defers) (by rw [putAll_size]; exact I.size) (fun k => ?_)
        rw [putAll_get4 (fun d => a.tmps.getD d undef)]
        by_cases h0 : k < a0.tmps.size
        · by_cases h : k ∈ T.map (·.d)
          · rw [if_pos ⟨h, h0⟩]
          · rw [if_neg (fun hh => h hh.1)]
            exact I.frame k (fun t ht e => h (List.mem_map.2 ⟨t, ht, e⟩))
        · rw [if_neg (fun hh => h0 hh.2)]
          have h1 := I.size
          have hk : ¬ k < a.tmps.size := by omega
          simp [Array.getD, hk, h0]
      have hls : ∀ t ∈ T, listed.getD t.i false = true := by
        intro t ht
        have := hall t.i (own t ht).1
        rcases Nat.lt_or_ge t.i listed.size with h' | h'
        · simp [h'] at this ⊢; exact this
        · have := I.inv.size; have := (own t ht).1; omega
      obtain ⟨j, hj, hjs, hG⟩ := I.stage
      have hjl : j = CH.length := by
        rcases Nat.lt_or_ge j CH.length with h | h
        · have h1 : CH[j]? = some CH[j] := by simp [h]
          have := (hjs j _ h1).1 (hls _ (memC _ (List.getElem_mem h)))
          omega
        · omega
      rw [hjl] at hG
      have hfin := hend (fun d => a.tmps.getD d undef) w hG (fun k u hu => by
        have hu' := List.mem_of_getElem? hu
        have h1 := I.facts u hu' (hls u (memL u hu'))
        unfold HOp.fact at h1
        have e : (u.s.map fun k => if k ∈ T.map (·.d) then a.tmps.getD k undef else a0.tmps.getD k undef) = u.s.map fun k => a.tmps.getD k undef := by
          apply List.map_congr_left
          intro k _
          by_cases h : k ∈ T.map (·.d)
          · rw [if_pos h]
          · rw [if_neg h]
            exact (I.frame k (fun t ht e => h (List.mem_map.2 ⟨t, ht, e⟩))).symm
        rw [e]
        exact h1)
      rw [← ha] at hfin
      rw [Nat.zero_add]
      have hseq' : Region.seqB .any l.toArray (l.drop n).length n listed = true := by rw [hlist, List.length_drop]; exact hseq
      have := wpAny_of_seq (md := .any) (Q' := Q) (l.drop n) n listed a w (fun j => by simp [List.getElem?_drop]) hseq' hfin
      rwa [List.length_drop] at this
    | succ f ih =>
      intro listed a w I hf
      have hex : ∃ j, j < n ∧ listed.getD j true = false := by
        cases hL : (List.range n).filter fun j => !listed.getD j true with
        | nil => unfold todo at hf; rw [hL] at hf; cases hf
        | cons j L =>
          have : j ∈ (List.range n).filter fun j => !listed.getD j true := by rw [hL]; exact List.mem_cons_self
          obtain ⟨h1, h2⟩ := List.mem_filter.1 this
          exact ⟨j, List.mem_range.1 h1, by simpa using h2⟩
      have hready : Region.ready .any l.toArray listed ≠ [] := by
        have hmin : ∀ m j, j ≤ m → j < n → listed.getD j true = false → ∃ i, i ∈ Region.ready .any l.toArray listed := by
          intro m
          induction m with
          | zero =>
            intro j hj hjn hjl
            have hj0 : j = 0 := by omega
            subst hj0
            obtain ⟨t, ht, hti⟩ := cover 0 hjn
            obtain ⟨_, o, ho, hb⟩ := own t ht
            rw [hti] at ho hb
            exact ⟨0, mem_ready.2 ⟨hjl, o, by simpa using ho, fun e he hbe => absurd (hb e he hbe) (by omega)⟩⟩
          | succ m ihm =>
            intro j hj hjn hjl
            obtain ⟨t, ht, hti⟩ := cover j hjn
            obtain ⟨_, o, ho, hb⟩ := own t ht
            rw [hti] at ho hb
            by_cases hall : ∀ e ∈ o.after, Region.binds .any e = true → listed.getD e.on false = true
            · exact ⟨j, mem_ready.2 ⟨hjl, o, by simpa using ho, hall⟩⟩
            · simp only [Classical.not_forall] at hall
              obtain ⟨e, he, hbe, hne⟩ := hall
              have hlt := hb e he hbe
              have hes : e.on < listed.size := by rw [I.inv.size]; simp; omega
              exact ihm e.on (by omega) (by omega) (getD_in hes (by simpa using hne))
        obtain ⟨j, hj, hjl⟩ := hex
        obtain ⟨i, hi⟩ := hmin j j (Nat.le_refl _) hj hjl
        intro h
        rw [h] at hi
        cases hi
      rw [show f + 1 + (l.length - n) = (f + (l.length - n)) + 1 by omega]
      refine ⟨fun h => absurd h hready, fun i hi => ?_⟩
      have hin : i < n := by
        rcases Nat.lt_or_ge i n with h | h
        · exact h
        · obtain ⟨j, hj, hjl⟩ := hex
          exact absurd hi (tail_waits hs hc hn' I.inv _ j rfl hj hjl i h)
      obtain ⟨t, ht, hti⟩ := cover i hin
      obtain ⟨_, o, ho, _⟩ := own t ht
      obtain ⟨hil, oi, hoi, hafter⟩ := mem_ready.1 hi
      have hoo : oi = o := by rw [hti] at ho; exact Option.some.inj (hoi.symm.trans (by simpa using ho))
      subst hoo
      have hframe : ∀ k, (T.map (·.d)).contains k = false → a.tmps.getD k undef = a0.tmps.getD k undef := fun k hk => I.frame k (fun u hu e => by
          have : (T.map (·.d)).contains k = true := by simpa using ⟨u, hu, e⟩
          rw [this] at hk; cases hk)
      have hfacts : ∀ (k : Nat) (u : HOp), TL[k]? = some u → Region.waitsFor .any l.toArray t.i u.i = true → u.p (u.s.map fun k => a.tmps.getD k undef) w := fun k u hu hw => by
        have hu' := List.mem_of_getElem? hu
        obtain ⟨oj, hoj, e, he, hb, hon⟩ := Region.waitsFor_spec hw
        have : oj = oi := by rw [hti] at hoj; exact Option.some.inj (hoj.symm.trans hoi)
        subst this
        have h1 := hafter e he hb
        rw [hon] at h1
        exact I.facts u hu' h1
      have step0 : ∀ (v : Value) (w' : World), R4 w w' → (∃ j, j ≤ CH.length ∧ (∀ m c, CH[m]? = some c → ((listed.setIfInBounds i true).getD c.i false = true ↔ m < j)) ∧ G j (CH.map fun c => (a.put (some t.d) v).tmps.getD c.d undef) w') →
          (t ∈ TL → t.p (t.s.map fun k => if t.d = k then v else a.tmps.getD k undef) w') → wpAny P .any l.toArray Q (f + (l.length - n)) (listed.setIfInBounds i true) (a.put (some t.d) v) w' := by
        intro v w' hrr hst hp
        refine ih _ _ _ ⟨I.inv.set hi hin, I.defers, ?_, ?_, hst, ?_⟩ ?_
        · rw [← I.size]; simp [Act.put]
        · intro k hk
          rw [put_get, if_neg (fun h => hk t ht h.1)]
          exact I.frame k hk
        · intro u hu hul
          by_cases hui : t.i = u.i
          · unfold HOp.fact
            have hut : u = t := hnodup u (memL u hu) t ht hui.symm
            subst hut
            have e : (u.s.map fun k => (a.put (some u.d) v).tmps.getD k undef) = u.s.map fun k => if u.d = k then v else a.tmps.getD k undef := by
              apply List.map_congr_left
              intro k _
              rw [put_get, I.size]
              by_cases hk : u.d = k
              · rw [if_pos ⟨hk, htl _ hu⟩, if_pos hk]
              · rw [if_neg (fun h => hk h.1), if_neg hk]
            rw [e]
            exact hp hu
          · unfold HOp.fact
            have hul2 : listed.getD u.i false = true := by rw [← getD_set_ne false (i := i) (j := u.i) (by rw [← hti]; exact hui)]; exact hul
            have h1 := hmono.mem u hu _ w w' hrr (I.facts u hu hul2)
            have hnot : t.d ∉ u.s := by
              intro hin2
              have hw := (pair t ht u (memL u hu) hui).2 hu hin2
              obtain ⟨ou, hou, e, he, hb, hon⟩ := Region.waitsFor_spec hw
              have := I.inv.closed u.i ou hou hul2 e he hb
              rw [hon, hti, getD_both hil] at this
              cases this
            have e : (u.s.map fun k => (a.put (some t.d) v).tmps.getD k undef) = u.s.map fun k => a.tmps.getD k undef := by
              apply List.map_congr_left
              intro k hk
              rw [put_get, if_neg (fun (h : t.d = k ∧ t.d < a.tmps.size) => hnot (by rw [h.1]; exact hk))]
            rw [e]
            exact h1
        · have := todo_set hin hil; omega
      have fin : ∀ (R : Exit → Act → World → Prop), (∀ e a' w', R e a' w' → e = .normal) → (∀ a' w', R .normal a' w' → wpAny P .any l.toArray Q (f + (l.length - n)) (listed.setIfInBounds i true) a' w') → wpList P l.toArray R [oi] a w → wpOp P l.toArray Q i (fun a' w' => wpAny P .any l.toArray Q (f + (l.length - n)) (listed.setIfInBounds i true) a' w') a w := by
        intro R hR step H
        unfold wpList at H
        unfold wpOp
        rw [hoi]
        simp only
        by_cases hwant : Region.wanted oi (yielded l.toArray a.tmps) = true
        · rw [if_pos hwant] at H
          rw [if_pos hwant]
          left
          rcases H with H | ⟨_, a1, w1, h1⟩
          · exact wp_both (fun a' w' h => step a' w' h) (fun e a' w' he h => absurd (hR _ _ _ h) he) H
          · exact absurd (hR _ _ _ h1) (by simp)
        · rw [if_neg hwant] at H
          rw [if_neg hwant]
          exact step _ _ H
      obtain ⟨j, hj, hjs, hG⟩ := I.stage
      rcases split t ht with h | h
      · obtain ⟨j0, hj0l, hj0⟩ := List.mem_iff_getElem.1 h
        have hg0 : CH[j0]? = some t := by rw [List.getElem?_eq_getElem hj0l, hj0]
        have hnl : listed.getD t.i false = false := by rw [hti]; exact getD_both hil
        have h1 : ¬ j0 < j := fun h => by rw [(hjs j0 t hg0).2 h] at hnl; cases hnl
        have h2 : j0 ≤ j := by
          cases j0 with
          | zero => omega
          | succ q =>
            have hq : CH[q]? = some CH[q] := by simp
            obtain ⟨oj, hoj, e, he, hb, hon⟩ := Region.waitsFor_spec (hlk q _ t hq hg0)
            have : oj = oi := by rw [hti] at hoj; exact Option.some.inj (hoj.symm.trans hoi)
            subst this
            have h3 := hafter e he hb
            rw [hon] at h3
            have := (hjs q _ hq).1 h3
            omega
        obtain rfl : j0 = j := by omega
        refine fin _ (fun e a' w' h => h.1) ?_ (hopC j0 t hg0 oi ho a w hG hframe hfacts)
        rintro a' w' ⟨_, v, ha', hrr, hG'⟩
        obtain rfl : a' = a.put (some t.d) v := by
          rw [ha']
          by_cases hs0 : t.s = []
          · rw [if_pos hs0]
          · rw [if_neg hs0, put_out a t.d v (by rw [I.size]; exact hch2 t h hs0)]
        refine step0 v w' hrr ⟨j0 + 1, by omega, ?_, ?_⟩ (fun hL => absurd rfl (hdis2 t hL t h).1)
        · intro m c hc
          by_cases hci : c.i = i
          · have hct : c = t := hnodup c (memC c (List.mem_of_getElem? hc)) t ht (by rw [hci, hti])
            subst hct
            have hm0 : m = j0 := by
              rcases Nat.lt_trichotomy m j0 with h | h | h
              · have := (hjs m c hc).2 h
                rw [hnl] at this; cases this
              · exact h
              · exfalso
                have hnd2 : (CH.map (·.i)).Nodup := by
                  have h5 := hnd
                  rw [← hTdef, List.map_map, List.map_append] at h5
                  exact (List.nodup_append.1 h5).1
                have h6 : (CH.map (·.i))[m]? = some c.i := by rw [List.getElem?_map, hc]; rfl
                have h7 : (CH.map (·.i))[j0]? = some c.i := by rw [List.getElem?_map, hg0]; rfl
                obtain ⟨hm1, hm2⟩ := List.getElem?_eq_some_iff.1 h6
                have := (List.getElem?_inj hm1 hnd2).1 (h6.trans h7.symm)
                omega
            subst hm0
            have hlt : i < listed.size := by rw [I.inv.size]; simp; have := hn; omega
            rw [hci]
            simp [hlt]
          · rw [getD_set_ne false (fun e => hci e.symm), hjs m c hc]
            constructor
            · intro h; omega
            · intro h
              rcases Nat.lt_or_ge m j0 with h' | h'
              · exact h'
              · obtain rfl : m = j0 := by omega
                rw [hg0] at hc
                cases hc
                exact absurd hti hci
        · have e : (CH.map fun c => (a.put (some t.d) v).tmps.getD c.d undef) = CH.map fun e => if e.d = t.d then (if t.s = [] then v else undef) else a.tmps.getD e.d undef := by
            apply List.map_congr_left
            intro c _
            rw [put_get, I.size]
            by_cases hk : t.d = c.d
            · by_cases hs0 : t.s = []
              · rw [if_pos ⟨hk, hch t h hs0⟩, if_pos hk.symm, if_pos hs0]
              · have h2 := hch2 t h hs0
                rw [if_neg (fun hh => by omega), if_pos hk.symm, if_neg hs0]
                have h1 := I.size
                have hk : ¬ c.d < a.tmps.size := by omega
                simp [Array.getD, hk]
            · rw [if_neg (fun h => hk h.1), if_neg (fun h => hk h.symm)]
          rw [e]
          exact hG'
      · refine fin _ (fun e a' w' h => h.1) ?_ (hopL.mem t h oi ho a w hframe hfacts ⟨j, ?_, hj, hG⟩)
        rotate_left
        · intro m c hc hw
          obtain ⟨oj, hoj, e, he, hb, hon⟩ := Region.waitsFor_spec hw
          have : oj = oi := by rw [hti] at hoj; exact Option.some.inj (hoj.symm.trans hoi)
          subst this
          have h3 := hafter e he hb
          rw [hon] at h3
          exact (hjs m c hc).1 h3
        rintro a' w' ⟨_, v, rfl, hbl, hp⟩
        refine step0 v _ (hR _ _ hbl) ⟨j, hj, ?_, ?_⟩ (fun _ => hp)
        · intro m c hc
          rw [getD_set_ne false (by rw [← hti]; exact (hdis2 t h c (List.mem_of_getElem? hc)).1)]
          exact hjs m c hc
        · have e : (CH.map fun c => (a.put (some t.d) v).tmps.getD c.d undef) = CH.map fun c => a.tmps.getD c.d undef := by
            apply List.map_congr_left
            intro c hc
            rw [put_get, if_neg (fun hh => (hdis2 t h c hc).2 hh.1)]
          rw [e]
          exact hGm _ _ _ _ hbl hG
  refine wp_region_any hm ?_
  have inv0 : HeadInv .any l.toArray n (Array.replicate l.toArray.size false) :=
    ⟨by simp, fun j oj _ hl => (by rw [getD_replicate_false] at hl; cases hl), fun t _ ht => getD_in (by simpa using ht) (getD_replicate_false _ _)⟩
  have I0 : ChInv l n CH TL T a0 G (Array.replicate l.toArray.size false) a0 { w0 with drawn := w0.drawn + 1 } :=
    ⟨inv0, rfl, rfl, fun _ _ => rfl, ⟨0, Nat.zero_le _, fun m c _ => (by rw [getD_replicate_false]; simp), hG0⟩, fun t _ hl => (by rw [getD_replicate_false] at hl; cases hl)⟩
  have ht0 : todo (Array.replicate l.toArray.size false) n = n := by
    unfold todo
    rw [List.filter_eq_self.2 (fun j hj => by
      have hj' := List.mem_range.1 hj
      have : (Array.replicate l.toArray.size false).getD j true = false := getD_in (by simp; omega) (getD_replicate_false _ _)
      rw [this]; rfl), List.length_range]
  have := key n _ _ _ I0 ht0
  rwa [show n + (l.length - n) = l.toArray.size by simp; omega] at this
end
end Go.Dx
end

/- the text B30 -/
section
/- Chapter 06: the law's example. -/
namespace Go.Dx
open Go.RowKit
/-- the world ahead of the append, and behind it -/
def GEx (wr wo : World) (TT TR U : TypeId) (g1 g0 : Nat) (VC Z : List Value) (n : Nat) (ps : List RH) (ru : Ru) : Nat → List Value → World → Prop
  | 0, _, w => Below wr.heap.size wr w
  | _ + 1, vs, w => (∃ a' c', vs = [.slice a' n c'] ∧ ∃ b, ORu w TR U wo.heap.size a' c' (ps ++ [(ru, (some ⟨b, 0, none⟩, 1, 1))])) ∧ Box w g1 TT VC ∧ Box w g0 TT Z ∧ wo.grownBy w (some g1) ∧ wr.heap.size ≤ w.heap.size
section
variable {wr wo w w' : World} {TT TR U : TypeId} {g1 g0 : Nat} {VC Z : List Value} {n : Nat} {ps : List RH} {ru : Ru}
theorem GEx.mono : ∀ (j : Nat) (vs : List Value) (w w' : World), Below w.heap.size w w' → GEx wr wo TT TR U g1 g0 VC Z n ps ru j vs w → GEx wr wo TT TR U g1 g0 VC Z n ps ru j vs w'
  | 0, _, w, w', hb, h => Below.trans h (hb.mono (Below.size h))
  | _ + 1, vs, w, w', hb, ⟨⟨a', c', h1, b, h2⟩, h3, h4, h5, h6⟩ => ⟨⟨a', c', h1, b, h2.below hb⟩, h3.under hb, h4.under hb, grown_below h5 (hb.mono h5.size), Nat.le_trans h6 hb.size⟩
theorem GEx.box {j : Nat} {vs : List Value} (h : GEx wr wo TT TR U g1 g0 VC Z n ps ru j vs w) (hB : Box wr g1 TT VC) : Box w g1 TT VC := by
  cases j with
  | zero => exact hB.under h
  | succ j => exact h.2.1
theorem GEx.size {j : Nat} {vs : List Value} (h : GEx wr wo TT TR U g1 g0 VC Z n ps ru j vs w) : wr.heap.size ≤ w.heap.size := by
  cases j with
  | zero => exact Below.size h
  | succ j => exact h.2.2.2.2
end
end Go.Dx
namespace Go.Proofs.Ytlpkicjijlcbfaa
open Go.RowKit Go.Dx
theorem size_rules : (Try.prog.info? 23).map (·.size) = some 1 := by kernel_rfl
theorem agg_tables : IsAgg Try.prog 29 := .inr ⟨_, Try.underlying29⟩
theorem size_tables : (Try.prog.info? 29).map (·.size) = some 7 := by kernel_rfl
theorem size7 (v0 v1 v2 v3 v4 v5 v6 : Value) : (Try.prog.info? 29).map (·.size) = some ([v0, v1, v2, v3, v4, v5, v6] : List Value).length := size_tables
section
variable {w : World} {ops : Array Oper} {rest : List Oper} {o : Oper} {act : Act} {Q : Exit → Act → World → Prop}
/-- 'append(l, more...)' -/
theorem app_rus (hg : o.guard = none) (s x : Operand) (hop : o.op = Op.call { callee := Callee.builtin Builtin.append, args := #[s, x], argTypes := #[23, 23] })
    (w0 : World) (B : Nat) (a : Option Addr) (c : Nat) (ps qs : List RH) (hs : act.eval s = .slice a ps.length c) (hown : ORu w 84 5 B a c ps)
    (hq : ∀ p ∈ qs, Own w 0 5 1 p.2.1 p.2.2.1 p.2.2.2 (p.1.cells.map B8) ∧ p.1.text.size ≤ 1000) (a2 : Option Addr) (c2 : Nat) (hx : act.eval x = .slice a2 qs.length c2) (hy : Sl w 3 a2 qs.length c2 (qs.flatMap rc))
    (hn : ps.length ≤ 1000000) (hn2 : qs.length ≤ 1000000) (hB : B ≤ w.heap.size) (hbel : Below B w0 w)
    (hK : ∀ a' c' w', ORu w' 84 5 B a' c' (ps ++ qs) → Below B w0 w' → w.grownBy w' (a.map (·.block)) → wpList Try.prog ops Q rest (act.put o.dst (.slice a' (ps.length + qs.length) c')) w') :
    wpList Try.prog ops Q (o :: rest) act w := by
  refine append_own hg s x 23 hop 84 zeroRule 3 48 Try.underlying23 info_rule rfl w0 B a _ c _ hs hown.top a2 qs.length c2 (qs.flatMap rc) hx hy (one_flat rc_one qs) (by omega) (by unfold maxLen; omega) hB hbel ?_
  intro a' c' w' ho hgr hb
  refine hK a' c' w' ⟨by rw [List.length_append, List.flatMap_append]; exact ho, ?_⟩ hb hgr
  intro p hp
  have key : ∀ {q : RH}, Own w 0 5 1 q.2.1 q.2.2.1 q.2.2.2 (q.1.cells.map B8) → Own w' 0 5 1 q.2.1 q.2.2.1 q.2.2.2 (q.1.cells.map B8) := fun {q} h => h.kept hgr (fun r hr => by
    rw [hr] at h; exact far_map h hown.top (by decide))
  rcases List.mem_append.1 hp with hp | hp
  · exact ⟨key (hown.row p hp).1, (hown.row p hp).2⟩
  · exact ⟨key (hq p hp).1, (hq p hp).2⟩
end
/-- rules that a call owns, in a value -/
def RO (w : World) (B : Nat) (v : Value) (L : List Ru) : Prop := ∃ a c ps, v = .slice a ps.length c ∧ ORu w 84 5 B a c ps ∧ rus ps = L
theorem RO.kept {w w' : World} {B : Nat} {v : Value} {L : List Ru} {g : Nat} {us : List Value} (h : RO w B v L) (hg : w.grownBy w' (some g)) (hx : Box w g 29 us) : RO w' B v L := by
  obtain ⟨a, c, ps, h1, h2, h3⟩ := h
  exact ⟨a, c, ps, h1, h2.kept hg hx (by decide) (by decide), h3⟩
theorem RO.below {w w' : World} {B : Nat} {v : Value} {L : List Ru} (h : RO w B v L) (hb : Below w.heap.size w w') : RO w' B v L := by
  obtain ⟨a, c, ps, h1, h2, h3⟩ := h
  exact ⟨a, c, ps, h1, h2.below hb, h3⟩
def blk : Value → Option Nat
  | .slice a _ _ => a.map (·.block)
  | _ => none
def apt (v0 v1 : Value) : Prop := ∀ b, blk v0 = some b → blk v1 ≠ some b
theorem apt_of {w w' : World} {B : Nat} {v : Value} {L : List Ru} (h : RO w B v L) {e : TypeId} {sz n c : Nat} {a : Option Addr} {cs : List Value} (h' : Own w' w.heap.size e sz a n c cs) : apt v (.slice a n c) := by
  obtain ⟨a0, c0, ps, rfl, ho, _⟩ := h
  intro b hb hb2
  have ht := ho.top
  cases a0 with
  | none => cases hb
  | some p =>
    cases a with
    | none => cases hb2
    | some q =>
      have h1 := ht.base.2
      have h2 := h'.base.1
      have e1 : p.block = b := by simpa [blk] using hb
      have e2 : q.block = b := by simpa [blk] using hb2
      omega
theorem RO.far {w w' : World} {B B' : Nat} {v : Value} {L : List Ru} {a : Option Addr} {n c sz : Nat} {cs : List Value} (h : RO w B v L) (hA : Own w B' 84 sz a n c cs) (hg : w.grownBy w' (a.map (·.block))) (hne : ∀ b, a.map (·.block) = some b → blk v ≠ some b) : RO w' B v L := by
  obtain ⟨a0, c0, ps, rfl, ho, hl⟩ := h
  refine ⟨a0, c0, ps, rfl, ⟨ho.top.kept hg fun q hq => ?_, fun p hp => ⟨?_, (ho.row p hp).2⟩⟩, hl⟩
  · intro e
    exact hne q.block e.symm (by rw [hq]; rfl)
  · have h1 := (ho.row p hp).1
    refine h1.kept hg fun q hq => ?_
    rw [hq] at h1
    exact far_map h1 hA (by decide)
theorem box_map {w : World} {g B : Nat} {t e : TypeId} {us : List Value} {sz : Nat} {a : Option Addr} {n c : Nat} {cs : List Value} (h : Box w g t us) (h' : Own w B e sz a n c cs) (he : t ≠ e) : some g ≠ a.map (·.block) := by
  cases a with
  | none => simp
  | some q => have := box_far h h' he; simp; omega
/-- a row of bytes in a block of its own -/
def UB (w : World) (v : Value) (l : List UInt8) : Prop := ∃ a n c, v = .slice a n c ∧ Own w 0 5 1 a n c (l.map B8)
theorem UB.kept {w w' : World} {v : Value} {l : List UInt8} {g : Nat} {us : List Value} (h : UB w v l) (hg : w.grownBy w' (some g)) (hx : Box w g 29 us) : UB w' v l := by
  obtain ⟨a, n, c, h1, h2⟩ := h
  refine ⟨a, n, c, h1, h2.kept hg fun q hq => ?_⟩
  rw [hq] at h2
  have := box_far hx h2 (by decide)
  simpa using this
theorem UB.below {w w' : World} {v : Value} {l : List UInt8} (h : UB w v l) (hb : Below w.heap.size w w') : UB w' v l := by
  obtain ⟨a, n, c, h1, h2⟩ := h
  exact ⟨a, n, c, h1, h2.below hb⟩
theorem UB.new (w : World) (l : List UInt8) (n : Nat) (hn : l.length = n) (hm : n ≤ 100) : UB (w.alloc (.cells (l.map B8).toArray 5)) (.slice (some ⟨w.heap.size, 0, none⟩) n n) l := by
  refine ⟨_, _, _, rfl, ?_⟩
  have := Own.built w 0 5 1 n (l.map B8).toArray (Nat.zero_le _) (by simp [hn]) (by unfold maxLen; omega)
  simpa using this

end Go.Proofs.Ytlpkicjijlcbfaa
end

/- the text Build -/
section
/- A slice literal, as a law of the walk that hands on an unnamed world. No program in sight. -/
set_option linter.unusedVariables false
namespace Go.Dx
open Go.RowKit
section
variable {P : Program} {w : World} {ops : Array Oper} {rest : List Oper} {act : Act} {Q : Exit → Act → World → Prop} {ty : TypeId} {pos : String} {after : Array Edge}
end
end Go.Dx
end

/- the text B31 -/
section
/- Chapter 06: the section's examples hold. -/
namespace Go.Dx
open Go.RowKit
def FTx (l : List Sy) (vs : List Value) (w : World) : Prop := ∃ a n c, vs = [.slice a n c] ∧ Sl w 2 a n c (l.flatMap sc)
def FSt (L : List Stp) (vs : List Value) (w : World) : Prop := ∃ a n c ps, vs = [.slice a n c] ∧ Stl w a n c ps L
def FIn (l : List Int) (vs : List Value) (w : World) : Prop := ∃ a n c, vs = [.slice a n c] ∧ Sl w 1 a n c (l.map I64)
def FBy (l : List UInt8) (vs : List Value) (w : World) : Prop := ∃ a n c, vs = [.slice a n c] ∧ Sl w 1 a n c (l.map B8)
def FBB (l : List (List UInt8)) (vs : List Value) (w : World) : Prop := ∃ a n c hs, vs = [.slice a n c] ∧ BB w a n c hs l
theorem FTx.below {l : List Sy} {vs : List Value} {w w' : World} (h : FTx l vs w) (hb : Below w.heap.size w w') : FTx l vs w' := by obtain ⟨a, n, c, h1, h2⟩ := h; exact ⟨a, n, c, h1, h2.below hb⟩
theorem FSt.below {l : List Stp} {vs : List Value} {w w' : World} (h : FSt l vs w) (hb : Below w.heap.size w w') : FSt l vs w' := by obtain ⟨a, n, c, ps, h1, h2⟩ := h; exact ⟨a, n, c, ps, h1, h2.below hb⟩
theorem FIn.below {l : List Int} {vs : List Value} {w w' : World} (h : FIn l vs w) (hb : Below w.heap.size w w') : FIn l vs w' := by obtain ⟨a, n, c, h1, h2⟩ := h; exact ⟨a, n, c, h1, h2.below hb⟩
theorem FBy.below {l : List UInt8} {vs : List Value} {w w' : World} (h : FBy l vs w) (hb : Below w.heap.size w w') : FBy l vs w' := by obtain ⟨a, n, c, h1, h2⟩ := h; exact ⟨a, n, c, h1, h2.below hb⟩
theorem FBB.below {l : List (List UInt8)} {vs : List Value} {w w' : World} (h : FBB l vs w) (hb : Below w.heap.size w w') : FBB l vs w' := by obtain ⟨a, n, c, hs, h1, h2⟩ := h; exact ⟨a, n, c, hs, h1, h2.below hb⟩
def scells (s : St) : List Value := [.int .i64 s.lang, .bool s.num, .bool s.wrd]
end Go.Dx
namespace Go.Proofs.Ytlpkicjijlcbfaa
open Go.RowKit Go.Dx
theorem size_state : (Try.prog.info? 63).map (·.size) = some 3 := by kernel_rfl
theorem size_st3 (v0 v1 v2 : Value) : (Try.prog.info? 63).map (·.size) = some ([v0, v1, v2] : List Value).length := size_state
theorem steps_at (H : TH) (s : St) (l : List Sy) (i : Int) {L : List Stp} (hL : Hid (stepsL exTa s l i = L)) (a : Option Addr) (n c : Nat) (hll : l.length ≤ 1000000) (w : World) (hT : TaIs w H exTa) (hs : Sl w 2 a n c (l.flatMap sc)) :
    Calls Try.prog 28 #[H.v, sv s, .slice a n c, .int .i64 i] w (StepsR L w) := by
  have := tab_Steps H exTa s l a n c i hll w hT hs
  rw [hL.out] at this
  exact this
end Go.Proofs.Ytlpkicjijlcbfaa
end

/- the text B32 -/
section
/- Chapter 06: the tables that the reference makes. -/
namespace Go.Dx
open Go.RowKit
/-- the world ahead of the append, and behind it -/
def GAp (wr wo : World) (TR U : TypeId) (n : Nat) (ps : List RH) (ru : Ru) : Nat → List Value → World → Prop
  | 0, _, w => Below wr.heap.size wr w
  | _ + 1, vs, w => (∃ a' c', vs = [.slice a' n c'] ∧ ∃ h, ORu w TR U wo.heap.size a' c' (ps ++ [(ru, h)])) ∧ Below wo.heap.size wo w ∧ wr.heap.size ≤ w.heap.size
section
variable {wr wo w w' : World} {TR U : TypeId} {n : Nat} {ps : List RH} {ru : Ru}
theorem GAp.mono : ∀ (j : Nat) (vs : List Value) (w w' : World), Below w.heap.size w w' → GAp wr wo TR U n ps ru j vs w → GAp wr wo TR U n ps ru j vs w'
  | 0, _, w, w', hb, h => Below.trans h (hb.mono (Below.size h))
  | _ + 1, vs, w, w', hb, ⟨⟨a', c', h1, b, h2⟩, h3, h4⟩ => ⟨⟨a', c', h1, b, h2.below hb⟩, h3.trans (hb.mono h3.size), Nat.le_trans h4 hb.size⟩
theorem GAp.size {j : Nat} {vs : List Value} (h : GAp wr wo TR U n ps ru j vs w) : wr.heap.size ≤ w.heap.size := by
  cases j with
  | zero => exact Below.size h
  | succ j => exact h.2.2
end
theorem wrap_in (x : Int) : -9223372036854775808 ≤ wrap64 x ∧ wrap64 x ≤ 9223372036854775807 := by unfold wrap64; omega
theorem marks_at : ∀ (i : Nat) (c : UInt8), i < 6 → marks6[i]? = some c → chars ((⟨#[32, 46, 44, 63, 39, 45]⟩ : ByteArray).extract i (i + 1)) = [c] := by
  intro i c hi
  rcases i with _ | _ | _ | _ | _ | _ | i
  · intro h; cases h; decide
  · intro h; cases h; decide
  · intro h; cases h; decide
  · intro h; cases h; decide
  · intro h; cases h; decide
  · intro h; cases h; decide
  · omega
/-- the world ahead of the digits' append, and behind it -/
def GDg (wr w5 : World) (TT U : TypeId) (g1 : Nat) (us : List Value) (n : Nat) (ds : List UInt8) : Nat → List Value → World → Prop
  | 0, _, w => Below wr.heap.size wr w
  | _ + 1, vs, w => (∃ a' c', vs = [.slice a' n c'] ∧ Own w w5.heap.size U 1 a' n c' (ds.map B8)) ∧ Box w g1 TT us ∧ w5.grownBy w (some g1) ∧ wr.heap.size ≤ w.heap.size
section
variable {wr w5 w : World} {TT U : TypeId} {g1 : Nat} {us : List Value} {n : Nat} {ds : List UInt8}
theorem GDg.mono : ∀ (j : Nat) (vs : List Value) (w w' : World), Below w.heap.size w w' → GDg wr w5 TT U g1 us n ds j vs w → GDg wr w5 TT U g1 us n ds j vs w'
  | 0, _, w, w', hb, h => Below.trans h (hb.mono (Below.size h))
  | _ + 1, vs, w, w', hb, ⟨⟨a', c', h1, h2⟩, h3, h5, h6⟩ => ⟨⟨a', c', h1, h2.below hb⟩, h3.under hb, grown_below h5 (hb.mono h5.size), Nat.le_trans h6 hb.size⟩
theorem GDg.box {j : Nat} {vs : List Value} (h : GDg wr w5 TT U g1 us n ds j vs w) (hB : Box wr g1 TT us) : Box w g1 TT us := by
  cases j with
  | zero => exact hB.under h
  | succ j => exact h.2.1
theorem GDg.size {j : Nat} {vs : List Value} (h : GDg wr w5 TT U g1 us n ds j vs w) : wr.heap.size ≤ w.heap.size := by
  cases j with
  | zero => exact Below.size h
  | succ j => exact h.2.2.2
end
def texts12 : List ByteArray := [⟨#[116, 104]⟩, ⟨#[101, 114]⟩, ⟨#[116, 104, 101]⟩, ⟨#[105, 110, 103]⟩, ⟨#[97, 110, 100]⟩, ⟨#[97, 110]⟩, ⟨#[115, 116]⟩, ⟨#[105, 110]⟩, ⟨#[111, 117]⟩, ⟨#[116, 105, 111, 110]⟩, ⟨#[98, 101]⟩, ⟨#[98, 117, 116]⟩]
theorem texts12_ok : ∀ s ∈ texts12, (decide (1 ≤ s.size) && decide (s.size ≤ 8) && small s) = true := by decide
theorem contr_ok {s : ByteArray} (hs : s ∈ texts12) {wh : Int} (h0 : 0 ≤ wh) (h3 : wh ≤ 3) {cs : List UInt8} (hc : indic cs = true) : ruOk ⟨s, wh, cs⟩ = true := by
  have := texts12_ok s hs
  unfold ruOk
  simp only [Bool.and_eq_true, decide_eq_true_eq] at this ⊢
  simp [this.1.1, this.1.2, this.2, h0, h3, hc]
end Go.Dx
namespace Go.Proofs.Ytlpkicjijlcbfaa
open Go.RowKit Go.Dx
theorem size_tab : (Try.prog.info? 25).map (·.size) = some 1 := by kernel_rfl
theorem size_tab1 (v : Value) : (Try.prog.info? 25).map (·.size) = some ([v] : List Value).length := size_tab
theorem size_ru3 (v0 v1 v2 : Value) : (Try.prog.info? 84).map (·.size) = some ([v0, v1, v2] : List Value).length := size_rule
theorem around_ex (m : Nat) (x v : Int) (w : World) (hv : (m : Int) = v) (h0 : -9223372036854775808 ≤ x ∧ x ≤ 9223372036854775807) (hm : 1 ≤ m) (hm2 : m ≤ 1000000000) :
    Calls Try.prog 23 #[.int .i64 x, .int .i64 v] w fun e w' => ∃ r : Nat, r < m ∧ e = .returned (.int .i64 (r : Int)) ∧ w = w' := by
  obtain ⟨r, hr, h⟩ := around_any x v m w hv h0.1 h0.2 hm hm2
  exact (h w).mono (fun e w' ⟨h1, h2⟩ => ⟨r, hr, h1, h2⟩)
theorem cell_ex (n : Int) (h0 : -9223372036854775808 ≤ n) (h1 : n ≤ 9223372036854775807) (k : Nat) (x : Int) (hx : (k : Int) = x) (hk : k ≤ 100) (w : World) :
    Calls Try.prog 36 #[.int .i64 n, .int .i64 x] w fun e w' => ∃ v : UInt8, cellOk v = true ∧ e = .returned (.int .u8 (v.toNat : Int)) ∧ Below w.heap.size w w' := by
  subst hx
  obtain ⟨v, hv, h⟩ := ref_cell n h0 h1 k hk
  exact (h w).mono (fun e w' ⟨h1, h2⟩ => ⟨v, hv, h1, h2⟩)
/-- a rule in a variable of its own -/
def RB (wr w : World) (g : Nat) (s : ByteArray) (r : Int) : Prop := ∃ (cs : List UInt8) (a : Option Addr) (m c : Nat), indic cs = true ∧ Box w g 84 [.string s, .int .i64 r, .slice a m c] ∧ Own w 0 5 1 a m c (cs.map B8) ∧ Below wr.heap.size wr w
theorem RB.set {wr w w' : World} {g : Nat} {s : ByteArray} {r : Int} {a : Option Addr} {m c : Nat} {old : List Value} {cs : List UInt8} (hx : Box w g 84 old) (ho : Own w 0 5 1 a m c (cs.map B8)) (hc : indic cs = true)
    (hb : Below wr.heap.size wr w) (hg : wr.heap.size ≤ g) (hgr : w.grownBy w' (some g)) (hx' : Box w' g 84 [.string s, .int .i64 r, .slice a m c]) : RB wr w' g s r := by
  refine ⟨cs, a, m, c, hc, hx', ho.kept hgr fun q hq => ?_, hb.grown hgr hb.size (fun q hq => by cases hq; exact hg)⟩
  rw [hq] at ho
  have := box_far hx ho (by decide)
  simpa using this
/-- rules of a language that are as good_tables wants them -/
def RG (w : World) (B : Nat) (v : Value) : Prop := ∃ L L', Raw L ∧ OnceOf L L' ∧ RO w B v L'
theorem RG.below {w w' : World} {B : Nat} {v : Value} (h : RG w B v) (hb : Below w.heap.size w w') : RG w' B v := by
  obtain ⟨L, L', h1, h2, h3⟩ := h
  exact ⟨L, L', h1, h2, h3.below hb⟩
theorem RG.kept {w w' : World} {B : Nat} {v : Value} {g : Nat} {us : List Value} (h : RG w B v) (hg : w.grownBy w' (some g)) (hx : Box w g 29 us) : RG w' B v := by
  obtain ⟨L, L', h1, h2, h3⟩ := h
  exact ⟨L, L', h1, h2, h3.kept hg hx⟩
theorem UB.nil (w : World) : UB w (.slice none 0 0) [] := ⟨none, 0, 0, rfl, Own.nil _ _ _ _⟩
/-- the tables in the making: two languages, five rows of bytes -/
structure TW (w0 w : World) (B g1 g0 : Nat) (v0 v1 : Value) (vs : List Value) (ls : List (List UInt8)) : Prop where
  box : Box w g1 29 (v0 :: v1 :: vs)
  out : Box w g0 29 [.slice none 0 0, .slice none 0 0, .slice none 0 0, .slice none 0 0, .slice none 0 0, .slice none 0 0, .slice none 0 0]
  l0 : RG w B v0
  l1 : RG w B v1
  len : vs.length = 5
  row : ∀ (j : Nat) (v : Value) (l : List UInt8), vs[j]? = some v → ls[j]? = some l → UB w v l
  bel : Below B w0 w
theorem TW.below {w0 w w' : World} {B g1 g0 : Nat} {v0 v1 : Value} {vs : List Value} {ls : List (List UInt8)} (h : TW w0 w B g1 g0 v0 v1 vs ls) (hb : Below w.heap.size w w') (hB : B ≤ w0.heap.size) : TW w0 w' B g1 g0 v0 v1 vs ls :=
  ⟨h.box.under hb, h.out.under hb, h.l0.below hb, h.l1.below hb, h.len, fun j v l h1 h2 => (h.row j v l h1 h2).below hb, h.bel.trans (hb.mono (Nat.le_trans hB h.bel.size))⟩
theorem TW.store {w0 w w' : World} {B g1 g0 : Nat} {v0 v1 : Value} {vs : List Value} {ls : List (List UInt8)} (h : TW w0 w B g1 g0 v0 v1 vs ls) {j : Nat} {u : Value} {l : List UInt8} (hg : w.grownBy w' (some g1)) (hx : Box w' g1 29 (v0 :: v1 :: vs.set j u)) (hu : UB w u l) (hB : B ≤ g1) (hB0 : B ≤ w0.heap.size) (h01 : some g0 ≠ some g1) :
    TW w0 w' B g1 g0 v0 v1 (vs.set j u) (ls.set j l) := by
  refine ⟨hx, h.out.grown hg h01, h.l0.kept hg h.box, h.l1.kept hg h.box, by rw [List.length_set]; exact h.len, ?_, h.bel.grown hg (Nat.le_trans hB0 h.bel.size) (fun q hq => by cases hq; exact hB)⟩
  intro i v m h1 h2
  rw [List.getElem?_set] at h1 h2
  by_cases e : j = i
  · subst e
    rw [if_pos rfl] at h1 h2
    split at h1
    · split at h2
      · cases h1; cases h2; exact hu.kept hg h.box
      · cases h2
    · cases h1
  · rw [if_neg e] at h1 h2
    exact (h.row i v m h1 h2).kept hg h.box
theorem UB8 {w w' : World} {g B n c : Nat} {a : Option Addr} {us cs : List Value} (hx : Box w g 29 us) (h2 : Own w B 5 1 a n c cs) (hg : w.grownBy w' (some g)) : Own w' B 5 1 a n c cs := by
  refine h2.kept hg fun q hq => ?_
  rw [hq] at h2
  have := box_far hx h2 (by decide)
  simpa using this

set_option maxRecDepth 100000 in
set_option maxHeartbeats 8000000 in
theorem ref_Tables (n : Int) (hn0 : -9223372036854775808 ≤ n) (hn1 : n ≤ 9223372036854775807) (w : World) : Calls Try.prog 9 #[.int .i64 n] w fun e w' => ∃ H t, e = .returned (TH.v H) ∧ TaIs w' H t ∧ GoodTa t ∧ Below w.heap.size w w' := by
  have X0 := (Box.new w 29 #[.slice none 0 0, .slice none 0 0, .slice none 0 0, .slice none 0 0, .slice none 0 0, .slice none 0 0, .slice none 0 0]).alloc (.cells #[.slice none 0 0, .slice none 0 0, .slice none 0 0, .slice none 0 0, .slice none 0 0, .slice none 0 0, .slice none 0 0] 29)
  have X1 := Box.new (w.alloc (.cells #[.slice none 0 0, .slice none 0 0, .slice none 0 0, .slice none 0 0, .slice none 0 0, .slice none 0 0, .slice none 0 0] 29)) 29 #[.slice none 0 0, .slice none 0 0, .slice none 0 0, .slice none 0 0, .slice none 0 0, .slice none 0 0, .slice none 0 0]
  rw [show (w.alloc (.cells #[.slice none 0 0, .slice none 0 0, .slice none 0 0, .slice none 0 0, .slice none 0 0, .slice none 0 0, .slice none 0 0] 29)).heap.size = w.heap.size + 1 by simp] at X1
  have hb0 : Below w.heap.size w ((w.alloc (.cells #[.slice none 0 0, .slice none 0 0, .slice none 0 0, .slice none 0 0, .slice none 0 0, .slice none 0 0, .slice none 0 0] 29)).alloc (.cells #[.slice none 0 0, .slice none 0 0, .slice none 0 0, .slice none 0 0, .slice none 0 0, .slice none 0 0, .slice none 0 0] 29)) := (blo w _).trans ((blo _ _).mono (by simp))
  obtain ⟨g1, hg1⟩ : ∃ g1, g1 = w.heap.size + 1 := ⟨_, rfl⟩
  have hg1w : w.heap.size ≤ g1 := by omega
  have hg01 : some w.heap.size ≠ some g1 := by simp; omega
  go_enter Try.func9, Try.ntmps9
  go_wp2_with fail
  rw [← hg1] at X1 ⊢
  clear hg1
  generalize (w.alloc (.cells _ 29)).alloc (.cells _ 29) = w2 at *
  go_loopg [4] 2 (fun gh v w' => ∃ (k : Nat) (v0 v1 : Value), k ≤ 2 ∧ gh = 2 - k ∧ v = .int .i64 (k : Int) ∧ Box w' g1 29 [v0, v1, .slice none 0 0, .slice none 0 0, .slice none 0 0, .slice none 0 0, .slice none 0 0] ∧ Box w' w.heap.size 29 [.slice none 0 0, .slice none 0 0, .slice none 0 0, .slice none 0 0, .slice none 0 0, .slice none 0 0, .slice none 0 0] ∧ (1 ≤ k → RG w' w.heap.size v0) ∧ (2 ≤ k → RG w' w.heap.size v1) ∧ Below w.heap.size w w')
  case atStart => exact ⟨0, _, _, by omega, by omega, rfl, X1, X0, fun h => by omega, fun h => by omega, hb0⟩
  case round =>
    clear X0 X1 hb0
    obtain ⟨k, v0, v1, hk, hg, rfl, hX1, hX0, hr0, hr1, hb⟩ := hrel
    have HG := hide hg
    clear hg
    by_cases hkl : k < 2
    · obtain ⟨wo, rfl⟩ : ∃ wo : World, wo = wr := ⟨_, rfl⟩
      have d0 : decide (k < 2) = true := decide_eq_true hkl
      have d0' : decide ((k : Int) < 2) = true := decide_eq_true (by omega)
      go_wp2_with fail
      go_loopg [5, 6] 26 (fun gh l v w' => ∃ (i : Nat) (ps : List RH) (a : Option Addr) (c : Nat), i ≤ 26 ∧ gh = 26 - i ∧ l = .slice a ps.length c ∧ v = .int .i64 (i : Int) ∧ Hid (Raw1 (rus ps) i) ∧ ORu w' 84 5 wo.heap.size a c ps ∧ Below wo.heap.size wo w')
      case atStart => exact ⟨0, [], none, 0, by omega, by omega, rfl, rfl, hide Raw1.zero, ORu.nil _ _ _ _, Below.refl _ _⟩
      case round =>
        obtain ⟨i, ps, a, c, hi, hgi, rfl, rfl, HRW, hOR, hbo⟩ := hrel
        have HGI := hide hgi
        have hple : ps.length ≤ 26 := by have := HRW.out.len; unfold rus at this; rw [List.length_map] at this; omega
        clear hgi
        by_cases hil : i < 26
        · obtain ⟨cu, hcu⟩ : ∃ cu, cu = UInt8.ofNat (97 + i) := ⟨_, rfl⟩
          have HU97 : Hid (([.int .u8 (97 + (i : Int))] : List Value) = [cu].map B8) := hide (by
            have : (cu.toNat : Int) = 97 + (i : Int) := by rw [hcu, UInt8.toNat_ofNat']; omega
            show _ = [Value.int .u8 (cu.toNat : Int)]
            rw [this])
          obtain ⟨kk, hkk⟩ : ∃ kk : Nat, kk = (i + 3 * k) % 26 := ⟨_, rfl⟩
          have HKK : Hid (((i : Int) + 3 * (k : Int)) % 26 = (kk : Int)) := hide (by omega)
          have HKT : Hid (((i : Int) + 3 * (k : Int)).tmod 26 = (kk : Int)) := hide (by rw [Int.tmod_eq_emod_of_nonneg (by omega)]; exact HKK.out)
          obtain ⟨cv, hcv, hcal⟩ := ref_cell n hn0 hn1 kk (by omega)
          have HCV := hide hcal
          have HST : Hid (∀ h, Hid (Raw1 (rus (ps ++ [((⟨⟨#[cu]⟩, 0, [cv]⟩ : Ru), h)])) (i + 1))) := hide (fun h => hide (by
            have := HRW.out.step hil (s := ⟨#[cu]⟩) (by rw [hcu]; rfl) hcv
            unfold rus at this ⊢
            simpa using this))
          clear hcu hkk hcal hcv
          have HNE : Hid (∀ b, wr.heap.size ≤ b → some b ≠ a.map (·.block)) := hide (fun b hb => own_map hOR.top hb)
          go_wp2_with fail
          refine wp_region_chain4 17 (fun w w' => w.grownBy w' (a.map (·.block))) (GAp wr wo 84 5 (ps.length + 1) ps (⟨⟨#[cu]⟩, 0, [cv]⟩ : Ru)) [⟨16, 39, [], fun _ _ => True⟩] [⟨0, 23, [23], fun vs _ => vs = [.slice a ps.length c]⟩, ⟨1, 24, [24], fun vs _ => vs = [.int .i64 (i : Int)]⟩, ⟨2, 25, [25], fun vs _ => vs = [.int .i64 (97 + (i : Int))]⟩, ⟨3, 26, [26], fun vs _ => vs = [.int .u8 (97 + (i : Int))]⟩, ⟨4, 27, [27], fun vs w' => ∃ b, vs = [.slice (some ⟨b, 0, none⟩) 1 1] ∧ wr.heap.size ≤ b ∧ Own w' 0 5 1 (some ⟨b, 0, none⟩) 1 1 [.int .u8 (97 + (i : Int))]⟩, ⟨5, 28, [28], fun vs _ => vs = [.string ⟨#[cu]⟩]⟩, ⟨6, 29, [29], fun vs _ => vs = [.int .i64 n]⟩, ⟨7, 30, [30], fun vs _ => vs = [.int .i64 (i : Int)]⟩, ⟨8, 31, [31], fun vs _ => vs = [.int .i64 (k : Int)]⟩, ⟨9, 32, [32], fun vs _ => vs = [.int .i64 (3 * (k : Int))]⟩, ⟨10, 33, [33], fun vs _ => vs = [.int .i64 ((i : Int) + 3 * (k : Int))]⟩, ⟨11, 34, [34], fun vs _ => vs = [.int .i64 (kk : Int)]⟩, ⟨12, 35, [35], fun vs _ => vs = [.int .u8 (cv.toNat : Int)]⟩, ⟨13, 36, [36], fun vs w' => ∃ b, vs = [.slice (some ⟨b, 0, none⟩) 1 1] ∧ wr.heap.size ≤ b ∧ Own w' 0 5 1 (some ⟨b, 0, none⟩) 1 1 ([cv].map B8)⟩, ⟨14, 37, [37], fun vs w' => ∃ b, vs = [.agg #[.string (⟨⟨#[cu]⟩, 0, [cv]⟩ : Ru).text, .int .i64 0, .slice (some ⟨b, 0, none⟩) 1 1]] ∧ wr.heap.size ≤ b ∧ Own w' 0 5 1 (some ⟨b, 0, none⟩) 1 1 ([cv].map B8)⟩, ⟨15, 38, [38], fun vs w' => ∃ b2, vs = [.slice (some ⟨b2, 0, none⟩) 1 1] ∧ wr.heap.size ≤ b2 ∧ ∃ b, wr.heap.size ≤ b ∧ Sl w' 3 (some ⟨b2, 0, none⟩) 1 1 (rc ((⟨⟨#[cu]⟩, 0, [cv]⟩ : Ru), (some ⟨b, 0, none⟩, 1, 1))) ∧ Own w' 0 5 1 (some ⟨b, 0, none⟩) 1 1 ([cv].map B8)⟩] (by kernel_rfl) (by kernel_rfl) ?_ (fun _ _ h => grown_of_below h _) GAp.mono ?_ ?_ ?_ ?_
          · exact (Still.below 1 : Below wr.heap.size wr (wr.drewN 1))
          · simp only [All]
            refine ⟨(fun _ _ _ _ h => h), (fun _ _ _ _ h => h), (fun _ _ _ _ h => h), (fun _ _ _ _ h => h), (fun vs w1 w2 hr ⟨b, h1, h0, h2⟩ => ⟨b, h1, h0, h2.kept hr (fun q hq => by cases hq; exact HNE.out b h0)⟩), (fun _ _ _ _ h => h), (fun _ _ _ _ h => h), (fun _ _ _ _ h => h), (fun _ _ _ _ h => h), (fun _ _ _ _ h => h), (fun _ _ _ _ h => h), (fun _ _ _ _ h => h), (fun _ _ _ _ h => h), (fun vs w1 w2 hr ⟨b, h1, h0, h2⟩ => ⟨b, h1, h0, h2.kept hr (fun q hq => by cases hq; exact HNE.out b h0)⟩), (fun vs w1 w2 hr ⟨b, h1, h0, h2⟩ => ⟨b, h1, h0, h2.kept hr (fun q hq => by cases hq; exact HNE.out b h0)⟩), (fun vs w1 w2 hr ⟨b2, h1, h2, b, h0, h3, h4⟩ => ⟨b2, h1, h2, b, h0, h3.grown hr (fun q hq => by cases hq; exact HNE.out b2 h2), h4.kept hr (fun q hq => by cases hq; exact HNE.out b h0)⟩), trivial⟩
          · intro m c hc o ho a' w' hG hfr hdep
            rcases m with _ | m
            · cases hc
              obtain rfl := Option.some.inj ho
              have hb : Below wr.heap.size wr w' := hG
              have g23 : a'.tmps[23]?.getD undef = .slice a ps.length c := by have h := hdep 0 _ rfl (by kernel_rfl); simpa using h
              obtain ⟨b2, g38, hb2, b8, _, hs2, ho8⟩ := hdep 15 _ rfl (by kernel_rfl)
              simp at g38
              clear hfr hdep hG
              have hOw := hOR.below hb
              have hbo2 := hbo.trans (hb.mono hbo.size)
              refine app_ru2 rfl _ _ rfl wo wo.heap.size a c ps (by show a'.tmps.getD 23 undef = _; simpa using g23) hOw ((⟨⟨#[cu]⟩, 0, [cv]⟩ : Ru), (some ⟨b8, 0, none⟩, 1, 1)) ho8 (by show (1 : Nat) ≤ 1000; decide) (some ⟨b2, 0, none⟩) 1 (by show a'.tmps.getD 38 undef = _; simpa using g38) hs2 (by omega) hbo2.size hbo2 ?_
              intro a3 c3 w7 ho7 hb7 hgr7
              go_wp2
              exact ⟨rfl, _, rfl, hgr7, ⟨a3, c3, rfl, _, ho7⟩, hb7, Nat.le_trans hb.size hgr7.size⟩
            · cases hc
          · simp only [All]
            refine ⟨?_, ?_, ?_, ?_, ?_, ?_, ?_, ?_, ?_, ?_, ?_, ?_, ?_, ?_, ?_, ?_, trivial⟩
            · intro o ho a' w' hfr hdep hst
              obtain rfl := Option.some.inj ho
              have g5 : a'.tmps[5]?.getD undef = .slice a ps.length c := by have h := hfr 5 (by kernel_rfl); simpa using h
              clear ho hfr hdep hst
              go_wp2_with fail
              exact ⟨rfl, _, rfl, Below.refl _ _, rfl⟩
            · intro o ho a' w' hfr hdep hst
              obtain rfl := Option.some.inj ho
              have g6 : a'.tmps[6]?.getD undef = .int .i64 (i : Int) := by have h := hfr 6 (by kernel_rfl); simpa using h
              clear ho hfr hdep hst
              go_wp2_with fail
              exact ⟨rfl, _, rfl, Below.refl _ _, rfl⟩
            · intro o ho a' w' hfr hdep hst
              obtain rfl := Option.some.inj ho
              have g24 : a'.tmps[24]?.getD undef = .int .i64 (i : Int) := by have h := hdep 1 _ rfl (by kernel_rfl); simpa using h
              clear ho hfr hdep hst
              go_wp2_with fail
              exact ⟨rfl, _, rfl, Below.refl _ _, rfl⟩
            · intro o ho a' w' hfr hdep hst
              obtain rfl := Option.some.inj ho
              have g25 : a'.tmps[25]?.getD undef = .int .i64 (97 + (i : Int)) := by have h := hdep 2 _ rfl (by kernel_rfl); simpa using h
              clear ho hfr hdep hst
              go_wp2_with fail
              exact ⟨rfl, _, rfl, Below.refl _ _, rfl⟩
            · intro o ho a' w' hfr hdep hst
              obtain rfl := Option.some.inj ho
              have g26 : a'.tmps[26]?.getD undef = .int .u8 (97 + (i : Int)) := by have h := hdep 3 _ rfl (by kernel_rfl); simpa using h
              obtain ⟨j, _, _, hG⟩ := hst
              clear ho hfr hdep
              have hsz := hG.size
              clear hG
              go_wp2_with fail
              exact ⟨rfl, _, rfl, blo _ _, _, rfl, hsz, Own.built w' 0 5 1 1 #[.int .u8 (97 + (i : Int))] (Nat.zero_le _) rfl (by decide)⟩
            · intro o ho a' w' hfr hdep hst
              obtain rfl := Option.some.inj ho
              obtain ⟨b8, g27, hb8, ho8⟩ := hdep 4 _ rfl (by kernel_rfl)
              simp at g27
              clear ho hfr hdep hst
              have hs8 := ho8.sl
              rw [HU97.out] at hs8
              refine to_str 28 _ (some ⟨b8, 0, none⟩) 1 1 [cu] (by show a'.tmps.getD 27 undef = _; simpa using g27) hs8 ?_
              go_wp2_with fail
              exact ⟨rfl, _, rfl, Below.refl _ _, rfl⟩
            · intro o ho a' w' hfr hdep hst
              obtain rfl := Option.some.inj ho
              have g0 : a'.tmps[0]?.getD undef = .int .i64 n := by have h := hfr 0 (by kernel_rfl); simpa using h
              clear ho hfr hdep hst
              go_wp2_with fail
              exact ⟨rfl, _, rfl, Below.refl _ _, rfl⟩
            · intro o ho a' w' hfr hdep hst
              obtain rfl := Option.some.inj ho
              have g6 : a'.tmps[6]?.getD undef = .int .i64 (i : Int) := by have h := hfr 6 (by kernel_rfl); simpa using h
              clear ho hfr hdep hst
              go_wp2_with fail
              exact ⟨rfl, _, rfl, Below.refl _ _, rfl⟩
            · intro o ho a' w' hfr hdep hst
              obtain rfl := Option.some.inj ho
              have g4 : a'.tmps[4]?.getD undef = .int .i64 (k : Int) := by have h := hfr 4 (by kernel_rfl); simpa using h
              clear ho hfr hdep hst
              go_wp2_with fail
              exact ⟨rfl, _, rfl, Below.refl _ _, rfl⟩
            · intro o ho a' w' hfr hdep hst
              obtain rfl := Option.some.inj ho
              have g31 : a'.tmps[31]?.getD undef = .int .i64 (k : Int) := by have h := hdep 8 _ rfl (by kernel_rfl); simpa using h
              clear ho hfr hdep hst
              go_wp2_with fail
              exact ⟨rfl, _, rfl, Below.refl _ _, rfl⟩
            · intro o ho a' w' hfr hdep hst
              obtain rfl := Option.some.inj ho
              have g30 : a'.tmps[30]?.getD undef = .int .i64 (i : Int) := by have h := hdep 7 _ rfl (by kernel_rfl); simpa using h
              have g32 : a'.tmps[32]?.getD undef = .int .i64 (3 * (k : Int)) := by have h := hdep 9 _ rfl (by kernel_rfl); simpa using h
              clear ho hfr hdep hst
              go_wp2_with fail
              exact ⟨rfl, _, rfl, Below.refl _ _, rfl⟩
            · intro o ho a' w' hfr hdep hst
              obtain rfl := Option.some.inj ho
              have g33 : a'.tmps[33]?.getD undef = .int .i64 ((i : Int) + 3 * (k : Int)) := by have h := hdep 10 _ rfl (by kernel_rfl); simpa using h
              clear ho hfr hdep hst
              have hkk := HKK.out
              have hkt := HKT.out
              go_wp2_with fail
              exact ⟨rfl, _, rfl, Below.refl _ _, rfl⟩
            · intro o ho a' w' hfr hdep hst
              obtain rfl := Option.some.inj ho
              have g29 : a'.tmps[29]?.getD undef = .int .i64 n := by have h := hdep 6 _ rfl (by kernel_rfl); simpa using h
              have g34 : a'.tmps[34]?.getD undef = .int .i64 (kk : Int) := by have h := hdep 11 _ rfl (by kernel_rfl); simpa using h
              clear ho hfr hdep hst
              go_wp2_with fail
              refine (HCV.out _).mono ?_
              rintro e w2 ⟨rfl, hb2⟩
              go_wp2_with fail
              exact ⟨rfl, _, rfl, hb2, rfl⟩
            · intro o ho a' w' hfr hdep hst
              obtain rfl := Option.some.inj ho
              have g35 : a'.tmps[35]?.getD undef = .int .u8 (cv.toNat : Int) := by have h := hdep 12 _ rfl (by kernel_rfl); simpa using h
              obtain ⟨j, _, _, hG⟩ := hst
              clear ho hfr hdep
              have hsz := hG.size
              clear hG
              go_wp2_with fail
              exact ⟨rfl, _, rfl, blo _ _, _, rfl, hsz, Own.built w' 0 5 1 1 #[.int .u8 (cv.toNat : Int)] (Nat.zero_le _) rfl (by decide)⟩
            · intro o ho a' w' hfr hdep hst
              obtain rfl := Option.some.inj ho
              have g28 : a'.tmps[28]?.getD undef = .string ⟨#[cu]⟩ := by have h := hdep 5 _ rfl (by kernel_rfl); simpa using h
              obtain ⟨b8, g36, hb8, ho8⟩ := hdep 13 _ rfl (by kernel_rfl)
              simp at g36
              clear ho hfr hdep hst
              go_wp2_with fail
              exact ⟨rfl, _, rfl, Below.refl _ _, b8, rfl, hb8, ho8⟩
            · intro o ho a' w' hfr hdep hst
              obtain rfl := Option.some.inj ho
              obtain ⟨b8, g37, hb8, ho8⟩ := hdep 14 _ rfl (by kernel_rfl)
              simp at g37
              obtain ⟨j, _, _, hG⟩ := hst
              clear ho hfr hdep
              have hsz := hG.size
              clear hG
              go_wp2_with fail
              exact ⟨rfl, _, rfl, blo _ _, _, rfl, hsz, b8, hb8, Sl.fresh _ _ 3 1 (rc ((⟨⟨#[cu]⟩, 0, [cv]⟩ : Ru), (some ⟨b8, 0, none⟩, 1, 1))) rfl (by decide), ho8.alloc _⟩
          · intro g w7 hG hp
            obtain ⟨⟨a7, c7, p39, h7, ho7⟩, hB7, _⟩ := hG
            clear hp
            simp at p39
            simp only [List.drop_succ_cons, List.drop_zero, List.map_cons, List.map_nil, putAll, Act.put, List.setIfInBounds_toArray, List.set_cons_succ, List.set_cons_zero, List.cons_append, List.nil_append, p39]
            clear p39
            go_wp2_with fail
            go_roundg (26 - (i + 1))
            case measure => have := HGI.out; omega
            case rel => exact ⟨i + 1, ps ++ [((⟨⟨#[cu]⟩, 0, [cv]⟩ : Ru), h7)], a7, c7, by omega, rfl, by rw [List.length_append]; rfl, by go_num, HST.out h7, ho7, hB7⟩
        · obtain rfl : i = 26 := by omega
          have HR2 := hide (Raw2.zero HRW.out)
          go_wp2_with fail
          go_loopg [5, 8] 6 (fun gh l v w' => ∃ (i : Nat) (ps : List RH) (a : Option Addr) (c : Nat), i ≤ 6 ∧ gh = 6 - i ∧ l = .slice a ps.length c ∧ v = .int .i64 (i : Int) ∧ Hid (Raw2 (rus ps) i) ∧ ORu w' 84 5 wo.heap.size a c ps ∧ Below wo.heap.size wo w')
          case atStart => exact ⟨0, ps, a, c, by omega, by omega, rfl, rfl, HR2, hOR, hbo⟩
          case round =>
            clear hOR hbo HRW HGI hple HR2
            obtain ⟨i, ps, a, c, hi, hgi, rfl, rfl, HRW, hOR, hbo⟩ := hrel
            have HGI := hide hgi
            have hple : ps.length ≤ 32 := by have := HRW.out.len; unfold rus at this; rw [List.length_map] at this; omega
            clear hgi
            by_cases hil : i < 6
            · obtain ⟨cm, hcm⟩ : ∃ cm, marks6[i]? = some cm := ⟨_, List.getElem?_eq_getElem (show i < marks6.length from hil)⟩
              obtain ⟨sm, hsm⟩ : ∃ sm, sm = (⟨#[32, 46, 44, 63, 39, 45]⟩ : ByteArray).extract i (i + 1) := ⟨_, rfl⟩
              have hsc : chars sm = [cm] := by rw [hsm]; exact marks_at i cm hil hcm
              have HSZ : Hid (sm.size ≤ 1000) := hide (by rw [size_chars, hsc]; show (1 : Nat) ≤ 1000; decide)
              have HSL : Hid (∀ wx : World, (Instr.slice 9 (.string ⟨#[32, 46, 44, 63, 39, 45]⟩) (some (.int .i64 (i : Int))) (some (.int .i64 ((i : Int) + 1))) none).run Try.prog wx = .ok (.string sm) wx) := hide (fun wx => by
                rw [run_slice_string (P := Try.prog) (w := wx) 9 _ .i64 .i64 (i : Int) ((i : Int) + 1) Try.underlying9 (by omega) (by omega) (by show (i : Int) + 1 ≤ ((6 : Nat) : Int); omega), hsm]
                rfl)
              obtain ⟨cv, hcv, hcal⟩ := ref_cell n hn0 hn1 (26 + i) (by omega)
              rw [show (((26 + i : Nat)) : Int) = 26 + (i : Int) by omega] at hcal
              have HCV := hide hcal
              have HST : Hid (∀ h, Hid (Raw2 (rus (ps ++ [((⟨sm, 0, [cv]⟩ : Ru), h)])) (i + 1))) := hide (fun h => hide (by
                have := HRW.out.step hcm hsc hcv
                unfold rus at this ⊢
                simpa using this))
              clear hsm hcm hsc hcal hcv
              have HNE : Hid (∀ b, wr.heap.size ≤ b → some b ≠ a.map (·.block)) := hide (fun b hb => own_map hOR.top hb)
              go_wp2_with fail
              refine wp_region_chain4 14 (fun w w' => w.grownBy w' (a.map (·.block))) (GAp wr wo 84 5 (ps.length + 1) ps (⟨sm, 0, [cv]⟩ : Ru)) [⟨13, 59, [], fun _ _ => True⟩] [⟨0, 46, [46], fun vs _ => vs = [.slice a ps.length c]⟩, ⟨1, 47, [47], fun vs _ => vs = [.string ⟨#[32, 46, 44, 63, 39, 45]⟩]⟩, ⟨2, 48, [48], fun vs _ => vs = [.int .i64 (i : Int)]⟩, ⟨3, 49, [49], fun vs _ => vs = [.int .i64 (i : Int)]⟩, ⟨4, 50, [50], fun vs _ => vs = [.int .i64 ((i : Int) + 1)]⟩, ⟨5, 51, [51], fun vs _ => vs = [.string sm]⟩, ⟨6, 52, [52], fun vs _ => vs = [.int .i64 n]⟩, ⟨7, 53, [53], fun vs _ => vs = [.int .i64 (i : Int)]⟩, ⟨8, 54, [54], fun vs _ => vs = [.int .i64 (26 + (i : Int))]⟩, ⟨9, 55, [55], fun vs _ => vs = [.int .u8 (cv.toNat : Int)]⟩, ⟨10, 56, [56], fun vs w' => ∃ b, vs = [.slice (some ⟨b, 0, none⟩) 1 1] ∧ wr.heap.size ≤ b ∧ Own w' 0 5 1 (some ⟨b, 0, none⟩) 1 1 ([cv].map B8)⟩, ⟨11, 57, [57], fun vs w' => ∃ b, vs = [.agg #[.string (⟨sm, 0, [cv]⟩ : Ru).text, .int .i64 0, .slice (some ⟨b, 0, none⟩) 1 1]] ∧ wr.heap.size ≤ b ∧ Own w' 0 5 1 (some ⟨b, 0, none⟩) 1 1 ([cv].map B8)⟩, ⟨12, 58, [58], fun vs w' => ∃ b2, vs = [.slice (some ⟨b2, 0, none⟩) 1 1] ∧ wr.heap.size ≤ b2 ∧ ∃ b, wr.heap.size ≤ b ∧ Sl w' 3 (some ⟨b2, 0, none⟩) 1 1 (rc ((⟨sm, 0, [cv]⟩ : Ru), (some ⟨b, 0, none⟩, 1, 1))) ∧ Own w' 0 5 1 (some ⟨b, 0, none⟩) 1 1 ([cv].map B8)⟩] (by kernel_rfl) (by kernel_rfl) ?_ (fun _ _ h => grown_of_below h _) GAp.mono ?_ ?_ ?_ ?_
              · exact (Still.below 1 : Below wr.heap.size wr (wr.drewN 1))
              · simp only [All]
                refine ⟨(fun _ _ _ _ h => h), (fun _ _ _ _ h => h), (fun _ _ _ _ h => h), (fun _ _ _ _ h => h), (fun _ _ _ _ h => h), (fun _ _ _ _ h => h), (fun _ _ _ _ h => h), (fun _ _ _ _ h => h), (fun _ _ _ _ h => h), (fun _ _ _ _ h => h), (fun vs w1 w2 hr ⟨b, h1, h0, h2⟩ => ⟨b, h1, h0, h2.kept hr (fun q hq => by cases hq; exact HNE.out b h0)⟩), (fun vs w1 w2 hr ⟨b, h1, h0, h2⟩ => ⟨b, h1, h0, h2.kept hr (fun q hq => by cases hq; exact HNE.out b h0)⟩), (fun vs w1 w2 hr ⟨b2, h1, h2, b, h0, h3, h4⟩ => ⟨b2, h1, h2, b, h0, h3.grown hr (fun q hq => by cases hq; exact HNE.out b2 h2), h4.kept hr (fun q hq => by cases hq; exact HNE.out b h0)⟩), trivial⟩
              · intro m c hc o ho a' w' hG hfr hdep
                rcases m with _ | m
                · cases hc
                  obtain rfl := Option.some.inj ho
                  have hb : Below wr.heap.size wr w' := hG
                  have g46 : a'.tmps[46]?.getD undef = .slice a ps.length c := by have h := hdep 0 _ rfl (by kernel_rfl); simpa using h
                  obtain ⟨b2, g58, hb2, b8, _, hs2, ho8⟩ := hdep 12 _ rfl (by kernel_rfl)
                  simp at g58
                  clear hfr hdep hG
                  have hOw := hOR.below hb
                  have hbo2 := hbo.trans (hb.mono hbo.size)
                  refine app_ru2 rfl _ _ rfl wo wo.heap.size a c ps (by show a'.tmps.getD 46 undef = _; simpa using g46) hOw ((⟨sm, 0, [cv]⟩ : Ru), (some ⟨b8, 0, none⟩, 1, 1)) ho8 (HSZ.out) (some ⟨b2, 0, none⟩) 1 (by show a'.tmps.getD 58 undef = _; simpa using g58) hs2 (by omega) hbo2.size hbo2 ?_
                  intro a3 c3 w7 ho7 hb7 hgr7
                  go_wp2
                  exact ⟨rfl, _, rfl, hgr7, ⟨a3, c3, rfl, _, ho7⟩, hb7, Nat.le_trans hb.size hgr7.size⟩
                · cases hc
              · simp only [All]
                refine ⟨?_, ?_, ?_, ?_, ?_, ?_, ?_, ?_, ?_, ?_, ?_, ?_, ?_, trivial⟩
                · intro o ho a' w' hfr hdep hst
                  obtain rfl := Option.some.inj ho
                  have g5 : a'.tmps[5]?.getD undef = .slice a ps.length c := by have h := hfr 5 (by kernel_rfl); simpa using h
                  clear ho hfr hdep hst
                  go_wp2_with fail
                  exact ⟨rfl, _, rfl, Below.refl _ _, rfl⟩
                · intro o ho a' w' hfr hdep hst
                  obtain rfl := Option.some.inj ho
                  have g7 : a'.tmps[7]?.getD undef = .string ⟨#[32, 46, 44, 63, 39, 45]⟩ := by have h := hfr 7 (by kernel_rfl); simpa using h
                  clear ho hfr hdep hst
                  go_wp2_with fail
                  exact ⟨rfl, _, rfl, Below.refl _ _, rfl⟩
                · intro o ho a' w' hfr hdep hst
                  obtain rfl := Option.some.inj ho
                  have g8 : a'.tmps[8]?.getD undef = .int .i64 (i : Int) := by have h := hfr 8 (by kernel_rfl); simpa using h
                  clear ho hfr hdep hst
                  go_wp2_with fail
                  exact ⟨rfl, _, rfl, Below.refl _ _, rfl⟩
                · intro o ho a' w' hfr hdep hst
                  obtain rfl := Option.some.inj ho
                  have g8 : a'.tmps[8]?.getD undef = .int .i64 (i : Int) := by have h := hfr 8 (by kernel_rfl); simpa using h
                  clear ho hfr hdep hst
                  go_wp2_with fail
                  exact ⟨rfl, _, rfl, Below.refl _ _, rfl⟩
                · intro o ho a' w' hfr hdep hst
                  obtain rfl := Option.some.inj ho
                  have g49 : a'.tmps[49]?.getD undef = .int .i64 (i : Int) := by have h := hdep 3 _ rfl (by kernel_rfl); simpa using h
                  clear ho hfr hdep hst
                  go_wp2_with fail
                  exact ⟨rfl, _, rfl, Below.refl _ _, rfl⟩
                · intro o ho a' w' hfr hdep hst
                  obtain rfl := Option.some.inj ho
                  have g47 : a'.tmps[47]?.getD undef = .string ⟨#[32, 46, 44, 63, 39, 45]⟩ := by have h := hdep 1 _ rfl (by kernel_rfl); simpa using h
                  have g48 : a'.tmps[48]?.getD undef = .int .i64 (i : Int) := by have h := hdep 2 _ rfl (by kernel_rfl); simpa using h
                  have g50 : a'.tmps[50]?.getD undef = .int .i64 ((i : Int) + 1) := by have h := hdep 4 _ rfl (by kernel_rfl); simpa using h
                  clear ho hfr hdep hst
                  have hsl := HSL.out
                  go_wp2_with fail
                  exact ⟨rfl, _, rfl, Below.refl _ _, rfl⟩
                · intro o ho a' w' hfr hdep hst
                  obtain rfl := Option.some.inj ho
                  have g0 : a'.tmps[0]?.getD undef = .int .i64 n := by have h := hfr 0 (by kernel_rfl); simpa using h
                  clear ho hfr hdep hst
                  go_wp2_with fail
                  exact ⟨rfl, _, rfl, Below.refl _ _, rfl⟩
                · intro o ho a' w' hfr hdep hst
                  obtain rfl := Option.some.inj ho
                  have g8 : a'.tmps[8]?.getD undef = .int .i64 (i : Int) := by have h := hfr 8 (by kernel_rfl); simpa using h
                  clear ho hfr hdep hst
                  go_wp2_with fail
                  exact ⟨rfl, _, rfl, Below.refl _ _, rfl⟩
                · intro o ho a' w' hfr hdep hst
                  obtain rfl := Option.some.inj ho
                  have g53 : a'.tmps[53]?.getD undef = .int .i64 (i : Int) := by have h := hdep 7 _ rfl (by kernel_rfl); simpa using h
                  clear ho hfr hdep hst
                  go_wp2_with fail
                  exact ⟨rfl, _, rfl, Below.refl _ _, rfl⟩
                · intro o ho a' w' hfr hdep hst
                  obtain rfl := Option.some.inj ho
                  have g52 : a'.tmps[52]?.getD undef = .int .i64 n := by have h := hdep 6 _ rfl (by kernel_rfl); simpa using h
                  have g54 : a'.tmps[54]?.getD undef = .int .i64 (26 + (i : Int)) := by have h := hdep 8 _ rfl (by kernel_rfl); simpa using h
                  clear ho hfr hdep hst
                  go_wp2_with fail
                  refine (HCV.out _).mono ?_
                  rintro e w2 ⟨rfl, hb2⟩
                  go_wp2_with fail
                  exact ⟨rfl, _, rfl, hb2, rfl⟩
                · intro o ho a' w' hfr hdep hst
                  obtain rfl := Option.some.inj ho
                  have g55 : a'.tmps[55]?.getD undef = .int .u8 (cv.toNat : Int) := by have h := hdep 9 _ rfl (by kernel_rfl); simpa using h
                  obtain ⟨j, _, _, hG⟩ := hst
                  clear ho hfr hdep
                  have hsz := hG.size
                  clear hG
                  go_wp2_with fail
                  exact ⟨rfl, _, rfl, blo _ _, _, rfl, hsz, Own.built w' 0 5 1 1 #[.int .u8 (cv.toNat : Int)] (Nat.zero_le _) rfl (by decide)⟩
                · intro o ho a' w' hfr hdep hst
                  obtain rfl := Option.some.inj ho
                  have g51 : a'.tmps[51]?.getD undef = .string sm := by have h := hdep 5 _ rfl (by kernel_rfl); simpa using h
                  obtain ⟨b8, g56, hb8, ho8⟩ := hdep 10 _ rfl (by kernel_rfl)
                  simp at g56
                  clear ho hfr hdep hst
                  go_wp2_with fail
                  exact ⟨rfl, _, rfl, Below.refl _ _, b8, rfl, hb8, ho8⟩
                · intro o ho a' w' hfr hdep hst
                  obtain rfl := Option.some.inj ho
                  obtain ⟨b8, g57, hb8, ho8⟩ := hdep 11 _ rfl (by kernel_rfl)
                  simp at g57
                  obtain ⟨j, _, _, hG⟩ := hst
                  clear ho hfr hdep
                  have hsz := hG.size
                  clear hG
                  go_wp2_with fail
                  exact ⟨rfl, _, rfl, blo _ _, _, rfl, hsz, b8, hb8, Sl.fresh _ _ 3 1 (rc ((⟨sm, 0, [cv]⟩ : Ru), (some ⟨b8, 0, none⟩, 1, 1))) rfl (by decide), ho8.alloc _⟩
              · intro g w7 hG hp
                obtain ⟨⟨a7, c7, p59, h7, ho7⟩, hB7, _⟩ := hG
                clear hp
                simp at p59
                simp only [List.drop_succ_cons, List.drop_zero, List.map_cons, List.map_nil, putAll, Act.put, List.setIfInBounds_toArray, List.set_cons_succ, List.set_cons_zero, List.cons_append, List.nil_append, p59]
                clear p59
                go_wp2_with fail
                go_roundg (6 - (i + 1))
                case measure => have := HGI.out; omega
                case rel => exact ⟨i + 1, ps ++ [((⟨sm, 0, [cv]⟩ : Ru), h7)], a7, c7, by omega, rfl, by rw [List.length_append]; rfl, by go_num, HST.out h7, ho7, hB7⟩
            · obtain rfl : i = 6 := by omega
              have HR3 := hide (Raw3.zero HRW.out)
              go_wp2_with fail
              refine (around_ex 6 _ _ _ rfl (wrap_in _) (by decide) (by decide)).mono ?_
              rintro e w3 ⟨r6, hr6, rfl, hw3⟩
              obtain ⟨tb, htb⟩ : ∃ tb, tb = wr.heap.size := ⟨_, rfl⟩
              have HTX : Own w3 0 9 1 (some ⟨tb, 0, none⟩) 12 12 (texts12.map Value.string) := by
                rw [← hw3, htb]
                exact Own.built wr 0 9 1 12 (texts12.map Value.string).toArray (Nat.zero_le _) rfl (by decide)
              have hb3 : Below wr.heap.size wr w3 := by rw [← hw3]; exact blo _ _
              rw [← htb]
              clear htb hw3
              go_wp2_with fail
              obtain ⟨M, hM⟩ : ∃ M : Nat, M = 3 + r6 := ⟨_, rfl⟩
              have HMI : Hid ((3 : Int) + (r6 : Int) = (M : Int)) := hide (by omega)
              rw [HMI.out]
              have hM8 : M ≤ 8 := by omega
              clear hM hr6
              have hOR3 := hOR.below hb3
              have hbo3 := hbo.trans (hb3.mono hbo.size)
              clear hOR hbo hb3
              go_loopg [5, 11] M (fun gh l v w' => ∃ (i : Nat) (ps : List RH) (a : Option Addr) (c : Nat), i ≤ M ∧ gh = M - i ∧ l = .slice a ps.length c ∧ v = .int .i64 (i : Int) ∧ Hid (Raw3 (rus ps) i) ∧ ORu w' 84 5 wo.heap.size a c ps ∧ Own w' 0 9 1 (some ⟨tb, 0, none⟩) 12 12 (texts12.map Value.string) ∧ Below wo.heap.size wo w')
              case atStart => exact ⟨0, ps, a, c, by omega, by omega, rfl, rfl, HR3, hOR3, HTX, hbo3⟩
              case round =>
                clear hOR3 hbo3 HTX HRW HGI hple HR3
                obtain ⟨i, ps, a, c, hi, hgi, rfl, rfl, HRW, hOR, hTX, hbo⟩ := hrel
                have HGI := hide hgi
                have hple : ps.length ≤ 40 := by have := HRW.out.len; unfold rus at this; rw [List.length_map] at this; omega
                clear hgi
                by_cases hil : i < M
                · have d1 : decide (i < M) = true := decide_eq_true hil
                  have d1' : decide ((i : Int) < (M : Int)) = true := decide_eq_true (by omega)
                  go_wp2_with fail
                  refine (around_ex 12 _ _ _ rfl (wrap_in _) (by decide) (by decide)).mono ?_
                  rintro e w4 ⟨kt, hkt, rfl, rfl⟩
                  obtain ⟨st, hst⟩ : ∃ st, texts12[kt]? = some st := ⟨_, List.getElem?_eq_getElem (show kt < texts12.length from hkt)⟩
                  have hsm := List.mem_of_getElem? hst
                  have HCT : Hid (wr.cell? ⟨tb, kt, none⟩ = some (.string st)) := hide (by
                    have := hTX.sl.cell ⟨tb, 0, none⟩ rfl kt (.string st) (by rw [List.getElem?_map, hst]; rfl)
                    simpa [Addr.add_lit] using this)
                  have hcl := HCT.out
                  obtain ⟨ii, hii⟩ : ∃ ii : Nat, ii = i * i := ⟨_, rfl⟩
                  have HII : Hid ((i : Int) * (i : Int) = (ii : Int)) := hide (by rw [hii]; exact (Int.natCast_mul i i).symm)
                  have hii64 : ii ≤ 64 := by rw [hii]; exact Nat.mul_le_mul (show i ≤ 8 by omega) (show i ≤ 8 by omega)
                  obtain ⟨cv, hcv, hcal⟩ := ref_cell n hn0 hn1 (37 + i) (by omega)
                  rw [show (((37 + i : Nat)) : Int) = 37 + (i : Int) by omega] at hcal
                  have HCV := hide hcal
                  clear hii hcal hst
                  go_wp2_with fail
                  refine wp_region_free 19 [⟨0, 80, [80], fun vs _ => vs = [.slice (some ⟨tb, 0, none⟩) 12 12]⟩, ⟨1, 81, [81], fun vs _ => vs = [.int .i64 (kt : Int)]⟩, ⟨2, 82, [82], fun vs _ => vs = [.pointer (some ⟨tb, kt, none⟩)]⟩, ⟨3, 83, [83], fun vs _ => vs = [.string st]⟩, ⟨4, 84, [84], fun vs _ => vs = [.int .i64 n]⟩, ⟨5, 85, [85], fun vs _ => vs = [.int .i64 (n.tdiv 7)]⟩, ⟨6, 86, [86], fun vs _ => vs = [.int .i64 (i : Int)]⟩, ⟨7, 87, [87], fun vs _ => vs = [.int .i64 (i : Int)]⟩, ⟨8, 88, [88], fun vs _ => vs = [.int .i64 (ii : Int)]⟩, ⟨9, 89, [89], fun vs _ => vs = [.int .i64 (wrap64 (n.tdiv 7 + (ii : Int)))]⟩, ⟨10, 90, [90], fun vs w' => ∃ r : Nat, vs = [.int .i64 (r : Int)] ∧ r < 6⟩, ⟨11, 91, [91], fun vs w' => ∃ r : Nat, vs = [.int .i64 (r : Int)] ∧ r < 4⟩, ⟨12, 92, [92], fun vs _ => vs = [.int .i64 n]⟩, ⟨13, 93, [93], fun vs _ => vs = [.int .i64 (i : Int)]⟩, ⟨14, 94, [94], fun vs _ => vs = [.int .i64 (37 + (i : Int))]⟩, ⟨15, 95, [95], fun vs _ => vs = [.int .u8 (cv.toNat : Int)]⟩, ⟨16, 96, [96], fun vs w' => ∃ b, vs = [.slice (some ⟨b, 0, none⟩) 1 1] ∧ Own w' 0 5 1 (some ⟨b, 0, none⟩) 1 1 ([cv].map B8)⟩, ⟨17, 97, [97], fun vs w' => ∃ (b r : Nat), vs = [.agg #[.string st, .int .i64 (r : Int), .slice (some ⟨b, 0, none⟩) 1 1]] ∧ r < 4 ∧ Own w' 0 5 1 (some ⟨b, 0, none⟩) 1 1 ([cv].map B8)⟩, ⟨18, 13, [13], fun vs w' => ∃ b, vs = [.pointer (some ⟨b, 0, none⟩)] ∧ wr.heap.size ≤ b ∧ Box w' b 84 [.string ⟨#[]⟩, .int .i64 0, .slice none 0 0]⟩] (by kernel_rfl) (by kernel_rfl) ?_ ?_ ?_
                  · simp only [All]
                    refine ⟨fun _ _ _ _ h => h, fun _ _ _ _ h => h, fun _ _ _ _ h => h, fun _ _ _ _ h => h, fun _ _ _ _ h => h, fun _ _ _ _ h => h, fun _ _ _ _ h => h, fun _ _ _ _ h => h, fun _ _ _ _ h => h, fun _ _ _ _ h => h, ?_, ?_, fun _ _ _ _ h => h, fun _ _ _ _ h => h, fun _ _ _ _ h => h, fun _ _ _ _ h => h, ?_, ?_, ?_, trivial⟩
                    · exact fun _ _ _ _ h => h
                    · exact fun _ _ _ _ h => h
                    · rintro vs w2 w3 hb ⟨b, h1, h2⟩
                      exact ⟨b, h1, h2.below hb⟩
                    · rintro vs w2 w3 hb ⟨b, r, h1, h3, h2⟩
                      exact ⟨b, r, h1, h3, h2.below hb⟩
                    · rintro vs w2 w3 hb ⟨b, h1, h2, h3⟩
                      exact ⟨b, h1, h2, h3.under hb⟩
                  · simp only [All]
                    refine ⟨?_, ?_, ?_, ?_, ?_, ?_, ?_, ?_, ?_, ?_, ?_, ?_, ?_, ?_, ?_, ?_, ?_, ?_, ?_, trivial⟩
                    · intro o ho a' w' hb hfr hdep
                      obtain rfl := Option.some.inj ho
                      have g9 : a'.tmps[9]?.getD undef = .slice (some ⟨tb, 0, none⟩) 12 12 := by have h := hfr 9 (by kernel_rfl); simpa using h
                      clear ho hfr hdep
                      go_wp2_with fail
                      exact ⟨rfl, _, rfl, Below.refl _ _, rfl⟩
                    · intro o ho a' w' hb hfr hdep
                      obtain rfl := Option.some.inj ho
                      have g12 : a'.tmps[12]?.getD undef = .int .i64 (kt : Int) := by have h := hfr 12 (by kernel_rfl); simpa using h
                      clear ho hfr hdep
                      go_wp2_with fail
                      exact ⟨rfl, _, rfl, Below.refl _ _, rfl⟩
                    · intro o ho a' w' hb hfr hdep
                      obtain rfl := Option.some.inj ho
                      have g80 : a'.tmps[80]?.getD undef = .slice (some ⟨tb, 0, none⟩) 12 12 := by have h := hdep 0 _ rfl (by kernel_rfl); simpa using h
                      have g81 : a'.tmps[81]?.getD undef = .int .i64 (kt : Int) := by have h := hdep 1 _ rfl (by kernel_rfl); simpa using h
                      clear ho hfr hdep
                      go_wp2_with fail
                      exact ⟨rfl, _, rfl, Below.refl _ _, rfl⟩
                    · intro o ho a' w' hb hfr hdep
                      obtain rfl := Option.some.inj ho
                      have g82 : a'.tmps[82]?.getD undef = .pointer (some ⟨tb, kt, none⟩) := by have h := hdep 2 _ rfl (by kernel_rfl); simpa using h
                      clear ho hfr hdep
                      have hcl := cell_below HCT.out hb
                      go_wp2_with fail
                      exact ⟨rfl, _, rfl, Below.refl _ _, rfl⟩
                    · intro o ho a' w' hb hfr hdep
                      obtain rfl := Option.some.inj ho
                      have g0 : a'.tmps[0]?.getD undef = .int .i64 n := by have h := hfr 0 (by kernel_rfl); simpa using h
                      clear ho hfr hdep
                      go_wp2_with fail
                      exact ⟨rfl, _, rfl, Below.refl _ _, rfl⟩
                    · intro o ho a' w' hb hfr hdep
                      obtain rfl := Option.some.inj ho
                      have g84 : a'.tmps[84]?.getD undef = .int .i64 n := by have h := hdep 4 _ rfl (by kernel_rfl); simpa using h
                      clear ho hfr hdep
                      go_wp2_with fail
                      exact ⟨rfl, _, rfl, Below.refl _ _, rfl⟩
                    · intro o ho a' w' hb hfr hdep
                      obtain rfl := Option.some.inj ho
                      have g11 : a'.tmps[11]?.getD undef = .int .i64 (i : Int) := by have h := hfr 11 (by kernel_rfl); simpa using h
                      clear ho hfr hdep
                      go_wp2_with fail
                      exact ⟨rfl, _, rfl, Below.refl _ _, rfl⟩
                    · intro o ho a' w' hb hfr hdep
                      obtain rfl := Option.some.inj ho
                      have g11 : a'.tmps[11]?.getD undef = .int .i64 (i : Int) := by have h := hfr 11 (by kernel_rfl); simpa using h
                      clear ho hfr hdep
                      go_wp2_with fail
                      exact ⟨rfl, _, rfl, Below.refl _ _, rfl⟩
                    · intro o ho a' w' hb hfr hdep
                      obtain rfl := Option.some.inj ho
                      have g86 : a'.tmps[86]?.getD undef = .int .i64 (i : Int) := by have h := hdep 6 _ rfl (by kernel_rfl); simpa using h
                      have g87 : a'.tmps[87]?.getD undef = .int .i64 (i : Int) := by have h := hdep 7 _ rfl (by kernel_rfl); simpa using h
                      clear ho hfr hdep
                      have hii := HII.out
                      go_wp2_with fail
                      exact ⟨rfl, _, rfl, Below.refl _ _, rfl⟩
                    · intro o ho a' w' hb hfr hdep
                      obtain rfl := Option.some.inj ho
                      have g85 : a'.tmps[85]?.getD undef = .int .i64 (n.tdiv 7) := by have h := hdep 5 _ rfl (by kernel_rfl); simpa using h
                      have g88 : a'.tmps[88]?.getD undef = .int .i64 (ii : Int) := by have h := hdep 8 _ rfl (by kernel_rfl); simpa using h
                      clear ho hfr hdep
                      go_wp2_with fail
                      exact ⟨rfl, _, rfl, Below.refl _ _, rfl⟩
                    · intro o ho a' w' hb hfr hdep
                      obtain rfl := Option.some.inj ho
                      have g89 : a'.tmps[89]?.getD undef = .int .i64 (wrap64 (n.tdiv 7 + (ii : Int))) := by have h := hdep 9 _ rfl (by kernel_rfl); simpa using h
                      clear ho hfr hdep
                      go_wp2_with fail
                      refine (around_ex 6 _ _ _ rfl (wrap_in _) (by decide) (by decide)).mono ?_
                      rintro e w2 ⟨r, hr, rfl, rfl⟩
                      go_wp2_with fail
                      exact ⟨rfl, _, rfl, Below.refl _ _, r, rfl, hr⟩
                    · intro o ho a' w' hb hfr hdep
                      obtain rfl := Option.some.inj ho
                      obtain ⟨r, g90, hr⟩ := hdep 10 _ rfl (by kernel_rfl)
                      replace g90 : a'.tmps[90]?.getD undef = .int .i64 (r : Int) := by simpa using g90
                      obtain ⟨s, hs⟩ : ∃ s, s = r % 4 := ⟨_, rfl⟩
                      have hs1 : (r : Int) % 4 = (s : Int) := by omega
                      have hs2 : (r : Int).tmod 4 = (s : Int) := by rw [Int.tmod_eq_emod_of_nonneg (by omega)]; exact hs1
                      have hs4 : s < 4 := by omega
                      clear hs hr
                      clear ho hfr hdep
                      go_wp2_with fail
                      exact ⟨rfl, _, rfl, Below.refl _ _, s, rfl, hs4⟩
                    · intro o ho a' w' hb hfr hdep
                      obtain rfl := Option.some.inj ho
                      have g0 : a'.tmps[0]?.getD undef = .int .i64 n := by have h := hfr 0 (by kernel_rfl); simpa using h
                      clear ho hfr hdep
                      go_wp2_with fail
                      exact ⟨rfl, _, rfl, Below.refl _ _, rfl⟩
                    · intro o ho a' w' hb hfr hdep
                      obtain rfl := Option.some.inj ho
                      have g11 : a'.tmps[11]?.getD undef = .int .i64 (i : Int) := by have h := hfr 11 (by kernel_rfl); simpa using h
                      clear ho hfr hdep
                      go_wp2_with fail
                      exact ⟨rfl, _, rfl, Below.refl _ _, rfl⟩
                    · intro o ho a' w' hb hfr hdep
                      obtain rfl := Option.some.inj ho
                      have g93 : a'.tmps[93]?.getD undef = .int .i64 (i : Int) := by have h := hdep 13 _ rfl (by kernel_rfl); simpa using h
                      clear ho hfr hdep
                      go_wp2_with fail
                      exact ⟨rfl, _, rfl, Below.refl _ _, rfl⟩
                    · intro o ho a' w' hb hfr hdep
                      obtain rfl := Option.some.inj ho
                      have g92 : a'.tmps[92]?.getD undef = .int .i64 n := by have h := hdep 12 _ rfl (by kernel_rfl); simpa using h
                      have g94 : a'.tmps[94]?.getD undef = .int .i64 (37 + (i : Int)) := by have h := hdep 14 _ rfl (by kernel_rfl); simpa using h
                      clear ho hfr hdep
                      go_wp2_with fail
                      refine (HCV.out _).mono ?_
                      rintro e w2 ⟨rfl, hb2⟩
                      go_wp2_with fail
                      exact ⟨rfl, _, rfl, hb2, rfl⟩
                    · intro o ho a' w' hb hfr hdep
                      obtain rfl := Option.some.inj ho
                      have g95 : a'.tmps[95]?.getD undef = .int .u8 (cv.toNat : Int) := by have h := hdep 15 _ rfl (by kernel_rfl); simpa using h
                      clear ho hfr hdep
                      go_wp2_with fail
                      exact ⟨rfl, _, rfl, blo _ _, _, rfl, Own.built w' 0 5 1 1 #[.int .u8 (cv.toNat : Int)] (Nat.zero_le _) rfl (by decide)⟩
                    · intro o ho a' w' hb hfr hdep
                      obtain rfl := Option.some.inj ho
                      have g83 : a'.tmps[83]?.getD undef = .string st := by have h := hdep 3 _ rfl (by kernel_rfl); simpa using h
                      obtain ⟨r, g91, hr⟩ := hdep 11 _ rfl (by kernel_rfl)
                      replace g91 : a'.tmps[91]?.getD undef = .int .i64 (r : Int) := by simpa using g91
                      obtain ⟨b8, g96, ho8⟩ := hdep 16 _ rfl (by kernel_rfl)
                      replace g96 : a'.tmps[96]?.getD undef = .slice (some ⟨b8, 0, none⟩) 1 1 := by simpa using g96
                      clear ho hfr hdep
                      go_wp2_with fail
                      exact ⟨rfl, _, rfl, Below.refl _ _, b8, r, rfl, hr, ho8⟩
                    · intro o ho a' w' hb hfr hdep
                      obtain rfl := Option.some.inj ho
                      clear ho hfr hdep
                      have hxn := Box.new w' 84 #[.string ⟨#[]⟩, .int .i64 0, .slice none 0 0]
                      have hsz := hb.size
                      go_wp2_with fail
                      exact ⟨rfl, _, rfl, blo _ _, _, rfl, hsz, hxn⟩
                  · intro g w9 hb9 hp9
                    obtain ⟨b9, r9, p97, hr9, ho9⟩ := hp9 17 _ rfl
                    obtain ⟨b13, p13, hb13, hx13⟩ := hp9 18 _ rfl
                    clear hp9
                    simp at p97 p13
                    simp only [List.drop_succ_cons, List.drop_zero, List.map_cons, List.map_nil, putAll, Act.put, List.setIfInBounds_toArray, List.set_cons_succ, List.set_cons_zero, List.cons_append, List.nil_append, p97, p13]
                    clear p97 p13
                    go_wp2_with (with_reducible refine store_all 84 _ _ 84 b13 [.string ⟨#[]⟩, .int .i64 0, .slice none 0 0] [.string st, .int .i64 (r9 : Int), .slice (some ⟨b9, 0, none⟩) 1 1] _ (size_ru3 _ _ _) hx13 rfl rfl rfl (Eq.refl 3) (by simp [Value.oneCell']) ?_; intro w10 hx10 hg10 hs10; refine hold ?_)
                    refine hide ?_
                    have hRB : RB wr w10 b13 st (r9 : Int) := RB.set (cs := [cv]) hx13 ho9 (one_ok hcv) hb9 hb13 hg10 hx10
                    clear hx13 ho9 hb9 hg10 hx10 hs10
                    go_wp2_with fail
                    refine (around_ex 3 _ _ _ rfl (wrap_in _) (by decide) (by decide)).mono ?_
                    rintro e w11 ⟨q, hq, rfl, rfl⟩
                    go_upto_if 103 with fail
                    go_cut [13] from 104 to 114 (fun p w' => p = .pointer (some ⟨b13, 0, none⟩) ∧ RB wr w' b13 st (r9 : Int))
                    case first =>
                      by_cases hq0 : q = 0
                      · subst hq0
                        obtain ⟨cs0, a0, m0, c0, _, hx0, _, hbw⟩ := hRB
                        go_wp2_with fail
                        refine (cell_ex n hn0 hn1 36 _ rfl (by decide) _).mono ?_
                        rintro e w12 ⟨cA, hcA, rfl, hb12⟩
                        go_wp2_with fail
                        refine (around_ex 26 _ _ _ rfl (wrap_in _) (by decide) (by decide)).mono ?_
                        rintro e w13 ⟨q2, hq2, rfl, rfl⟩
                        go_wp2_with fail
                        refine (cell_ex n hn0 hn1 q2 _ rfl (by omega) _).mono ?_
                        rintro e w14 ⟨cB, hcB, rfl, hb14b⟩
                        have hb14 := hb12.trans (hb14b.mono hb12.size)
                        have ub := Own.built w14 0 5 1 2 #[.int .u8 (cA.toNat : Int), .int .u8 (cB.toNat : Int)] (Nat.zero_le _) rfl (by decide)
                        have hxs := (hx0.under hb14).alloc (.cells #[.int .u8 (cA.toNat : Int), .int .u8 (cB.toNat : Int)] 5)
                        have hbs := (hbw.trans (hb14.mono hbw.size)).trans ((blo w14 (.cells #[.int .u8 (cA.toNat : Int), .int .u8 (cB.toNat : Int)] 5)).mono (Nat.le_trans hbw.size hb14.size))
                        have hln : 2 < ([.string st, .int .i64 (r9 : Int), .slice a0 m0 c0] : List Value).length := by simp
                        go_wp2_with (with_reducible refine store_cell 27 _ _ 84 b13 2 [.string st, .int .i64 (r9 : Int), .slice a0 m0 c0] (.slice (some ⟨w14.heap.size, 0, none⟩) 2 2) size_row hxs rfl rfl rfl rfl hln ?_; intro w15 hx15 hg15 hs15)
                        go_meet
                        exact ⟨rfl, RB.set (cs := [cA, cB]) hxs ub (two_ok hcA hcB) hbs hb13 hg15 hx15⟩
                      · have dq : ((q : Int) == 0) = false := by simpa using hq0
                        have dq2 : decide ((q : Int) = 0) = false := by simpa using hq0
                        go_wp2_with fail
                        go_meet
                        exact ⟨rfl, hRB⟩
                    case rest =>
                    clear hRB hq
                    obtain ⟨rfl, hRB⟩ := hcut
                    obtain ⟨wd, rfl⟩ : ∃ wd : World, wd = wc := ⟨_, rfl⟩
                    go_wp2_with fail
                    refine (around_ex 23 _ _ _ rfl (wrap_in _) (by decide) (by decide)).mono ?_
                    rintro e w11 ⟨q, hq, rfl, rfl⟩
                    go_upto_if 120 with fail
                    go_cut [13] from 121 to 132 (fun p w' => p = .pointer (some ⟨b13, 0, none⟩) ∧ RB wr w' b13 st (r9 : Int))
                    case first =>
                      by_cases hq0 : q = 0
                      · subst hq0
                        obtain ⟨cs0, a0, m0, c0, _, hx0, _, hbw⟩ := hRB
                        go_wp2_with fail
                        refine (around_ex 32 _ _ _ rfl (tdiv_in hn0 hn1 (by decide)) (by decide) (by decide)).mono ?_
                        rintro e wz ⟨q1, hq1, rfl, rfl⟩
                        go_wp2_with fail
                        refine (cell_ex n hn0 hn1 q1 _ rfl (by omega) _).mono ?_
                        rintro e w12 ⟨cA, hcA, rfl, hb12⟩
                        go_wp2_with fail
                        refine (around_ex 32 _ _ _ rfl (tdiv_in hn0 hn1 (by decide)) (by decide) (by decide)).mono ?_
                        rintro e w13 ⟨q2, hq2, rfl, rfl⟩
                        go_wp2_with fail
                        refine (cell_ex n hn0 hn1 q2 _ rfl (by omega) _).mono ?_
                        rintro e w14 ⟨cB, hcB, rfl, hb14b⟩
                        have hb14 := hb12.trans (hb14b.mono hb12.size)
                        have ub := Own.built w14 0 5 1 2 #[.int .u8 (cA.toNat : Int), .int .u8 (cB.toNat : Int)] (Nat.zero_le _) rfl (by decide)
                        have hxs := (hx0.under hb14).alloc (.cells #[.int .u8 (cA.toNat : Int), .int .u8 (cB.toNat : Int)] 5)
                        have hbs := (hbw.trans (hb14.mono hbw.size)).trans ((blo w14 (.cells #[.int .u8 (cA.toNat : Int), .int .u8 (cB.toNat : Int)] 5)).mono (Nat.le_trans hbw.size hb14.size))
                        have hln : 2 < ([.string st, .int .i64 (r9 : Int), .slice a0 m0 c0] : List Value).length := by simp
                        go_wp2_with (with_reducible refine store_cell 27 _ _ 84 b13 2 [.string st, .int .i64 (r9 : Int), .slice a0 m0 c0] (.slice (some ⟨w14.heap.size, 0, none⟩) 2 2) size_row hxs rfl rfl rfl rfl hln ?_; intro w15 hx15 hg15 hs15)
                        go_meet
                        exact ⟨rfl, RB.set (cs := [cA, cB]) hxs ub (two_ok hcA hcB) hbs hb13 hg15 hx15⟩
                      · have dq : ((q : Int) == 0) = false := by simpa using hq0
                        have dq2 : decide ((q : Int) = 0) = false := by simpa using hq0
                        go_wp2_with fail
                        go_meet
                        exact ⟨rfl, hRB⟩
                    case rest =>
                    clear hRB hq
                    obtain ⟨rfl, hRB⟩ := hcut
                    obtain ⟨wd, rfl⟩ : ∃ wd : World, wd = wc := ⟨_, rfl⟩
                    obtain ⟨cs, a1, m1, c1, hcs, hx, hcells, hbw⟩ := hRB
                    have HST : Hid (∀ h, Hid (Raw3 (rus (ps ++ [((⟨st, (r9 : Int), cs⟩ : Ru), h)])) (i + 1))) := hide (fun h => hide (by
                      have := HRW.out.step (contr_ok hsm (show (0 : Int) ≤ (r9 : Int) by omega) (show (r9 : Int) ≤ 3 by omega) hcs)
                      unfold rus at this ⊢
                      simpa using this))
                    have HSZ : Hid (st.size ≤ 1000) := hide (by
                      have := texts12_ok st hsm
                      simp only [Bool.and_eq_true, decide_eq_true_eq] at this
                      omega)
                    have hOw := hOR.below hbw
                    have hTw := hTX.below hbw
                    have hbo2 := hbo.trans (hbw.mono hbo.size)
                    go_wp2_with (first
                      | (with_reducible refine load_struct 134 84 _ 3 size_rule _ Try.underlying84 ⟨b13, 0, none⟩ rfl [.string st, .int .i64 (r9 : Int), .slice a1 m1 c1] rfl (fun j u hj => by rw [Addr.add_lit, Nat.zero_add]; exact hx.at_ hj) ?_)
                      | (at_builtin; refine app_ru rfl _ _ rfl wo wo.heap.size a c ps rfl hOw (⟨st, (r9 : Int), cs⟩, (a1, m1, c1)) hcells HSZ.out rfl (by omega) hbo2.size hbo2 ?_; intro a9 c9 w21 ho21 hb21 hg21))
                    go_roundg (M - (i + 1))
                    case measure => have := HGI.out; omega
                    case rel => exact ⟨i + 1, ps ++ [((⟨st, (r9 : Int), cs⟩ : Ru), (a1, m1, c1))], a9, c9, by omega, rfl, by rw [List.length_append]; rfl, by go_num, HST.out _, ho21, hTw.kept hg21 (fun q hq => by cases hq; exact far_map hTw hOw.top (by decide)), hb21⟩
                · obtain rfl : i = M := by omega
                  have HRaw := hide (Raw3.raw HRW.out (by omega))
                  have hV7 : ([v0, v1, .slice none 0 0, .slice none 0 0, .slice none 0 0, .slice none 0 0, .slice none 0 0] : List Value).length = 7 := rfl
                  obtain ⟨V, hV⟩ : ∃ V : List Value, V = [v0, v1, .slice none 0 0, .slice none 0 0, .slice none 0 0, .slice none 0 0, .slice none 0 0] := ⟨_, rfl⟩
                  rw [← hV] at hX1 hV7
                  have HV := hide hV
                  clear hV
                  go_wp2_with fail
                  refine (ref_Once ps a c wo.heap.size (by omega) wr hOR).mono ?_
                  rintro e w22 ⟨a2, c2, qs, rfl, hQ, hON, hb22⟩
                  have hb022 := hbo.trans (hb22.mono hbo.size)
                  have hx22 := hX1.under hb022
                  have hz22 := hX0.under hb022
                  have hkl2 : k + ([.slice a2 qs.length c2] : List Value).length ≤ V.length := by rw [hV7]; simp; omega
                  have hone : ∀ u ∈ ([.slice a2 qs.length c2] : List Value), u.oneCell' = true := by simp [Value.oneCell']
                  clear hV7
                  go_wp2_with (with_reducible refine store_box 25 _ _ 29 g1 k V [.slice a2 qs.length c2] _ (size_tab1 _) hx22 rfl rfl rfl hkl2 hone ?_; intro w23 hx23 hg23 hs23)
                  have hnew : RG w23 w.heap.size (.slice a2 qs.length c2) := by
                    refine RG.kept ⟨rus ps, rus qs, HRaw.out, hON, a2, c2, qs, rfl, hQ.mono ?_, rfl⟩ hg23 hx22
                    exact Nat.le_trans hb.size hbo.size
                  have HKN : Hid (∃ v0' v1', Box w23 g1 29 [v0', v1', .slice none 0 0, .slice none 0 0, .slice none 0 0, .slice none 0 0, .slice none 0 0] ∧ (1 ≤ k + 1 → RG w23 w.heap.size v0') ∧ (2 ≤ k + 1 → RG w23 w.heap.size v1')) := by
                    rw [HV.out] at hx23
                    rcases k with _ | _ | k
                    · exact hide ⟨_, v1, hx23, fun _ => hnew, fun h => by omega⟩
                    · exact hide ⟨v0, _, hx23, fun _ => ((hr0 (by omega)).below hb022).kept hg23 hx22, fun _ => hnew⟩
                    · omega
                  obtain ⟨v0', v1', z1, z4, z5⟩ := HKN.out
                  have hbw := (hb.trans (hb022.mono hb.size)).grown hg23 (Nat.le_trans hb.size hb022.size) (fun q hq => by cases hq; exact hg1w)
                  have hz23 := hz22.grown hg23 hg01
                  go_roundg (2 - (k + 1))
                  case measure => have := HG.out; omega
                  case rel => exact ⟨k + 1, v0', v1', by omega, rfl, by go_num, z1, hz23, z4, z5, hbw⟩
    · obtain rfl : k = 2 := by omega
      have r0 := hr0 (by omega)
      have r1 := hr1 (by omega)
      obtain ⟨w5, rfl⟩ : ∃ w5 : World, w5 = wr := ⟨_, rfl⟩
      have hg15 : g1 < w5.heap.size := hX1.lt
      have hbx5 := hX1
      have HX5 := hide hX1
      have hz5 := hX0
      clear hr0 hr1 hkl hk HG hX1 hX0
      go_wp2_with fail
      go_loopg [14] 10 (fun gh v w' => ∃ (i : Nat) (a : Option Addr) (c : Nat) (ds : List UInt8), i ≤ 10 ∧ gh = 10 - i ∧ v = .int .i64 (i : Int) ∧ ds.length = i ∧ okCells ds = true ∧ Box w' g1 29 [v0, v1, .slice a i c, .slice none 0 0, .slice none 0 0, .slice none 0 0, .slice none 0 0] ∧ Own w' w5.heap.size 5 1 a i c (ds.map B8) ∧ w5.grownBy w' (some g1))
      case atStart => exact ⟨0, none, 0, [], by omega, by omega, rfl, rfl, rfl, hbx5, Own.nil _ _ _ _, grown_of_below (Below.refl _ _) _⟩
      case round =>
        clear hbx5
        obtain ⟨i, a, c, ds, hi, hgi, rfl, hdl, hok, hBx, hOd, hgo⟩ := hrel
        have HGI := hide hgi
        clear hgi
        by_cases hil : i < 10
        · obtain ⟨cv, hcv, hcal⟩ := ref_cell n hn0 hn1 i (by omega)
          have HCV := hide hcal
          have HOK : Hid (okCells (ds ++ [cv]) = true) := hide (by unfold okCells at hok ⊢; rw [List.all_append, hok]; simp [hcv])
          have HNE : Hid (∀ b, wr.heap.size ≤ b → some b ≠ a.map (·.block)) := hide (fun b hb => own_map hOd hb)
          clear hcal hcv hok
          have HDL := hide hdl
          clear hdl
          have hdl := HDL
          go_wp2_with fail
          refine wp_region_chain4 7 (fun w w' => w.grownBy w' (a.map (·.block))) (GDg wr w5 29 5 g1 [v0, v1, .slice a i c, .slice none 0 0, .slice none 0 0, .slice none 0 0, .slice none 0 0] (i + 1) (ds ++ [cv])) [⟨6, 153, [], fun _ _ => True⟩] [⟨0, 147, [147], fun vs _ => vs = [.pointer (some ⟨g1, 1 + 1, none⟩)]⟩, ⟨1, 148, [148], fun vs _ => vs = [.slice a i c]⟩, ⟨2, 149, [149], fun vs _ => vs = [.int .i64 n]⟩, ⟨3, 150, [150], fun vs _ => vs = [.int .i64 (i : Int)]⟩, ⟨4, 151, [151], fun vs _ => vs = [.int .u8 (cv.toNat : Int)]⟩, ⟨5, 152, [152], fun vs w' => ∃ b, vs = [.slice (some ⟨b, 0, none⟩) 1 1] ∧ wr.heap.size ≤ b ∧ Own w' 0 5 1 (some ⟨b, 0, none⟩) 1 1 ([cv].map B8)⟩] (by kernel_rfl) (by kernel_rfl) ?_ (fun _ _ h => grown_of_below h _) GDg.mono ?_ ?_ ?_ ?_
          · exact (Still.below 1 : Below wr.heap.size wr (wr.drewN 1))
          · simp only [All]
            refine ⟨(fun _ _ _ _ h => h), (fun _ _ _ _ h => h), (fun _ _ _ _ h => h), (fun _ _ _ _ h => h), (fun _ _ _ _ h => h), (fun vs w1 w2 hr ⟨b, h1, h0, h2⟩ => ⟨b, h1, h0, h2.kept hr (fun q hq => by cases hq; exact HNE.out b h0)⟩), trivial⟩
          · intro m c hc o ho a' w' hG hfr hdep
            rcases m with _ | m
            · cases hc
              obtain rfl := Option.some.inj ho
              have hb : Below wr.heap.size wr w' := hG
              have g148 : a'.tmps[148]?.getD undef = .slice a i c := by have h := hdep 1 _ rfl (by kernel_rfl); simpa using h
              obtain ⟨b2, g152, hb2, hs2⟩ := hdep 5 _ rfl (by kernel_rfl)
              simp at g152
              clear hfr hdep hG
              have hOw := hOd.below hb
              have hsz9 := Nat.le_trans hgo.size hb.size
              refine append_own rfl _ _ 27 rfl 5 (.int .u8 0) 1 1 Try.underlying27 info_u8 rfl w' w5.heap.size a i c _ (by show a'.tmps.getD 148 undef = _; simpa using g148) hOw (some ⟨b2, 0, none⟩) 1 1 _ (by show a'.tmps.getD 152 undef = _; simpa using g152) hs2.sl (by simp [Value.oneCell', B8]) (by omega) (by unfold maxLen; omega) hsz9 (Below.refl _ _) ?_
              intro a3 c3 w7 ho7 hgr7 hb7
              rw [← List.map_append] at ho7
              go_wp2
              exact ⟨rfl, _, rfl, hgr7, ⟨a3, c3, rfl, ho7⟩, (hBx.under hb).below hb7 hg15, grown_below (grown_below hgo (hb.mono hgo.size)) hb7, Nat.le_trans hb.size hgr7.size⟩
            · cases hc
          · simp only [All]
            refine ⟨?_, ?_, ?_, ?_, ?_, ?_, trivial⟩
            · intro o ho a' w' hfr hdep hst
              obtain rfl := Option.some.inj ho
              have g3 : a'.tmps[3]?.getD undef = .pointer (some ⟨g1, 0, none⟩) := by have h := hfr 3 (by kernel_rfl); simpa using h
              clear ho hfr hdep hst
              go_wp2_with fail
              exact ⟨rfl, _, rfl, Below.refl _ _, rfl⟩
            · intro o ho a' w' hfr hdep hst
              obtain rfl := Option.some.inj ho
              have g147 : a'.tmps[147]?.getD undef = .pointer (some ⟨g1, 1 + 1, none⟩) := by have h := hdep 0 _ rfl (by kernel_rfl); simpa using h
              obtain ⟨j, _, _, hG⟩ := hst
              clear ho hfr hdep
              have hcl := (hG.box hBx).at_ (j := 2) rfl
              clear hG
              go_wp2_with fail
              exact ⟨rfl, _, rfl, Below.refl _ _, rfl⟩
            · intro o ho a' w' hfr hdep hst
              obtain rfl := Option.some.inj ho
              have g0 : a'.tmps[0]?.getD undef = .int .i64 n := by have h := hfr 0 (by kernel_rfl); simpa using h
              clear ho hfr hdep hst
              go_wp2_with fail
              exact ⟨rfl, _, rfl, Below.refl _ _, rfl⟩
            · intro o ho a' w' hfr hdep hst
              obtain rfl := Option.some.inj ho
              have g14 : a'.tmps[14]?.getD undef = .int .i64 (i : Int) := by have h := hfr 14 (by kernel_rfl); simpa using h
              clear ho hfr hdep hst
              go_wp2_with fail
              exact ⟨rfl, _, rfl, Below.refl _ _, rfl⟩
            · intro o ho a' w' hfr hdep hst
              obtain rfl := Option.some.inj ho
              have g149 : a'.tmps[149]?.getD undef = .int .i64 n := by have h := hdep 2 _ rfl (by kernel_rfl); simpa using h
              have g150 : a'.tmps[150]?.getD undef = .int .i64 (i : Int) := by have h := hdep 3 _ rfl (by kernel_rfl); simpa using h
              clear ho hfr hdep hst
              go_wp2_with fail
              refine (HCV.out _).mono ?_
              rintro e w2 ⟨rfl, hb2⟩
              go_wp2_with fail
              exact ⟨rfl, _, rfl, hb2, rfl⟩
            · intro o ho a' w' hfr hdep hst
              obtain rfl := Option.some.inj ho
              have g151 : a'.tmps[151]?.getD undef = .int .u8 (cv.toNat : Int) := by have h := hdep 4 _ rfl (by kernel_rfl); simpa using h
              obtain ⟨j, _, _, hG⟩ := hst
              clear ho hfr hdep
              have hsz := hG.size
              clear hG
              go_wp2_with fail
              exact ⟨rfl, _, rfl, blo _ _, _, rfl, hsz, Own.built w' 0 5 1 1 #[.int .u8 (cv.toNat : Int)] (Nat.zero_le _) rfl (by decide)⟩
          · intro g w7 hG hp
            obtain ⟨⟨a7, c7, p153, ho7⟩, gB, gG, _⟩ := hG
            clear hp
            simp at p153
            simp only [List.drop_succ_cons, List.drop_zero, List.map_cons, List.map_nil, putAll, Act.put, List.setIfInBounds_toArray, List.set_cons_succ, List.set_cons_zero, List.cons_append, List.nil_append, p153]
            clear p153
            have hln : 2 < ([v0, v1, .slice a i c, .slice none 0 0, .slice none 0 0, .slice none 0 0, .slice none 0 0] : List Value).length := by simp
            go_wp2_with (with_reducible refine store_cell 27 _ _ 29 g1 2 [v0, v1, .slice a i c, .slice none 0 0, .slice none 0 0, .slice none 0 0, .slice none 0 0] (.slice a7 (i + 1) c7) size_row gB rfl rfl rfl rfl hln ?_; intro w8 hx8 hg8 hs8)
            have ho8 := UB8 gB ho7 hg8
            have hgo8 := grown_trans gG hg8
            go_roundg (10 - (i + 1))
            case measure => have := HGI.out; omega
            case rel => exact ⟨i + 1, a7, c7, ds ++ [cv], by omega, rfl, by go_num, by rw [List.length_append, hdl]; rfl, HOK.out, hx8, ho8, hgo8⟩
        · obtain rfl : i = 10 := by omega
          have hT : TW w wr w.heap.size g1 w.heap.size v0 v1 [.slice a 10 c, .slice none 0 0, .slice none 0 0, .slice none 0 0, .slice none 0 0] [ds, [], [], [], []] := by
            refine ⟨hBx, hz5.grown hgo hg01, r0.kept hgo HX5.out, r1.kept hgo HX5.out, rfl, ?_, hb.grown hgo hb.size (fun q hq => by cases hq; exact hg1w)⟩
            intro j v l h1 h2
            rcases j with _ | _ | _ | _ | _ | j
            · cases h1; cases h2; exact ⟨a, 10, c, rfl, hOd.mono (Nat.zero_le _)⟩
            · cases h1; cases h2; exact UB.nil _
            · cases h1; cases h2; exact UB.nil _
            · cases h1; cases h2; exact UB.nil _
            · cases h1; cases h2; exact UB.nil _
            · cases h1
          have HDS := hide (And.intro hdl hok)
          obtain ⟨vs, hvs⟩ : ∃ vs : List Value, vs = [.slice a 10 c, .slice none 0 0, .slice none 0 0, .slice none 0 0, .slice none 0 0] := ⟨_, rfl⟩
          rw [← hvs] at hT
          clear hdl hok hBx hOd hgo r0 r1 hz5 hb hvs
          go_wp2_with fail
          refine (cell_ex n hn0 hn1 32 _ rfl (by decide) _).mono ?_
          rintro e wa ⟨x1, hx1, rfl, hba⟩
          have T1 := (hT.below hba (Nat.le_refl _)).below (blo wa (.cells #[.int .u8 (x1.toNat : Int)] 5)) (Nat.le_refl _)
          have hu : UB (wa.alloc (.cells #[.int .u8 (x1.toNat : Int)] 5)) (.slice (some ⟨wa.heap.size, 0, none⟩) 1 1) [x1] := UB.new wa [x1] 1 rfl (by decide)
          have hbx1 := T1.box
          have hln : 3 < (v0 :: v1 :: vs).length := by simp [T1.len]
          clear hT hba
          go_wp2_with (with_reducible refine store_cell 27 _ _ 29 g1 3 (v0 :: v1 :: vs) (.slice (some ⟨wa.heap.size, 0, none⟩) 1 1) size_row hbx1 rfl rfl rfl rfl hln ?_; intro wb hxb hgb hsb; refine hold ?_)
          refine hide ?_
          have T2 : TW w wb w.heap.size g1 w.heap.size v0 v1 _ [ds, [x1], [], [], []] := T1.store (j := 1) (l := [x1]) hgb hxb hu hg1w (Nat.le_refl _) hg01
          clear T1 hu hbx1 hln hxb hgb hsb
          generalize vs.set 1 _ = vs' at T2
          have hT := T2
          clear T2
          obtain ⟨vs, rfl⟩ : ∃ vs : List Value, vs = vs' := ⟨_, rfl⟩
          go_wp2_with fail
          refine (cell_ex n hn0 hn1 33 _ rfl (by decide) _).mono ?_
          rintro e wa ⟨x2, hx2, rfl, hba⟩
          have T1 := (hT.below hba (Nat.le_refl _)).below (blo wa (.cells #[.int .u8 (x2.toNat : Int)] 5)) (Nat.le_refl _)
          have hu : UB (wa.alloc (.cells #[.int .u8 (x2.toNat : Int)] 5)) (.slice (some ⟨wa.heap.size, 0, none⟩) 1 1) [x2] := UB.new wa [x2] 1 rfl (by decide)
          have hbx1 := T1.box
          have hln : 4 < (v0 :: v1 :: vs).length := by simp [T1.len]
          clear hT hba
          go_wp2_with (with_reducible refine store_cell 27 _ _ 29 g1 4 (v0 :: v1 :: vs) (.slice (some ⟨wa.heap.size, 0, none⟩) 1 1) size_row hbx1 rfl rfl rfl rfl hln ?_; intro wb hxb hgb hsb; refine hold ?_)
          refine hide ?_
          have T2 : TW w wb w.heap.size g1 w.heap.size v0 v1 _ [ds, [x1], [x2], [], []] := T1.store (j := 2) (l := [x2]) hgb hxb hu hg1w (Nat.le_refl _) hg01
          clear T1 hu hbx1 hln hxb hgb hsb
          generalize vs.set 2 _ = vs' at T2
          have hT := T2
          clear T2
          obtain ⟨vs, rfl⟩ : ∃ vs : List Value, vs = vs' := ⟨_, rfl⟩
          go_wp2_with fail
          refine (cell_ex n hn0 hn1 34 _ rfl (by decide) _).mono ?_
          rintro e wa ⟨x3, hx3, rfl, hba⟩
          have T1 := (hT.below hba (Nat.le_refl _)).below (blo wa (.cells #[.int .u8 (x3.toNat : Int)] 5)) (Nat.le_refl _)
          have hu : UB (wa.alloc (.cells #[.int .u8 (x3.toNat : Int)] 5)) (.slice (some ⟨wa.heap.size, 0, none⟩) 1 1) [x3] := UB.new wa [x3] 1 rfl (by decide)
          have hbx1 := T1.box
          have hln : 5 < (v0 :: v1 :: vs).length := by simp [T1.len]
          clear hT hba
          go_wp2_with (with_reducible refine store_cell 27 _ _ 29 g1 5 (v0 :: v1 :: vs) (.slice (some ⟨wa.heap.size, 0, none⟩) 1 1) size_row hbx1 rfl rfl rfl rfl hln ?_; intro wb hxb hgb hsb; refine hold ?_)
          refine hide ?_
          have T2 : TW w wb w.heap.size g1 w.heap.size v0 v1 _ [ds, [x1], [x2], [x3], []] := T1.store (j := 3) (l := [x3]) hgb hxb hu hg1w (Nat.le_refl _) hg01
          clear T1 hu hbx1 hln hxb hgb hsb
          generalize vs.set 3 _ = vs' at T2
          have hT := T2
          clear T2
          obtain ⟨vs, rfl⟩ : ∃ vs : List Value, vs = vs' := ⟨_, rfl⟩
          go_wp2_with fail
          refine (cell_ex n hn0 hn1 35 _ rfl (by decide) _).mono ?_
          rintro e wa ⟨x4, hx4, rfl, hba⟩
          have T1 := (hT.below hba (Nat.le_refl _)).below (blo wa (.cells #[.int .u8 (x4.toNat : Int)] 5)) (Nat.le_refl _)
          have hu : UB (wa.alloc (.cells #[.int .u8 (x4.toNat : Int)] 5)) (.slice (some ⟨wa.heap.size, 0, none⟩) 1 1) [x4] := UB.new wa [x4] 1 rfl (by decide)
          have hbx1 := T1.box
          have hln : 6 < (v0 :: v1 :: vs).length := by simp [T1.len]
          clear hT hba
          go_wp2_with (with_reducible refine store_cell 27 _ _ 29 g1 6 (v0 :: v1 :: vs) (.slice (some ⟨wa.heap.size, 0, none⟩) 1 1) size_row hbx1 rfl rfl rfl rfl hln ?_; intro wb hxb hgb hsb; refine hold ?_)
          refine hide ?_
          have T2 : TW w wb w.heap.size g1 w.heap.size v0 v1 _ [ds, [x1], [x2], [x3], [x4]] := T1.store (j := 4) (l := [x4]) hgb hxb hu hg1w (Nat.le_refl _) hg01
          clear T1 hu hbx1 hln hxb hgb hsb
          generalize vs.set 4 _ = vs' at T2
          have hT := T2
          clear T2
          obtain ⟨vs, rfl⟩ : ∃ vs : List Value, vs = vs' := ⟨_, rfl⟩
          go_wp2_with fail
          refine (around_ex 5 _ _ _ rfl (tdiv_in hn0 hn1 (by decide)) (by decide) (by decide)).mono ?_
          rintro e wc1 ⟨q, hq, rfl, rfl⟩
          go_upto_if 174 with fail
          go_cut [3] from 175 to 180 (fun p w' => p = .pointer (some ⟨g1, 0, none⟩) ∧ ∃ (vs : List Value) (s : List UInt8), indic s = true ∧ TW w w' w.heap.size g1 w.heap.size v0 v1 vs [ds, [x1], [x2], [x3], s])
          case first =>
            by_cases hq0 : q = 0
            · subst hq0
              go_wp2_with fail
              refine (cell_ex n hn0 hn1 35 _ rfl (by decide) _).mono ?_
              rintro e wa1 ⟨cA, hcA, rfl, hba1⟩
              go_wp2_with fail
              refine (cell_ex n hn0 hn1 34 _ rfl (by decide) _).mono ?_
              rintro e wa ⟨cB, hcB, rfl, hba2⟩
              have T1 := ((hT.below hba1 (Nat.le_refl _)).below hba2 (Nat.le_refl _)).below (blo wa (.cells #[.int .u8 (cA.toNat : Int), .int .u8 (cB.toNat : Int)] 5)) (Nat.le_refl _)
              have hu : UB (wa.alloc (.cells #[.int .u8 (cA.toNat : Int), .int .u8 (cB.toNat : Int)] 5)) (.slice (some ⟨wa.heap.size, 0, none⟩) 2 2) [cA, cB] := UB.new wa [cA, cB] 2 rfl (by decide)
              have hbx1 := T1.box
              have hln : 6 < (v0 :: v1 :: vs).length := by simp [T1.len]
              go_wp2_with (with_reducible refine store_cell 27 _ _ 29 g1 6 (v0 :: v1 :: vs) (.slice (some ⟨wa.heap.size, 0, none⟩) 2 2) size_row hbx1 rfl rfl rfl rfl hln ?_; intro wb hxb hgb hsb)
              go_meet
              exact ⟨rfl, _, [cA, cB], two_ok hcA hcB, T1.store (j := 4) (l := [cA, cB]) hgb hxb hu hg1w (Nat.le_refl _) hg01⟩
            · have dq : ((q : Int) == 0) = false := by simpa using hq0
              have dq2 : decide ((q : Int) = 0) = false := by simpa using hq0
              go_wp2_with fail
              go_meet
              exact ⟨rfl, vs, [x4], one_ok hx4, hT⟩
          case rest =>
            clear hT hq
            obtain ⟨rfl, vs, s, hs, hT⟩ := hcut
            obtain ⟨u2, u3, u4, u5, u6, rfl⟩ : ∃ u2 u3 u4 u5 u6, vs = [u2, u3, u4, u5, u6] := by
              have := hT.len
              match vs, this with
              | [u2, u3, u4, u5, u6], _ => exact ⟨_, _, _, _, _, rfl⟩
            have hOUT := hide hT.out
            have hBB := hide hT.bel
            obtain ⟨L0, L0', hW0, hO0, z0, y0, p0, rfl, hR0, hp0⟩ := hT.l0
            obtain ⟨L1, L1', hW1, hO1, z1, y1, p1, rfl, hR1, hp1⟩ := hT.l1
            obtain ⟨z2, n2, y2, rfl, ho2⟩ := hT.row 0 _ _ rfl rfl
            obtain ⟨z3, n3, y3, rfl, ho3⟩ := hT.row 1 _ _ rfl rfl
            obtain ⟨z4, n4, y4, rfl, ho4⟩ := hT.row 2 _ _ rfl rfl
            obtain ⟨z5, n5, y5, rfl, ho5⟩ := hT.row 3 _ _ rfl rfl
            obtain ⟨z6, n6, y6, rfl, ho6⟩ := hT.row 4 _ _ rfl rfl
            have hbx := hT.box
            have hone : ∀ u ∈ ([.slice z0 p0.length y0, .slice z1 p1.length y1, .slice z2 n2 y2, .slice z3 n3 y3, .slice z4 n4 y4, .slice z5 n5 y5, .slice z6 n6 y6] : List Value), u.oneCell' = true := by simp [Value.oneCell']
            have hgood : GoodTa ⟨L0', L1', ds, [x1], [x2], [x3], s⟩ := good_tables hW0 hW1 hO0 hO1 HDS.out.1 HDS.out.2 (one_ok hx1) (one_ok hx2) (one_ok hx3) hs
            have HGOOD := hide hgood
            have hH0 := hide hp0
            have hH1 := hide hp1
            clear hT hW0 hO0 hW1 hO1 hgood hs hp0 hp1
            have hout := hOUT.out
            go_wp2_with (first
              | (with_reducible refine load_struct 181 29 _ 7 size_tables _ Try.underlying29 ⟨g1, 0, none⟩ rfl [.slice z0 p0.length y0, .slice z1 p1.length y1, .slice z2 n2 y2, .slice z3 n3 y3, .slice z4 n4 y4, .slice z5 n5 y5, .slice z6 n6 y6] rfl (fun j u hj => by rw [Addr.add_lit, Nat.zero_add]; exact hbx.at_ hj) ?_)
              | (with_reducible refine store_all 29 _ _ 29 w.heap.size [.slice none 0 0, .slice none 0 0, .slice none 0 0, .slice none 0 0, .slice none 0 0, .slice none 0 0, .slice none 0 0] [.slice z0 p0.length y0, .slice z1 p1.length y1, .slice z2 n2 y2, .slice z3 n3 y3, .slice z4 n4 y4, .slice z5 n5 y5, .slice z6 n6 y6] _ (size7 _ _ _ _ _ _ _) hout rfl rfl rfl (Eq.refl 7) hone ?_; intro w12 hx12 hg12 hs12))
            have hbw12 := hBB.out.grown hg12 hBB.out.size (fun q hq => by cases hq; exact Nat.le_refl _)
            have hR0' := (hR0.kept hg12 hOUT.out (by decide) (by decide)).rul
            have hR1' := (hR1.kept hg12 hOUT.out (by decide) (by decide)).rul
            have ho2c := UB8 hOUT.out ho2 hg12
            have ho3c := UB8 hOUT.out ho3 hg12
            have ho4c := UB8 hOUT.out ho4 hg12
            have ho5c := UB8 hOUT.out ho5 hg12
            have ho6c := UB8 hOUT.out ho6 hg12
            refine bodyPost_ret (run_results_cell rfl rfl agg_tables (size7 _ _ _ _ _ _ _) hx12) rfl ⟨⟨(z0, p0.length, y0), (z1, p1.length, y1), p0, p1, (z2, n2, y2), (z3, n3, y3), (z4, n4, y4), (z5, n5, y5), (z6, n6, y6)⟩, _, rfl, ⟨hR0', hR1', hH0.out, hH1.out, ho2c.sl, ho3c.sl, ho4c.sl, ho5c.sl, ho6c.sl⟩, HGOOD.out, hbw12⟩
end Go.Proofs.Ytlpkicjijlcbfaa
end

/- the text B33 -/
section
/- Chapter 06: the characters that the reference makes of numbers. -/
namespace Go.Dx
open Go.RowKit
def theS : List UInt8 := [116, 104, 101, 114, 105, 110, 103, 97, 110, 100, 115, 116, 111, 117, 98, 99, 97, 102, 120]
def digS : List UInt8 := [48, 49, 50, 51, 52, 53, 54, 55, 56, 57]
def words7 : List ByteArray := [⟨#[116, 104, 101]⟩, ⟨#[97, 110, 100]⟩, ⟨#[105, 110, 103]⟩, ⟨#[116, 105, 111, 110]⟩, ⟨#[98, 117, 116]⟩, ⟨#[98, 101]⟩, ⟨#[115, 116]⟩]
def charF (n : Nat) : UInt8 :=
  if n / 12 = 12 ∨ n / 12 = 13 then digS.getD (n % 10) 0 else if n / 12 = 14 then marks6.getD (n % 6) 0 else if n / 12 = 15 ∨ n / 12 = 16 then 32
  else if n / 12 = 17 then theS.getD (n % 19) 0 - 32 else theS.getD (n % 19) 0
def plainC (c : UInt8) : Bool := isW c && (isL c || isD c || isM c)
theorem charF_plain : ∀ n, n < 240 → plainC (charF n) = true := by decide +kernel
theorem words7_plain : ∀ s ∈ words7, (chars s).all plainC = true := by decide +kernel
theorem plain_sy {g : Nat} (hg : g ≤ 1) {c : UInt8} (hc : plainC c = true) : plainSy ⟨(g : Int), c⟩ = true := by
  unfold plainC at hc
  unfold plainSy symOk
  simp only [Bool.and_eq_true] at hc ⊢
  refine ⟨⟨?_, hc.1⟩, hc.2⟩
  rcases g with _ | _ | g
  · rfl
  · rfl
  · omega
theorem words7_len : ∀ s ∈ words7, s.size ≤ 4 := by decide
/-- a word, as far as there is room -/
def outW (o : List Sy) (g : Nat) (w : List UInt8) : List Sy := o ++ (w.take (24 - o.length)).map fun c => ⟨(g : Int), c⟩
def langS (g n : Nat) : Nat := if n / 12 = 19 then 1 - g else g
def stepS (o : List Sy) (g n : Nat) : List Sy :=
  if n / 12 = 18 then outW (o ++ [⟨(langS g n : Int), charF n⟩]) (langS g n) (chars (words7.getD (n % 7) ⟨#[]⟩)) else o ++ [⟨(langS g n : Int), charF n⟩]
def symsS (f : Int → Nat) : List Int → List Sy → Nat → List Sy
  | [], o, _ => o
  | x :: xs, o, g => if o.length < 24 then symsS f xs (stepS o g (f x)) (langS g (f x)) else o
theorem langS_le {g n : Nat} (hg : g ≤ 1) : langS g n ≤ 1 := by unfold langS; split <;> omega
theorem outW_len {o : List Sy} {g : Nat} {w : List UInt8} (ho : o.length ≤ 24) : (outW o g w).length ≤ 24 := by
  unfold outW; rw [List.length_append, List.length_map, List.length_take]; omega
theorem stepS_len {o : List Sy} {g n : Nat} (ho : o.length < 24) : (stepS o g n).length ≤ 24 := by
  unfold stepS
  split
  · exact outW_len (by rw [List.length_append]; simp; omega)
  · rw [List.length_append]; simp; omega
theorem stepS_plain {o : List Sy} {g n : Nat} (hg : g ≤ 1) (hn : n < 240) (ho : ∀ x ∈ o, plainSy x = true) : ∀ x ∈ stepS o g n, plainSy x = true := by
  have h1 : ∀ x ∈ o ++ [(⟨(langS g n : Int), charF n⟩ : Sy)], plainSy x = true := by
    intro x hx
    rcases List.mem_append.1 hx with hx | hx
    · exact ho x hx
    · rw [List.mem_singleton] at hx; subst hx; exact plain_sy (langS_le hg) (charF_plain n hn)
  unfold stepS
  split
  · intro x hx
    unfold outW at hx
    rcases List.mem_append.1 hx with hx | hx
    · exact h1 x hx
    · obtain ⟨c, hc, rfl⟩ := List.mem_map.1 hx
      have hm : words7.getD (n % 7) ⟨#[]⟩ ∈ words7 := by
        have : n % 7 < words7.length := Nat.mod_lt _ (by decide)
        rw [List.getD_eq_getElem?_getD, List.getElem?_eq_getElem this]
        exact List.getElem_mem _
      have := words7_plain _ hm
      rw [List.all_eq_true] at this
      exact plain_sy (langS_le hg) (this c (List.mem_of_mem_take hc))
  · exact h1
theorem symsS_ok {f : Int → Nat} (hf : ∀ x, f x < 240) : ∀ (l : List Int) (o : List Sy) (g : Nat), g ≤ 1 → o.length ≤ 24 → (∀ x ∈ o, plainSy x = true) → (∀ x ∈ symsS f l o g, plainSy x = true) ∧ (symsS f l o g).length ≤ 24
  | [], o, g, _, h2, h3 => ⟨h3, h2⟩
  | x :: xs, o, g, h1, h2, h3 => by
    unfold symsS
    split
    · rename_i h
      exact symsS_ok hf xs _ _ (langS_le h1) (stepS_len h) (stepS_plain h1 (hf x) h3)
    · exact ⟨h3, h2⟩
theorem symsS_drop {f : Int → Nat} {l : List Int} {i : Nat} {x : Int} (hx : l[i]? = some x) {o : List Sy} {g : Nat} (ho : o.length < 24) : symsS f (l.drop i) o g = symsS f (l.drop (i + 1)) (stepS o g (f x)) (langS g (f x)) := by
  rw [List.drop_eq_getElem_cons (List.getElem?_eq_some_iff.1 hx).1, (List.getElem?_eq_some_iff.1 hx).2]
  show (if o.length < 24 then _ else _) = _
  rw [if_pos ho]
theorem symsS_full {f : Int → Nat} {l : List Int} {o : List Sy} {g : Nat} (ho : 24 ≤ o.length) : symsS f l o g = o := by
  cases l with
  | nil => rfl
  | cons x xs => show (if o.length < 24 then _ else _) = _; rw [if_neg (by omega)]
section ops
variable {P : Program} {w : World} {ops : Array Oper} {rest : List Oper} {act : Act} {Q : Exit → Act → World → Prop} {ty : TypeId} {pos : String} {after : Array Edge}
/-- 's[i]' of a text -/
theorem idx_str (d : Nat) (t : TypeId) (ht : P.underlying t = some .string) (x y : Operand) (s : ByteArray) (r : Nat) (c : UInt8) (hx : act.eval x = .string s) (hy : act.eval y = .int .i64 (r : Int)) (hc : (chars s)[r]? = some c)
    (hK : wpList P ops Q rest (act.put (some d) (.int .u8 (c.toNat : Int))) w) :
    wpList P ops Q ({ dst := some d, op := .index t x y, type := ty, pos := pos, after := after, guard := none } :: rest) act w := by
  have hr : r < s.size := by rw [size_chars]; exact (List.getElem?_eq_some_iff.1 hc).1
  have he : s[r]'hr = c := by
    have := chars_get hr
    rw [hc] at this
    exact (Option.some.inj this).symm
  refine val_at rfl (.int .u8 (c.toNat : Int)) ?_ hK
  have hrun := run_index_string (P := P) (w := w) t s .i64 (r : Int) ht
  simp [execOp, hx, hy, hrun, hr, he, Result.andThen]
end ops
end Go.Dx
end
