/- The contracts of the functions that the law reaches, joined into one text. -/
import Derived.Test.YtlpkicjijlcbfaaBaseCG
set_option linter.unusedVariables false
set_option linter.unusedSimpArgs false

section
/- Chapter 08: the reference's Translate. -/
namespace Go.Proofs.Ytlpkicjijlcbfaa
open Go.RowKit Go.Dx Go.Al
theorem RwM.ngX {ct tt ti : TypeId} {W W' : World} {B : Nat} {bs : List Nat} {A : Nums} {a3 : Option Addr} {c3 : Nat} (h : RwM W tt ti B bs A a3 c3) (hk : KeepsX ct W W') (h1 : tt ≠ ct) (h2 : ti ≠ ct) (h8 : R8 A) : Ng W' a3 bs.length c3 (bs.map fun b => ((some ⟨b, 0, none⟩ : Option Addr), 8, 8)) A := by
 refine ⟨?_, by rw [List.length_map, h.len], fun i x r hx hr => ?_⟩
 ·have h3 := Sl.keepX h.top.sl h.top.typ hk h1
  rw [List.map_map]
  exact h3
 ·rw [List.getElem?_map] at hx
  cases hb : bs[i]? with
  | none => rw [hb] at hx; cases hx
  | some b =>
   rw [hb] at hx
   injection hx with hx
   subst hx
   have h3 : Box W' b ti (rowc r) := hk _ _ _ _ (h.row i b r hb hr) h2
   have h4 := h8 r (List.mem_of_getElem? hr)
   exact ⟨by simp [h4], Nat.le_refl _, by unfold maxLen; show 8 ≤ _; decide, fun e => (by cases e), fun p hp j u hj => by
    injection hp with hp
    subst hp
    rw [Addr.add_lit, Nat.zero_add]
    exact h3.at_ hj⟩
theorem size_rcert : (Try.prog.info? 43).map (·.size) = some 3 := by kernel_rfl
theorem trCKA0 {t : Ta} {l : List Sy} (h : trE t l ≠ 0) : trC t l = [] ∧ trK t l = [] ∧ trA t l = [] := by
 unfold trC trK trA
 rw [if_neg h, if_neg h, if_neg h]
 exact ⟨rfl, rfl, rfl⟩
set_option maxRecDepth 100000 in
set_option maxHeartbeats 16000000 in
theorem ref8_Translate (H : TH) (t : Ta) (l : List Sy) (a : Option Addr) (n c : Nat) (w : World) (hT : TaIs w H t) (hs : Sl w 2 a n c (l.flatMap sc)) :
  Calls Try.prog 14 #[H.v, .slice a n c] w fun e w' => (∃ v, e = .returned (.tuple #[v, .int .i64 (trE t l)]) ∧ CeT 43 w' v (trC t l) (trK t l) (trA t l)) ∧ Below w.heap.size w w' := by
 have Hm := hide hT
 have Hs := hide hs
 clear hT hs
 obtain ⟨⟨a0, n0, c0⟩, ⟨a1, n1, c1⟩, ps0, ps1, ⟨ad, nd, cd⟩, ⟨ac, nc, cc⟩, ⟨an, nn, cn⟩, ⟨af, nf, cf⟩, ⟨aw, nw, cw⟩⟩ := H
 unfold TH.v
 simp only [hdv]
 have Y1 := (Box.new w 29 #[.slice a0 n0 c0, .slice a1 n1 c1, .slice ad nd cd, .slice ac nc cc, .slice an nn cn, .slice af nf cf, .slice aw nw cw]).alloc (.cells #[.slice none 0 0, .slice none 0 0, .slice none 0 0] 43)
 have Y2 := Box.new (w.alloc (.cells #[.slice a0 n0 c0, .slice a1 n1 c1, .slice ad nd cd, .slice ac nc cc, .slice an nn cn, .slice af nf cf, .slice aw nw cw] 29)) 43 #[.slice none 0 0, .slice none 0 0, .slice none 0 0]
 have hba := ((Below.refl w.heap.size w).alloc (Nat.le_refl _) (.cells #[.slice a0 n0 c0, .slice a1 n1 c1, .slice ad nd cd, .slice ac nc cc, .slice an nn cn, .slice af nf cf, .slice aw nw cw] 29)).alloc (by simp) (.cells #[.slice none 0 0, .slice none 0 0, .slice none 0 0] 43)
 simp only [World.size_alloc] at Y2
 go_enter Try.func14, Try.ntmps14
 go_upto_region 1 with fail
 generalize (w.alloc (.cells _ 29)).alloc (.cells _ 43) = w1 at *
 obtain ⟨H, hH⟩ : ∃ H : TH, H = ⟨(a0, n0, c0), (a1, n1, c1), ps0, ps1, (ad, nd, cd), (ac, nc, cc), (an, nn, cn), (af, nf, cf), (aw, nw, cw)⟩ := ⟨_, rfl⟩
 have HX1 : Box w1 w.heap.size 29 (tcells H) := by rw [hH]; exact Y1
 have HC1 : Box w1 (w.heap.size + 1) 43 [.slice none 0 0, .slice none 0 0, .slice none 0 0] := Y2
 have HT1 : TaIs w1 H t := by rw [hH]; exact Hm.out.below hba
 have HS1 := Hs.out.below hba
 clear hH Hm Hs Y1 Y2
 obtain ⟨gT, hgT⟩ : ∃ gT, Hid (w.heap.size = gT) := ⟨_, hide rfl⟩
 obtain ⟨gR, hgR⟩ : ∃ gR, Hid (w.heap.size + 1 = gR) := ⟨_, hide rfl⟩
 rw [hgR.out] at HC1 ⊢
 rw [hgT.out] at HX1 ⊢
 have hgwR : w.heap.size ≤ gR := by rw [← hgR.out]; omega
 have hfit := hide (ref8_Fits H t l a n c w1 HT1 HS1)
 obtain ⟨FE, hFE⟩ : ∃ FE, Hid (fitsE t l = FE) := ⟨_, hide rfl⟩
 rw [hFE.out] at hfit
 obtain ⟨TX, hTX⟩ : ∃ X, Hid (trE t l = X) := ⟨_, hide rfl⟩
 go_wp2_with (first
  | (with_reducible refine load_struct 14 29 _ 7 size_tables _ Try.underlying29 ⟨gT, 0, none⟩ rfl (tcells H) rfl (fun j u hj => by rw [Addr.add_lit, Nat.zero_add]; exact HX1.at_ hj) ?_)
  | (go_at_call 41; refine hfit.out.mono ?_; rintro e w2 ⟨rfl, hb2⟩; refine hold ?_))
 refine hide ?_
 have HC2 := HC1.under hb2
 have HX2 := HX1.under hb2
 have HT2 := HT1.below hb2
 have HS2 := HS1.below hb2
 have hbl2 := hba.trans (hb2.mono hba.size)
 clear HC1 HX1 HT1 HS1 hba hb2 hfit
 by_cases hfe : FE = 0
 ·subst hfe
  obtain ⟨hv, hg, h2048⟩ := fitsE_ok hFE.out
  have HV := hide hv
  have HG := hide hg
  have H2 := hide h2048
  have hnl : n = l.length := HS2.nf sc_len (by decide)
  have HNL := hide hnl
  have hn20 : n ≤ 2048 := by omega
  clear hv hg h2048 hnl
  have hnum := hide (ref8_Numbers H t l a n c w2 HT2 HS2 HV.out HG.out H2.out)
  go_upto_region 5 with (first
   | (with_reducible refine load_struct 21 29 _ 7 size_tables _ Try.underlying29 ⟨gT, 0, none⟩ rfl (tcells H) rfl (fun j u hj => by rw [Addr.add_lit, Nat.zero_add]; exact HX2.at_ hj) ?_)
   | (go_at_call 42; refine hnum.out.mono ?_; rintro e w3 ⟨bs, aA, cA, rfl, HM3, hb3⟩))
  have HC3 := HC2.under hb3
  have HX3 := HX2.under hb3
  have HT3 := HT2.below hb3
  have HS3 := HS2.below hb3
  have hbl3 := hbl2.trans (hb3.mono hbl2.size)
  have hbsl : bs.length = n + 1 := by rw [HM3.len, numT_len, HNL.out]
  have hng3 := HM3.ng (sufT_rows t l _)
  rw [hbsl] at hng3
  clear HC2 HX2 HT2 HS2 hbl2 hb3 hnum
  obtain ⟨NV, hNV⟩ : ∃ NV, Hid (numV t l = NV) := ⟨_, hide rfl⟩
  obtain ⟨r0, hr0⟩ : ∃ r, (numT t l)[0]? = some r := ⟨_, List.getElem?_eq_getElem (by rw [numT_len]; omega)⟩
  have hr08 := sufT_rows t l l.length r0 (List.mem_of_getElem? hr0)
  obtain ⟨b0, hb0⟩ : ∃ b, bs[0]? = some b := ⟨_, List.getElem?_eq_getElem (by omega)⟩
  have hbox0 := HM3.row 0 b0 r0 hb0 hr0
  have hu0 : ((bs.map fun b => ((some ⟨b, 0, none⟩ : Option Addr), 8, 8)).map hdv)[0]? = some (.slice (some ⟨b0, 0, none⟩) 8 8) := by rw [List.map_map, List.getElem?_map, hb0]; rfl
  have hc0 : w3.cell? ⟨b0, 0, none⟩ = some (.int .i64 NV) := hbox0.at_ (by
   have h1 : (rowc r0)[0]? = some (I64 (numV t l)) := by
    have h := num_cell0 t l
    have h2 := nf_get (numT t l) (sufT_rows t l _) hr0 (n := 0) (v := r0[0]'(by omega)) (List.getElem?_eq_getElem _)
    rw [Nat.zero_mul, Nat.zero_add] at h2
    rw [h2] at h
    injection h with h
    unfold rowc
    rw [List.getElem?_map, List.getElem?_eq_getElem (by omega : 0 < r0.length)]
    exact congrArg some h
   rw [hNV.out] at h1
   exact h1)
  have htop := hng3.top
  clear hbox0 hr0 hb0 hr08
  by_cases hnv : NV < 0
  ·have d1 : decide (NV < 0) = true := decide_eq_true hnv
   have e1 : TX = 6 := by rw [← hTX.out]; unfold trE; rw [hFE.out, if_neg (by simp), hNV.out, if_pos hnv]
   subst e1
   go_wp2_with (first
    | (with_reducible refine idx_ii 25 _ _ aA (n + 1) cA _ rfl htop _ _ 0 rfl rfl _ hu0 ?_; intro bI oI hcI hbI)
    | (with_reducible refine index_known 27 22 _ _ 3 Try.underlying22 size_int b0 8 8 rfl _ _ 0 rfl rfl (by decide) ?_)
    | (with_reducible refine hold_store ?_))
   refine hide ?_
   refine store_all 43 _ _ 43 gR [.slice none 0 0, .slice none 0 0, .slice none 0 0] [.slice none 0 0, .slice none 0 0, .slice none 0 0] _ size_rcert HC3 rfl rfl rfl rfl (by simp [Value.oneCell']) ?_; intro w4 HC4 gb4 zb4
   go_wp2_with fail
   refine bodyPost_ret (res_cell2 (u := 5) rfl _ _ gR _ _ _ _ rfl HC4 Try.underlying43 rfl (by rw [size_rcert]; rfl)) rfl ⟨⟨_, by rw [hTX.out]; rfl, by obtain ⟨k1, k2, k3⟩ := trCKA0 (t := t) (l := l) (by rw [hTX.out]; decide); rw [k1, k2, k3]; exact CeT.nil _ _⟩, hbl3.grown gb4 hbl3.size (fun q hq => by cases hq; exact hgwR)⟩
  ·have d1 : decide (NV < 0) = false := decide_eq_false hnv
   have e1 : TX = 0 := by rw [← hTX.out]; unfold trE; rw [hFE.out, if_neg (by simp), hNV.out, if_neg hnv]
   subst e1
   have hcE : Hid (trC t l = cellsP (pathT t l)) := hide (by unfold trC; rw [if_pos hTX.out])
   have hkE : Hid (trK t l = takenP (pathT t l)) := hide (by unfold trK; rw [if_pos hTX.out])
   have hAE : Hid (trA t l = numT t l) := hide (by unfold trA; rw [if_pos hTX.out])
   go_upto_region 7 with (first
    | (with_reducible refine idx_ii 25 _ _ aA (n + 1) cA _ rfl htop _ _ 0 rfl rfl _ hu0 ?_; intro bI oI hcI hbI)
    | (with_reducible refine index_known 27 22 _ _ 3 Try.underlying22 size_int b0 8 8 rfl _ _ 0 rfl rfl (by decide) ?_))
   clear hcI hbI htop hu0 hc0
   obtain ⟨S, hS⟩ : ∃ S, Hid (w3.heap.size = S) := ⟨_, hide rfl⟩
   have hC5 := (Box.new w3 43 #[.slice none 0 0, .slice none 0 0, .slice aA (n + 1) cA]).alloc (.cells #[.int .i64 0, .bool false, .bool false] 70)
   have hZ5 := Box.new (w3.alloc (.cells #[.slice none 0 0, .slice none 0 0, .slice aA (n + 1) cA] 43)) 70 #[.int .i64 0, .bool false, .bool false]
   have hb5 := ((Below.refl w3.heap.size w3).alloc (Nat.le_refl _) (.cells #[.slice none 0 0, .slice none 0 0, .slice aA (n + 1) cA] 43)).alloc (by simp) (.cells #[.int .i64 0, .bool false, .bool false] 70)
   have hs5 : ((w3.alloc (.cells #[.slice none 0 0, .slice none 0 0, .slice aA (n + 1) cA] 43)).alloc (.cells #[.int .i64 0, .bool false, .bool false] 70)).heap.size = w3.heap.size + 1 + 1 := by simp
   simp only [World.size_alloc] at hZ5
   go_upto_region 9 with fail
   generalize (w3.alloc (.cells _ 43)).alloc (.cells _ 70) = w5 at *
   obtain ⟨gZ, hgZ⟩ : ∃ g, Hid (w3.heap.size + 1 = g) := ⟨_, hide rfl⟩
   rw [hgZ.out] at hZ5 hs5 ⊢
   rw [hS.out] at hC5 hb5 ⊢
   have hSZ : gZ = S + 1 := by rw [← hgZ.out, hS.out]
   have hS5 : gZ + 1 ≤ w5.heap.size := by omega
   have hgTS : gT < S := by rw [← hS.out]; exact HX3.lt
   have hgRS : gR < S := by rw [← hS.out]; exact HC3.lt
   have hv0 : 0 ≤ valA (numT t l) 0 s00 := by have h := hNV.out; unfold numV at h; rw [h]; omega
   have hSl : S < gZ := by omega
   clear hs5 hSZ
   go_wp2_with fail
   go_loopg [10] (measP l 0 s00) (fun gh v10 w' => ∃ (i : Nat) (s : St) (o1 o2 : Option Addr) (k1 k2 x1 x2 : Nat) (pre : List (Stp × Int)) (f : Nat), gh = measP l i s ∧ v10 = .int .i64 (i : Int) ∧ i ≤ n ∧ (s.lang = 0 ∨ s.lang = 1) ∧ Box w' S 43 [.slice o1 k1 x1, .slice o2 k2 x2, .slice aA (n + 1) cA] ∧ Box w' gZ 70 (scells s) ∧ Go.Dx.Own w' (gZ + 1) 5 1 o1 k1 x1 ((cellsP pre).map B8) ∧ Go.Dx.Own w' (gZ + 1) 3 1 o2 k2 x2 ((takenP pre).map I64) ∧ Below S w3 w' ∧ gZ + 1 ≤ w'.heap.size ∧ k1 + 12 * measP l i s ≤ 12 * (2 * n + 1) ∧ k2 + measP l i s ≤ 2 * n + 1 ∧ measP l i s ≤ f ∧ 0 ≤ valA (numT t l) i s ∧ pathT t l = pre ++ goP t l (numT t l) f i s)
   case atStart => exact ⟨0, s00, none, none, 0, 0, 0, 0, [], 2 * l.length + 1, rfl, rfl, Nat.zero_le _, .inl rfl, hC5, hZ5, Go.Dx.Own.nil _ _ _ _, Go.Dx.Own.nil _ _ _ _, hb5, hS5, by have := meas_le (l := l) (i := 0) (s := s00); have := HNL.out; omega, by have := meas_le (l := l) (i := 0) (s := s00); have := HNL.out; omega, by have := meas_le (l := l) (i := 0) (s := s00); omega, hv0, rfl⟩
   case round =>
    clear hC5 hZ5 hb5 hS5 hv0
    obtain ⟨i, s, o1, o2, k1, k2, x1, x2, pre, f, hgh, rfl, hi, hsl, hC, hZ, hO1, hO2, hb, hSw, hm1, hm2, hf, hval, hpath⟩ := hrel
    have HGH := hide hgh
    have HM1 := hide hm1
    have HM2 := hide hm2
    have HF := hide hf
    have HVL := hide hval
    have HPT := hide hpath
    clear hgh hm1 hm2 hf hval hpath
    have hb' : Below w3.heap.size w3 wr := by rw [hS.out]; exact hb
    by_cases hin : i < n
    ·have d2 : decide ((i : Int) < (n : Int)) = true := decide_eq_true (by omega)
     have hinl : i < l.length := by have := HNL.out; omega
     have HXr : Box wr gT 29 (tcells H) := HX3.below hb hgTS
     have HTr := HT3.below hb'
     have HSr := HS3.below hb'
     have hngr := hng3.below hb'
     obtain ⟨L, hL⟩ : ∃ L, Hid (stepsL t s l i = L) := ⟨_, hide rfl⟩
     have hbest := hide (ref8_best H t l a n c s (numT t l) _ aA (n + 1) cA i wr HTr HSr hngr hinl HV.out HG.out H2.out hsl (numT_len t l) (sufT_rows t l _) (bd_num t l HV.out H2.out))
     obtain ⟨x, h0, hx1, hx2, hx3⟩ := best_step HV.out HG.out hinl hsl HVL.out
     rw [hL.out] at hbest hx1 h0
     obtain ⟨⟨LI, LV⟩, hLI⟩ : ∃ q : Int × Int, Hid (leastF (lookA (numT t l) i) L = q) := ⟨_, hide rfl⟩
     rw [hLI.out] at hbest hx1 h0
     simp only at hx1 h0
     obtain ⟨k, hk⟩ : ∃ k : Nat, LI = (k : Int) := ⟨LI.toNat, by omega⟩
     subst hk
     simp only [Int.toNat_natCast] at hx1
     go_upto_region 12 with (first
      | (with_reducible refine load_struct 38 29 _ 7 size_tables _ Try.underlying29 ⟨gT, 0, none⟩ rfl (tcells H) rfl (fun j u hj => by rw [Addr.add_lit, Nat.zero_add]; exact HXr.at_ hj) ?_)
      | (with_reducible refine load_struct 41 70 _ 3 size_rst _ Try.underlying70 ⟨gZ, 0, none⟩ rfl (scells s) rfl (fun j u hj => by rw [Addr.add_lit, Nat.zero_add]; exact hZ.at_ hj) ?_)
      | (go_at_call 43; refine hbest.out.mono ?_; rintro e w6 ⟨rfl, hb6⟩))
     have hC6 := hC.under hb6
     have hZ6 := hZ.under hb6
     have hO16 := hO1.below hb6
     have hO26 := hO2.below hb6
     have hb36 := hb.trans (hb6.mono (by omega))
     have hS6 : gZ + 1 ≤ w6.heap.size := Nat.le_trans hSw hb6.size
     have HX6 := HXr.under hb6
     have HT6 := HTr.below hb6
     have HS6 := HSr.below hb6
     clear HXr HTr HSr hngr hC hZ hO1 hO2 hb hSw hb6 hb' hbest
     have hstp := hide (rsteps_of8 H t s l (i : Int) hL.out a n c (by have := H2.out; omega) w6 HT6 HS6)
     obtain ⟨LN, hLN⟩ : ∃ LN, L.length = LN := ⟨_, rfl⟩
     rw [hLN] at hstp
     have HLN := hide hLN
     have hkLN : k < LN := by rw [← hLN]; exact (List.getElem?_eq_some_iff.1 hx1).1
     have hLN6 : LN ≤ 1000000 := by rw [← hLN, ← hL.out]; exact steps_few HV.out s l i
     have hxm : x ∈ stepsL t s l i := by rw [hL.out]; exact List.mem_of_getElem? hx1
     have hst := step_meas HV.out HG.out hinl hsl hxm
     have hcf := step_cells HV.out hxm
     have HX23 := hide (And.intro hx2 hx3)
     have HX1' := hide hx1
     clear hLN hxm hx2 hx3
     go_wp2_with (first
      | (with_reducible refine load_struct 46 29 _ 7 size_tables _ Try.underlying29 ⟨gT, 0, none⟩ rfl (tcells H) rfl (fun j u hj => by rw [Addr.add_lit, Nat.zero_add]; exact HX6.at_ hj) ?_)
      | (with_reducible refine load_struct 47 70 _ 3 size_rst _ Try.underlying70 ⟨gZ, 0, none⟩ rfl (scells s) rfl (fun j u hj => by rw [Addr.add_lit, Nat.zero_add]; exact hZ6.at_ hj) ?_)
      | (go_at_call 44; refine hstp.out.mono ?_; rintro e w7 ⟨a2, c2, ps2, rfl, hS7, hb7⟩; refine hold ?_))
     refine hide ?_
     have hC7 := hC6.under hb7
     have hZ7 := hZ6.under hb7
     have hO17 := hO16.below hb7
     have hO27 := hO26.below hb7
     have hb37 := hb36.trans (hb7.mono (by omega))
     have hSz7 : gZ + 1 ≤ w7.heap.size := Nat.le_trans hS6 hb7.size
     clear hC6 hZ6 hO16 hO26 hb36 hS6 HX6 HT6 HS6 hb7 hstp
     obtain ⟨p, hpk, hpx⟩ : ∃ p, ps2[k]? = some p ∧ p.1 = x := by
      have h1 := hx1
      rw [← hS7.eq, List.getElem?_map] at h1
      cases h2 : ps2[k]? with
      | none => rw [h2] at h1; cases h1
      | some p => rw [h2] at h1; injection h1 with h1; exact ⟨p, rfl, h1⟩
     obtain ⟨b4, o4, hab, hb4', z0, z1, z2, z3, z4, z5⟩ := st_cells hS7 hpk
     subst hab
     have hslc := hS7.row p (List.mem_of_getElem? hpk)
     have hpn := hslc.n_eq
     obtain ⟨⟨⟨sl, sn, si⟩, lnn, cs, ru⟩, ⟨qa, qn, qc⟩⟩ := p
     simp only at z0 z1 z2 z3 z4 z5 hslc hpn hpx
     subst hpx
     simp only at hst hcf
     obtain ⟨lk, rfl⟩ : ∃ lk : Nat, lnn = (lk : Int) := ⟨lnn.toNat, by have := hst.2.2.2; omega⟩
     simp only [Int.toNat_natCast] at hst
     have hil : i + lk ≤ n := by have := HNL.out; omega
     have hqn12 : qn ≤ 12 := by omega
     have hk16 : k1 ≤ 50000 := by have := HM1.out; omega
     have hk26 : k2 ≤ 50000 := by have := HM2.out; omega
     have HPN := hide hpn
     have HST := hide hst
     have hldc : ∀ j u, ([.int .i64 sl, .bool sn, .bool si, .int .i64 (lk : Int), .slice qa qn qc, .int .i64 ru] : List Value)[j]? = some u → w7.cell? ((⟨b4, o4 + k * 6, none⟩ : Addr).add j) = some u := fun j u hj => by
      rw [Addr.add_lit]
      match j, hj with
      | 0, hj => cases hj; exact z0
      | 1, hj => cases hj; exact z1
      | 2, hj => cases hj; exact z2
      | 3, hj => cases hj; exact z3
      | 4, hj => cases hj; exact z4
      | 5, hj => cases hj; exact z5
      | j + 6, hj => cases hj
     have HLD := hide hldc
     have HP8 := Box.new w7 103 #[.int .i64 sl, .bool sn, .bool si, .int .i64 (lk : Int), .slice qa qn qc, .int .i64 ru]
     have hb78 := blo w7 (.cells #[.int .i64 sl, .bool sn, .bool si, .int .i64 (lk : Int), .slice qa qn qc, .int .i64 ru] 103)
     clear hldc z0 z1 z2 z3 z4 z5 hpk hpn hst hcf hS7 hx1 h0
     go_upto_region 13 with (first
      | (with_reducible refine index_rowk 52 104 _ _ 103 Try.underlying104 6 size_rf6 b4 o4 LN c2 rfl _ _ k rfl rfl hkLN ?_)
      | (with_reducible refine load_struct 53 103 _ 6 size_rf6 _ Try.underlying103 ⟨b4, o4 + k * 6, none⟩ rfl [.int .i64 sl, .bool sn, .bool si, .int .i64 (lk : Int), .slice qa qn qc, .int .i64 ru] rfl HLD.out ?_)
      | (with_reducible refine store_fresh 103 103 _ _ 6 size_rf6 _ rfl (.agg #[.int .i64 sl, .bool sn, .bool si, .int .i64 (lk : Int), .slice qa qn qc, .int .i64 ru]) [.int .i64 sl, .bool sn, .bool si, .int .i64 (lk : Int), .slice qa qn qc, .int .i64 ru] rfl rfl rfl rfl (by simp [Value.oneCell']) ?_))
     generalize w7.alloc (.cells _ 103) = w8 at *
     obtain ⟨gP, hgP⟩ : ∃ g, Hid (w7.heap.size = g) := ⟨_, hide rfl⟩
     rw [hgP.out] at HP8 ⊢
     have HP8 : Box w8 gP 103 [.int .i64 sl, .bool sn, .bool si, .int .i64 (lk : Int), .slice qa qn qc, .int .i64 ru] := HP8
     have hC8 := hC7.under hb78
     have hZ8 := hZ7.under hb78
     have hO18 := hO17.below hb78
     have hO28 := hO27.below hb78
     have hsl8 := hslc.below hb78
     have hb38 := hb37.trans (hb78.mono (by omega))
     have hS8 : gZ + 1 ≤ w8.heap.size := Nat.le_trans hSz7 hb78.size
     have hgP8 : gZ + 1 ≤ gP := by rw [← hgP.out]; exact hSz7
     have cC0 : w8.cell? ⟨S, 0, none⟩ = some (.slice o1 k1 x1) := hC8.at_ rfl
     have cP4 : w8.cell? ⟨gP, 4, none⟩ = some (.slice qa qn qc) := HP8.at_ rfl
     clear hC7 hZ7 hO17 hO27 hslc hb37 hSz7 hb78 HLD
     go_wp2_with (first
      | (at_builtin; refine app_bs rfl _ _ rfl w8 (gZ + 1) o1 k1 x1 _ rfl hO18 qa qn qc cs rfl hsl8 (by omega) hS8 (Below.refl _ _) ?_; intro o1' x1' w9 hO19 gb9 hb9; refine hold ?_))
     refine hide ?_
     have hC9 := hC8.grown gb9 (own_lt hO18 (by omega))
     have hZ9 := hZ8.grown gb9 (own_lt hO18 (by omega))
     have hP9 := HP8.grown gb9 (own_box hO18 HP8 (by decide))
     have hO29 := hO28.kept gb9 (fun p hp => by subst hp; exact far_map hO28 hO18 (by decide))
     have hb39 := hb38.grown gb9 (by omega) (fun q hq => by have := own_ge hO18 q hq; omega)
     have hS9 : gZ + 1 ≤ w9.heap.size := Nat.le_trans hS8 gb9.size
     clear hC8 hZ8 HP8 hO18 hO28 hsl8 hb38 hS8 cC0 cP4 gb9 hb9
     go_wp2_with (with_reducible refine hold_store ?_)
     refine hide ?_
     refine store_cell 27 _ _ 43 S 0 _ (.slice o1' (k1 + qn) x1') size_row hC9 rfl rfl rfl rfl (by simp) ?_; intro w10 hC10 gb10 zb10
     have hC10 : Box w10 S 43 [.slice o1' (k1 + qn) x1', .slice o2 k2 x2, .slice aA (n + 1) cA] := hC10
     have hZ10 := hZ9.grown gb10 (by intro e; injection e with e; omega)
     have hP10 := hP9.grown gb10 (by intro e; injection e with e; omega)
     have hO110 := hO19.keptK gb10 (by omega)
     have hO210 := hO29.keptK gb10 (by omega)
     have hb310 := hb39.grown gb10 (by omega) (fun q hq => by cases hq; exact Nat.le_refl _)
     have hS10 : gZ + 1 ≤ w10.heap.size := Nat.le_trans hS9 gb10.size
     have cC1 : w10.cell? ⟨S, 1, none⟩ = some (.slice o2 k2 x2) := hC10.at_ rfl
     clear hC9 hZ9 hP9 hO19 hO29 hb39 hS9 gb10 zb10
     go_wp2_with (first
      | (at_builtin; refine app_i rfl _ _ rfl w10 (gZ + 1) o2 k2 x2 _ rfl hO210 (k : Int) rfl (by omega) hS10 (Below.refl _ _) ?_; intro o2' x2' w11 hO211 gb11 hb11; refine hold ?_))
     refine hide ?_
     have hC11 := hC10.grown gb11 (own_lt hO210 (by omega))
     have hZ11 := hZ10.grown gb11 (own_lt hO210 (by omega))
     have hP11 := hP10.grown gb11 (own_box hO210 hP10 (by decide))
     have hO111 := hO110.kept gb11 (fun p hp => by subst hp; exact far_map hO110 hO210 (by decide))
     have hb311 := hb310.grown gb11 (by omega) (fun q hq => by have := own_ge hO210 q hq; omega)
     have hS11 : gZ + 1 ≤ w11.heap.size := Nat.le_trans hS10 gb11.size
     clear hC10 hZ10 hP10 hO110 hO210 hb310 hS10 cC1 gb11 hb11
     go_wp2_with (with_reducible refine hold_store ?_)
     refine hide ?_
     refine store_cell 22 _ _ 43 S 1 _ (.slice o2' (k2 + 1) x2') size_hd hC11 rfl rfl rfl rfl (by simp) ?_; intro w12 hC12 gb12 zb12
     have hC12 : Box w12 S 43 [.slice o1' (k1 + qn) x1', .slice o2' (k2 + 1) x2', .slice aA (n + 1) cA] := hC12
     have hZ12 := hZ11.grown gb12 (by intro e; injection e with e; omega)
     have hP12 := hP11.grown gb12 (by intro e; injection e with e; omega)
     have hO112 := hO111.keptK gb12 (by omega)
     have hO212 := hO211.keptK gb12 (by omega)
     have hb312 := hb311.grown gb12 (by omega) (fun q hq => by cases hq; exact Nat.le_refl _)
     have hS12 : gZ + 1 ≤ w12.heap.size := Nat.le_trans hS11 gb12.size
     have cP3 : w12.cell? ⟨gP, 3, none⟩ = some (.int .i64 (lk : Int)) := hP12.at_ rfl
     have hldS : ∀ j u, ([.int .i64 sl, .bool sn, .bool si] : List Value)[j]? = some u → w12.cell? ((⟨gP, 0, none⟩ : Addr).add j) = some u := fun j u hj => by
      rw [Addr.add_lit, Nat.zero_add]
      match j, hj with
      | 0, hj => cases hj; exact hP12.at_ rfl
      | 1, hj => cases hj; exact hP12.at_ rfl
      | 2, hj => cases hj; exact hP12.at_ rfl
      | j + 3, hj => cases hj
     have HLS := hide hldS
     clear hldS hC11 hZ11 hP11 hO111 hO211 hb311 hS11 gb12 zb12
     go_wp2_with (first
      | (with_reducible refine load_struct 71 70 _ 3 size_rst _ Try.underlying70 ⟨gP, 0, none⟩ rfl [.int .i64 sl, .bool sn, .bool si] rfl HLS.out ?_)
      | (with_reducible refine hold_store ?_))
     refine hide ?_
     refine store_all 70 _ _ 70 gZ (scells s) [.int .i64 sl, .bool sn, .bool si] (.agg #[.int .i64 sl, .bool sn, .bool si]) size_rst hZ12 rfl rfl rfl rfl (by simp [Value.oneCell']) ?_; intro w13 hZ13 gb13 zb13
     have hC13 := hC12.grown gb13 (by intro e; injection e with e; omega)
     have hO113 := hO112.keptK gb13 (Nat.lt_succ_self _)
     have hO213 := hO212.keptK gb13 (Nat.lt_succ_self _)
     have hb313 := hb312.grown gb13 (by omega) (fun q hq => by cases hq; omega)
     have hS13 : gZ + 1 ≤ w13.heap.size := Nat.le_trans hS12 gb13.size
     obtain ⟨f', rfl⟩ : ∃ f', f = f' + 1 := ⟨f - 1, by have h1 := meas_pos (l := l) (i := i) (s := s) hinl; have h2 := HF.out; omega⟩
     have hgo : goP t l (numT t l) (f' + 1) i s = (⟨⟨sl, sn, si⟩, (lk : Int), cs, ru⟩, (k : Int)) :: goP t l (numT t l) f' (i + lk) ⟨sl, sn, si⟩ := by
      have h1 := goP_step (t := t) (l := l) (A := numT t l) (f := f') (i := i) (s := s) (x := ⟨⟨sl, sn, si⟩, (lk : Int), cs, ru⟩) hinl (by rw [hL.out, hLI.out]; exact HX1'.out)
      rw [hL.out, hLI.out] at h1
      simpa using h1
     have HGO := hide hgo
     clear hC12 hZ12 hP12 hO112 hO212 hb312 hS12 cP3 HLS gb13 zb13 hgo
     go_wp2_with fail
     go_roundg (measP l (i + lk) ⟨sl, sn, si⟩)
     case measure => have := HGH.out; have := HST.out; omega
     case rel => exact ⟨i + lk, ⟨sl, sn, si⟩, o1', o2', k1 + qn, k2 + 1, x1', x2', pre ++ [(⟨⟨sl, sn, si⟩, (lk : Int), cs, ru⟩, (k : Int))], f', rfl, by go_num, hil, HST.out.2.2.1, hC13, hZ13, by unfold cellsP; rw [List.flatMap_append, List.map_append]; simpa [cellsP] using hO113, by unfold takenP; rw [List.map_append, List.map_append]; simpa [takenP] using hO213, hb313, hS13, by have := HST.out; have := HM1.out; omega, by have := HST.out; have := HM2.out; omega, by have := HST.out; have := HF.out; omega, by have h := HX23.out.2; simpa using h, by rw [HPT.out, HGO.out, List.append_assoc]; rfl⟩
    ·have d2 : decide ((i : Int) < (n : Int)) = false := decide_eq_false (by omega)
     have e1 := HPT.out
     rw [goP_end (by have := HNL.out; omega), List.append_nil] at e1
     have HE1 := hide e1
     have HRr : Box wr gR 43 [.slice none 0 0, .slice none 0 0, .slice none 0 0] := HC3.below hb hgRS
     have hbl := hbl3.trans (hb.mono (by rw [← hS.out]; exact hbl3.size))
     clear e1 HPT HVL
     go_wp2_with (first
      | (with_reducible refine load_struct 72 43 _ 3 size_rcert _ Try.underlying43 ⟨S, 0, none⟩ rfl [.slice o1 k1 x1, .slice o2 k2 x2, .slice aA (n + 1) cA] rfl (fun j u hj => by rw [Addr.add_lit, Nat.zero_add]; exact hC.at_ hj) ?_)
      | (with_reducible refine hold_store ?_))
     refine hide ?_
     refine store_all 43 _ _ 43 gR [.slice none 0 0, .slice none 0 0, .slice none 0 0] [.slice o1 k1 x1, .slice o2 k2 x2, .slice aA (n + 1) cA] _ size_rcert HRr rfl rfl rfl rfl (by simp [Value.oneCell']) ?_; intro w9 HC9 gb9 zb9
     go_wp2_with fail
     have hM9 : RwM w3 22 3 w2.heap.size bs (numT t l) aA cA := HM3
     refine bodyPost_ret (res_cell2 (u := 5) rfl _ _ gR _ _ _ _ rfl HC9 Try.underlying43 rfl (by rw [size_rcert]; rfl)) rfl ⟨⟨_, by rw [hTX.out]; rfl, fun wk hk => ⟨o1, k1, x1, o2, k2, x2, aA, n + 1, cA, bs.map fun b => ((some ⟨b, 0, none⟩ : Option Addr), 8, 8), rfl, ?_, ?_, ?_⟩⟩, hbl.grown gb9 hbl.size (fun q hq => by cases hq; exact hgwR)⟩
     ·have o := hO1.keptK gb9 (by omega)
      rw [hcE.out, HE1.out]
      exact Sl.keepX o.sl o.typ hk (by decide)
     ·have o := hO2.keptK gb9 (by omega)
      rw [hkE.out, HE1.out]
      exact Sl.keepX o.sl o.typ hk (by decide)
     ·have k3 : KeepsX 43 w3 w9 := (KeepsX.of hb').trans (KeepsX.put HRr gb9)
      have h := hM9.ngX (k3.trans hk) (by decide) (by decide) (sufT_rows t l _)
      rw [hbsl] at h
      rw [hAE.out]
      exact h
 ·have d1 : (FE == 0) = false := by simp [hfe]
  have e1 : TX = FE := by rw [← hTX.out]; unfold trE; rw [hFE.out, if_pos hfe]
  subst e1
  have hfx := hide hfe
  go_wp2_with (with_reducible refine hold_store ?_)
  refine hide ?_
  refine store_all 43 _ _ 43 gR [.slice none 0 0, .slice none 0 0, .slice none 0 0] [.slice none 0 0, .slice none 0 0, .slice none 0 0] _ size_rcert HC2 rfl rfl rfl rfl (by simp [Value.oneCell']) ?_; intro w4 HC4 gb4 zb4
  go_wp2_with fail
  refine bodyPost_ret (res_cell2 (u := 5) rfl _ _ gR _ _ _ _ rfl HC4 Try.underlying43 rfl (by rw [size_rcert]; rfl)) rfl ⟨⟨_, by rw [hTX.out]; rfl, by obtain ⟨k1, k2, k3⟩ := trCKA0 (t := t) (l := l) (by rw [hTX.out]; exact hfx.out); rw [k1, k2, k3]; exact CeT.nil _ _⟩, hbl2.grown gb4 hbl2.size (fun q hq => by cases hq; exact hgwR)⟩
end Go.Proofs.Ytlpkicjijlcbfaa
end

section
/- Chapter 08: the law's texts; what the example answers. -/
namespace Go.Dx
open Go.RowKit
theorem ex_fits : fitsE exD handL = 0 := by decide +kernel
theorem ex_tr : trE exD handL = 0 := by decide +kernel
theorem ex_cells : cellsP (pathT exD handL) = [8, 28] := exD_path
theorem ex_pl : plE exD handL = 0 := by rw [plE_eq]; exact ex_tr
theorem ex_plC : plC exD handL = [8, 1, 14, 4] := by unfold plC; rw [if_neg (by simp [ex_fits]), exD_plain]; rfl
theorem ex_wd : wdR exD handL [2] = (0, [[2, 2], [2]]) := by decide +kernel
theorem ex_ab : trE exD abL = 6 := by decide +kernel
def SyF (ct : TypeId) (L : List Sy) (vs : List Value) (w : World) : Prop := ∃ a n c, vs = [.slice a n c] ∧ ∀ w', KeepsX ct w w' → Sl w' 2 a n c (L.flatMap sc)
theorem SyF.keep {ct : TypeId} {L : List Sy} {vs : List Value} {w w' : World} (h : SyF ct L vs w) (hk : KeepsX ct w w') : SyF ct L vs w' := by
 obtain ⟨a, n, c, h1, h2⟩ := h
 exact ⟨a, n, c, h1, fun w2 h3 => h2 w2 (hk.trans h3)⟩
theorem SyF.below {ct : TypeId} {L : List Sy} {vs : List Value} {w w' : World} (h : SyF ct L vs w) (hb : Below w.heap.size w w') : SyF ct L vs w' := h.keep (KeepsX.of hb)
theorem symsOf_hand : symsOf ⟨#[104, 97, 110, 100]⟩ = handL := rfl
theorem symsOf_ab : symsOf ⟨#[97, 32, 98]⟩ = abL := rfl
end Go.Dx
namespace Go.Proofs.Ytlpkicjijlcbfaa
open Go.RowKit Go.Dx Go.Al
set_option maxHeartbeats 1000000 in
theorem law8_word (s : ByteArray) (hsz : s.size ≤ 1000) (w : World) :
  Calls Try.prog 46 #[.string s] w fun e w' => ∃ a c, e = .returned (.slice a (symsOf s).length c) ∧ Go.Dx.Own w' w.heap.size 88 2 a (symsOf s).length c ((symsOf s).flatMap sc) ∧ Below w.heap.size w w' := by
 have hlen : (symsOf s).length = s.size := by unfold symsOf; rw [List.length_map]; exact (size_chars s).symm
 have HLEN := hide hlen
 clear hlen
 rw [HLEN.out]
 go_enter Try.func46, Try.ntmps46
 go_wp2_with fail
 go_loopg [3, 4] s.size (fun gh o v w' => ∃ (k : Nat) (a : Option Addr) (c : Nat), k ≤ s.size ∧ gh = s.size - k ∧ o = .slice a k c ∧ v = .int .i64 (k : Int) ∧ Go.Dx.Own w' w.heap.size 88 2 a k c (((symsOf s).take k).flatMap sc) ∧ Below w.heap.size w w')
 case atStart => exact ⟨0, none, 0, by omega, by omega, rfl, rfl, Go.Dx.Own.nil _ _ _ _, Below.refl _ _⟩
 case round =>
  obtain ⟨k, a, c, hk, hg, rfl, rfl, ho, hb⟩ := hrel
  have HG := hide hg
  clear hg
  by_cases hkl : k < s.size
  ·have HST := hide (symsOf_step (chars_get hkl))
   go_wp2_with (at_builtin; refine app_sy rfl _ _ rfl w w.heap.size _ _ _ _ rfl ho ⟨0, s[k]⟩ rfl (by omega) hb.size hb ?_; intro a' c' w' ho' _ hb')
   go_roundg (s.size - (k + 1))
   case measure => have := HG.out; omega
   case rel => exact ⟨k + 1, a', c', by omega, rfl, rfl, by go_num, by rw [HST.out, List.flatMap_append, List.flatMap_singleton]; exact ho', hb'⟩
  ·obtain rfl : k = s.size := by omega
   go_wp2
   go_ret
   rw [List.take_of_length_le (by rw [HLEN.out]; exact Nat.le_refl _)] at ho
   exact ⟨a, c, rfl, ho, hb⟩
theorem word_at {s : ByteArray} {L : List Sy} (hL : symsOf s = L) (hsz : s.size ≤ 1000) (ct : TypeId) (hct : 88 ≠ ct) (w : World) :
  Calls Try.prog 46 #[.string s] w fun e w' => ∃ v, e = .returned v ∧ SyF ct L [v] w' ∧ Below w.heap.size w w' := by
 subst hL
 refine (law8_word s hsz w).mono ?_
 rintro e w' ⟨a, c, rfl, ho, hb⟩
 exact ⟨_, rfl, ⟨a, _, c, rfl, fun w2 hk => Sl.keepX ho.sl ho.typ hk hct⟩, hb⟩
end Go.Proofs.Ytlpkicjijlcbfaa
end

section
/- Chapter 08: the law's example lives. -/
namespace Go.Dx
open Go.RowKit
theorem ex_trC : trC exD handL = [8, 28] := by unfold trC; rw [if_pos ex_tr]; exact ex_cells
theorem ex_few : (trC exD handL).length ≤ 1000000 := by rw [ex_trC]; decide
theorem ex_ck : chE exD handL (trC exD handL) (trK exD handL) (trA exD handL) = 0 := by
 unfold trC trK trA
 rw [if_pos ex_tr, if_pos ex_tr, if_pos ex_tr]
 exact chE_path ex_tr
theorem ex_bd : BdN (trA exD handL) 1000000 := by
 unfold trA
 rw [if_pos ex_tr]
 exact bd_num exD handL exD_valid (by decide)
end Go.Dx
namespace Go.Proofs.Ytlpkicjijlcbfaa
open Go.RowKit Go.Dx Go.Al
theorem ints_at {x y : List Int} {a1 a2 : Option Addr} {n1 n2 c1 c2 : Nat} {w : World} (hxy : x = y) (h1 : Sl w 1 a1 n1 c1 (x.map I64)) (h2 : Sl w 1 a2 n2 c2 (y.map I64)) :
  Calls Try.prog 26 #[.slice a1 n1 c1, .slice a2 n2 c2] w fun e w' => e = .returned (.bool true) ∧ Below w.heap.size w w' := by
 refine (ref_SameInts x y a1 a2 n1 n2 c1 c2 w h1 h2).mono ?_
 rintro e w' ⟨rfl, m, hm⟩
 exact ⟨by rw [decide_eq_true hxy], hm ▸ Still.below m⟩
set_option maxRecDepth 100000 in
set_option maxHeartbeats 8000000 in
theorem law8_lives (w : World) : Calls Try.prog 17 #[] w fun e w' => e = .returned (.bool true) ∧ Below w.heap.size w w' := by
 have hex := hide (law8_example w)
 go_enter Try.func17, Try.ntmps17
 go_wp2_with (go_at_call 45; refine hex.out.mono ?_; rintro e w1 ⟨H, rfl, hT, hb1⟩; refine hold ?_)
 refine hide ?_
 clear hex
 have Hm := hide hT
 clear hT
 obtain ⟨⟨a0, n0, c0⟩, ⟨a1, n1, c1⟩, ps0, ps1, ⟨ad, nd, cd⟩, ⟨ac, nc, cc⟩, ⟨an, nn, cn⟩, ⟨af, nf, cf⟩, ⟨aw, nw, cw⟩⟩ := H
 unfold TH.v
 simp only [hdv]
 have Y1 := Box.new w1 29 #[.slice a0 n0 c0, .slice a1 n1 c1, .slice ad nd cd, .slice ac nc cc, .slice an nn cn, .slice af nf cf, .slice aw nw cw]
 have hbY := blo w1 (.cells #[.slice a0 n0 c0, .slice a1 n1 c1, .slice ad nd cd, .slice ac nc cc, .slice an nn cn, .slice af nf cf, .slice aw nw cw] 29)
 go_wp2_with fail
 generalize w1.alloc (.cells _ 29) = W0 at *
 obtain ⟨H, hH⟩ : ∃ H : TH, H = ⟨(a0, n0, c0), (a1, n1, c1), ps0, ps1, (ad, nd, cd), (ac, nc, cc), (an, nn, cn), (af, nf, cf), (aw, nw, cw)⟩ := ⟨_, rfl⟩
 have HX : Box W0 w1.heap.size 29 (tcells H) := by rw [hH]; exact Y1
 have HT : TaIs W0 H exD := by rw [hH]; exact Hm.out.below hbY
 have hbw := hb1.trans (hbY.mono hb1.size)
 clear hH Hm hbY hb1 Y1
 generalize w1.heap.size = gT at *
 clear w1
 refine wp_region_chain4 8 (KeepsX 39) (GTr 39 W0 (trC exD handL) (trK exD handL) (trA exD handL)) [⟨6, 2, [], fun _ _ => True⟩, ⟨7, 85, [0], fun _ _ => True⟩] [⟨0, 12, [12], fun vs _ => vs = [H.v]⟩, ⟨1, 13, [13], SyF 39 handL⟩, ⟨2, 14, [14], TuF 39 0 (trC exD handL) (trK exD handL) (trA exD handL)⟩, ⟨3, 11, [11], TuF 39 0 (trC exD handL) (trK exD handL) (trA exD handL)⟩, ⟨4, 15, [15], VaF 39 (trC exD handL) (trK exD handL) (trA exD handL)⟩, ⟨5, 16, [16], fun vs _ => vs = [.int .i64 0]⟩] (by kernel_rfl) (by kernel_rfl) ?_ (fun _ _ h => KeepsX.of h) GTr.mono ?_ ?_ ?_ ?_
 ·exact (Still.below 1 : Below W0.heap.size W0 (W0.drewN 1))
 ·simp only [All]
  refine ⟨(fun _ _ _ _ h => h), (fun _ _ _ hk h => h.keep hk), (fun _ _ _ hk h => h.keep hk), (fun _ _ _ hk h => h.keep hk), (fun _ _ _ hk h => h.keep hk), (fun _ _ _ _ h => h), trivial⟩
 ·intro m c hc o ho a w' hG hfr hdep
  rcases m with _ | _ | m
  ·cases hc
   obtain rfl := oj ho
   have hB : Below W0.heap.size W0 w' := hG
   clear hfr hdep hG
   go_wp2_with fail
   exact ⟨rfl, _, rfl, KeepsX.of (blo _ _), w'.heap.size, rfl, hB.size, [.slice none 0 0, .slice none 0 0, .slice none 0 0], rfl, Box.new _ _ _, hB.alloc hB.size _⟩
  ·cases hc
   obtain rfl := oj ho
   obtain ⟨b9, e9, hlo9, cs9, hl9, hbx9, hB⟩ := hG
   obtain ⟨v9, g9, c9⟩ := hdep 4 _ rfl (by kernel_rfl)
   replace e9 : a.tmps.getD 2 undef = .pointer (some ⟨b9, 0, none⟩) := e9
   replace g9 : a.tmps.getD 15 undef = v9 := by simpa using g9
   obtain ⟨a1, n1, c1, a2, n2, c2, a3, n3, c3, hs9, hv9, -⟩ := c9.ce
   subst hv9
   clear ho hfr hdep; refine store_all 39 _ _ 39 b9 cs9 [.slice a1 n1 c1, .slice a2 n2 c2, .slice a3 n3 c3] _ size_cert hbx9 e9 g9 rfl (by rw [hl9]; rfl) (by simp [Value.oneCell']) ?_
   intro w10 hx10 hg10 hs10
   have hK := KeepsX.put hbx9 hg10
   have hb10 := hB.grown hg10 hB.size (fun k hk => by cases hk; exact hlo9)
   have E9 := hide e9
   clear e9 g9 hl9 hs10
   go_wp2_with fail
   exact ⟨rfl, undef, rfl, hK, b9, by first | rfl | exact E9.out | simpa using E9.out, hlo9, _, _, _, hx10, c9.keep hK, hb10⟩
  ·cases hc
 ·simp only [All]
  refine ⟨?_, ?_, ?_, ?_, ?_, ?_, trivial⟩
  ·intro o ho a' w' hfr hdep hst; obtain rfl := oj ho
   have hb : Below W0.heap.size W0 w' := by obtain ⟨j, _, _, hG⟩ := hst; exact hG.bel
   have g1 : a'.tmps[1]?.getD undef = .pointer (some ⟨gT, 0, none⟩) := by simpa using hfr 1 (by kernel_rfl)
   clear ho hfr hdep hst; refine load_struct 12 29 _ 7 size_tables _ Try.underlying29 ⟨gT, 0, none⟩ (by show a'.tmps.getD 1 undef = _; simpa using g1) (tcells H) rfl (fun j u hj => by rw [Addr.add_lit, Nat.zero_add]; exact (HX.under hb).at_ hj) ?_
   exact ⟨rfl, _, rfl, br, rfl⟩
  ·intro o ho a' w' hfr hdep hst; obtain rfl := oj ho
   have hb : Below W0.heap.size W0 w' := by obtain ⟨j, _, _, hG⟩ := hst; exact hG.bel
   clear ho hfr hdep hst; have hwd := hide (word_at symsOf_hand (by decide) 39 (by decide) w')
   go_wp2_with (go_at_call 46; refine hwd.out.mono ?_; rintro e w3 ⟨v, rfl, hsy, h3⟩)
   exact ⟨rfl, _, rfl, h3, hsy⟩
  ·intro o ho a' w' hfr hdep hst; obtain rfl := oj ho
   have hb : Below W0.heap.size W0 w' := by obtain ⟨j, _, _, hG⟩ := hst; exact hG.bel
   have g12 : a'.tmps[12]?.getD undef = H.v := by simpa using hdep 0 _ rfl (by kernel_rfl)
   obtain ⟨a13, n13, c13, g13, s13⟩ := hdep 1 _ rfl (by kernel_rfl)
   simp at g13
   clear ho hfr hdep hst; have htr := hide (tr_at H exD handL a13 n13 c13 w' (HT.below hb) (s13 w' (KeepsX.refl _ _)) ex_tr rfl rfl rfl)
   go_wp2_with (go_at_call 13; refine htr.out.mono ?_; rintro e w3 ⟨⟨v, rfl, hce⟩, h3⟩)
   exact ⟨rfl, _, rfl, h3, _, rfl, hce⟩
  ·intro o ho a' w' hfr hdep hst; obtain rfl := oj ho
   obtain ⟨v14, g14, c14⟩ := hdep 2 _ rfl (by kernel_rfl)
   simp at g14
   clear ho hfr hdep hst; go_wp2_with fail; exact ⟨rfl, _, rfl, br, _, rfl, c14⟩
  ·intro o ho a' w' hfr hdep hst; obtain rfl := oj ho
   obtain ⟨v11, g11, c11⟩ := hdep 3 _ rfl (by kernel_rfl)
   simp at g11
   clear ho hfr hdep hst; go_wp2_with fail; exact ⟨rfl, _, rfl, br, _, rfl, c11⟩
  ·intro o ho a' w' hfr hdep hst; obtain rfl := oj ho
   obtain ⟨v11, g11, c11⟩ := hdep 3 _ rfl (by kernel_rfl)
   simp at g11
   clear ho hfr hdep hst; go_wp2_with fail; exact ⟨rfl, _, rfl, br, rfl⟩
 ·intro g w9 hG hp
  obtain ⟨b9, e9, hlo9, s1, s2, s3, hx9, hc9, hb9⟩ := hG
  have p9 := hp 5 _ rfl
  replace e9 : g 2 = .pointer (some ⟨b9, 0, none⟩) := e9
  clear hp
  replace p9 : g 16 = .int .i64 0 := by simpa using p9
  simp only [List.drop_succ_cons, List.drop_zero, List.map_cons, List.map_nil, putAll, Act.put, List.setIfInBounds_toArray, List.set_cons_succ, List.set_cons_zero, List.set_nil, List.cons_append, List.nil_append, e9, p9]
  clear e9 p9
  obtain ⟨a1, n1, c1, a2, n2, c2, a3, n3, c3, hs3, rfl, rfl, rfl, HS1, HS2, HS3⟩ := hc9.parts
  clear hc9 hlo9
  have HC := hx9
  clear hx9
  obtain ⟨bC, rfl⟩ : ∃ z : Nat, z = b9 := ⟨_, rfl⟩
  have HXn := HX.under hb9
  have HTn := HT.below hb9
  have hbn := hbw.trans (hb9.mono hbw.size)
  clear HX HT hbw hb9
  have HX := HXn
  have HT := HTn
  have hbw := hbn
  clear HXn HTn hbn
  clear W0
  obtain ⟨W0, rfl⟩ : ∃ w' : World, w' = w9 := ⟨_, rfl⟩
  go_wp2_with fail
  refine wp_region_free 7 [⟨0, 18, [18], fun vs _ => vs = [H.v]⟩, ⟨1, 19, [19], SyF 39 handL⟩, ⟨2, 20, [20], fun vs w => ∃ a n c, vs = [.tuple #[.slice a n c, .int .i64 0]] ∧ Sl w 1 a n c ((plC exD handL).map B8)⟩, ⟨3, 17, [17], fun vs w => ∃ a n c, vs = [.tuple #[.slice a n c, .int .i64 0]] ∧ Sl w 1 a n c ((plC exD handL).map B8)⟩, ⟨4, 21, [21], fun vs w => ∃ a n c, vs = [.slice a n c] ∧ Sl w 1 a n c ((plC exD handL).map B8)⟩, ⟨5, 22, [22], fun vs _ => vs = [.int .i64 0]⟩, ⟨6, 4, [4], fun vs w => ∃ a n c, vs = [.slice a n c] ∧ Sl w 1 a n c ((plC exD handL).map B8)⟩] (by kernel_rfl) (by kernel_rfl) ?_ ?_ ?_
  ·simp only [All]
   refine ⟨fun _ _ _ _ h => h, ?_, ?_, ?_, ?_, fun _ _ _ _ h => h, ?_, trivial⟩
   ·exact fun vs w1 w2 hb h => h.below hb
   ·exact fun vs w1 w2 hb ⟨a, n, c, h1, h2⟩ => ⟨a, n, c, h1, h2.below hb⟩
   ·exact fun vs w1 w2 hb ⟨a, n, c, h1, h2⟩ => ⟨a, n, c, h1, h2.below hb⟩
   ·exact fun vs w1 w2 hb ⟨a, n, c, h1, h2⟩ => ⟨a, n, c, h1, h2.below hb⟩
   ·exact fun vs w1 w2 hb ⟨a, n, c, h1, h2⟩ => ⟨a, n, c, h1, h2.below hb⟩
  ·simp only [All]
   refine ⟨?_, ?_, ?_, ?_, ?_, ?_, ?_, trivial⟩
   ·intro o ho a' w' hb hfr hdep; obtain rfl := oj ho
    have g1 : a'.tmps[1]?.getD undef = .pointer (some ⟨gT, 0, none⟩) := by simpa using hfr 1 (by kernel_rfl)
    clear ho hfr hdep; refine load_struct 18 29 _ 7 size_tables _ Try.underlying29 ⟨gT, 0, none⟩ (by show a'.tmps.getD 1 undef = _; simpa using g1) (tcells H) rfl (fun j u hj => by rw [Addr.add_lit, Nat.zero_add]; exact (HX.under hb).at_ hj) ?_
    exact ⟨rfl, _, rfl, br, rfl⟩
   ·intro o ho a' w' hb hfr hdep; obtain rfl := oj ho
    clear ho hfr hdep; have hwd := hide (word_at symsOf_hand (by decide) 39 (by decide) w')
    go_wp2_with (go_at_call 46; refine hwd.out.mono ?_; rintro e w3 ⟨v, rfl, hsy, h3⟩)
    exact ⟨rfl, _, rfl, h3, hsy⟩
   ·intro o ho a' w' hb hfr hdep; obtain rfl := oj ho
    have g18 : a'.tmps[18]?.getD undef = H.v := by simpa using hdep 0 _ rfl (by kernel_rfl)
    obtain ⟨a19, n19, c19, g19, s19⟩ := hdep 1 _ rfl (by kernel_rfl)
    simp at g19
    clear ho hfr hdep; have hpl := hide (con_Plain H exD handL a19 n19 c19 w' (HT.below hb) (s19 w' (KeepsX.refl _ _)))
    go_wp2_with (go_at_call 18; refine hpl.out.mono ?_; rintro e w3 ⟨⟨a, n, c, rfl, hpa⟩, h3⟩)
    exact ⟨rfl, _, rfl, h3, a, n, c, by rw [ex_pl]; rfl, hpa⟩
   ·intro o ho a' w' hb hfr hdep; obtain rfl := oj ho
    obtain ⟨a20, n20, c20, g20, s20⟩ := hdep 2 _ rfl (by kernel_rfl)
    simp at g20
    clear ho hfr hdep; go_wp2_with fail; exact ⟨rfl, _, rfl, br, a20, n20, c20, rfl, s20⟩
   ·intro o ho a' w' hb hfr hdep; obtain rfl := oj ho
    obtain ⟨a17, n17, c17, g17, s17⟩ := hdep 3 _ rfl (by kernel_rfl)
    simp at g17
    clear ho hfr hdep; go_wp2_with fail; exact ⟨rfl, _, rfl, br, a17, n17, c17, rfl, s17⟩
   ·intro o ho a' w' hb hfr hdep; obtain rfl := oj ho
    obtain ⟨a17, n17, c17, g17, s17⟩ := hdep 3 _ rfl (by kernel_rfl)
    simp at g17
    clear ho hfr hdep; go_wp2_with fail; exact ⟨rfl, _, rfl, br, rfl⟩
   ·intro o ho a' w' hb hfr hdep; obtain rfl := oj ho
    obtain ⟨a21, n21, c21, g21, s21⟩ := hdep 4 _ rfl (by kernel_rfl)
    simp at g21
    clear ho hfr hdep; go_wp2_with fail; exact ⟨rfl, _, rfl, br, a21, n21, c21, rfl, s21⟩
  ·intro gg w9 hb9 hp'
   obtain ⟨ap, np, cp, e4, hPl⟩ := hp' 6 _ rfl
   have p22 := hp' 5 _ rfl
   clear hp'
   simp at e4 p22
   simp only [List.drop_succ_cons, List.drop_zero, List.map_cons, List.map_nil, putAll, Act.put, List.setIfInBounds_toArray, List.set_cons_succ, List.set_cons_zero, List.cons_append, List.nil_append, e4, p22]
   clear e4 p22
   have HXn := HX.under hb9
   have HTn := HT.below hb9
   have hbn := hbw.trans (hb9.mono hbw.size)
   have HCn := HC.under hb9
   have HS1n := HS1.below hb9
   have HS2n := HS2.below hb9
   have HS3n := HS3.below hb9
   clear HX HT hbw hb9 HC HS1 HS2 HS3
   have HX := HXn
   have HT := HTn
   have hbw := hbn
   have HC := HCn
   have HS1 := HS1n
   have HS2 := HS2n
   have HS3 := HS3n
   clear HXn HTn hbn HCn HS1n HS2n HS3n
   clear W0
   obtain ⟨W0, rfl⟩ : ∃ w' : World, w' = w9 := ⟨_, rfl⟩
   go_wp2_with fail
   refine wp_region_free 8 [⟨0, 24, [24], fun vs _ => vs = [H.v]⟩, ⟨1, 25, [25], SyF 39 handL⟩, ⟨2, 26, [26], fun vs w => ∃ q, vs = [.slice (some ⟨q, 0, none⟩) 1 1] ∧ Sl w 1 (some ⟨q, 0, none⟩) 1 1 (([2] : List Int).map I64)⟩, ⟨3, 27, [27], fun vs w => ∃ a n c hs, vs = [.tuple #[.slice a n c, .int .i64 0]] ∧ Ng w a n c hs [[2, 2], [2]]⟩, ⟨4, 23, [23], fun vs w => ∃ a n c hs, vs = [.tuple #[.slice a n c, .int .i64 0]] ∧ Ng w a n c hs [[2, 2], [2]]⟩, ⟨5, 28, [28], fun vs w => ∃ a n c hs, vs = [.slice a n c] ∧ Ng w a n c hs [[2, 2], [2]]⟩, ⟨6, 29, [29], fun vs _ => vs = [.int .i64 0]⟩, ⟨7, 6, [6], fun vs w => ∃ a n c hs, vs = [.slice a n c] ∧ Ng w a n c hs [[2, 2], [2]]⟩] (by kernel_rfl) (by kernel_rfl) ?_ ?_ ?_
   ·simp only [All]
    refine ⟨fun _ _ _ _ h => h, ?_, ?_, ?_, ?_, ?_, fun _ _ _ _ h => h, ?_, trivial⟩
    ·exact fun vs w1 w2 hb h => h.below hb
    ·exact fun vs w1 w2 hb ⟨q, h1, h2⟩ => ⟨q, h1, h2.below hb⟩
    ·exact fun vs w1 w2 hb ⟨a, n, c, hs, h1, h2⟩ => ⟨a, n, c, hs, h1, h2.below hb⟩
    ·exact fun vs w1 w2 hb ⟨a, n, c, hs, h1, h2⟩ => ⟨a, n, c, hs, h1, h2.below hb⟩
    ·exact fun vs w1 w2 hb ⟨a, n, c, hs, h1, h2⟩ => ⟨a, n, c, hs, h1, h2.below hb⟩
    ·exact fun vs w1 w2 hb ⟨a, n, c, hs, h1, h2⟩ => ⟨a, n, c, hs, h1, h2.below hb⟩
   ·simp only [All]
    refine ⟨?_, ?_, ?_, ?_, ?_, ?_, ?_, ?_, trivial⟩
    ·intro o ho a' w' hb hfr hdep; obtain rfl := oj ho
     have g1 : a'.tmps[1]?.getD undef = .pointer (some ⟨gT, 0, none⟩) := by simpa using hfr 1 (by kernel_rfl)
     clear ho hfr hdep; refine load_struct 24 29 _ 7 size_tables _ Try.underlying29 ⟨gT, 0, none⟩ (by show a'.tmps.getD 1 undef = _; simpa using g1) (tcells H) rfl (fun j u hj => by rw [Addr.add_lit, Nat.zero_add]; exact (HX.under hb).at_ hj) ?_
     exact ⟨rfl, _, rfl, br, rfl⟩
    ·intro o ho a' w' hb hfr hdep; obtain rfl := oj ho
     clear ho hfr hdep; have hwd := hide (word_at symsOf_hand (by decide) 39 (by decide) w')
     go_wp2_with (go_at_call 46; refine hwd.out.mono ?_; rintro e w3 ⟨v, rfl, hsy, h3⟩)
     exact ⟨rfl, _, rfl, h3, hsy⟩
    ·intro o ho a' w' hb hfr hdep; obtain rfl := oj ho
     clear ho hfr hdep; go_wp2_with fail
     exact ⟨rfl, _, rfl, blo _ _, _, rfl, Sl.fresh w' 3 1 1 [.int .i64 2] rfl (by decide)⟩
    ·intro o ho a' w' hb hfr hdep; obtain rfl := oj ho
     have g24 : a'.tmps[24]?.getD undef = H.v := by simpa using hdep 0 _ rfl (by kernel_rfl)
     obtain ⟨a25, n25, c25, g25, s25⟩ := hdep 1 _ rfl (by kernel_rfl)
     simp at g25
     obtain ⟨q26, g26, s26⟩ := hdep 2 _ rfl (by kernel_rfl)
     simp at g26
     clear ho hfr hdep; have hpl := hide (con_Width H exD handL a25 n25 c25 [2] (some ⟨q26, 0, none⟩) 1 1 w' (HT.below hb) (s25 w' (KeepsX.refl _ _)) s26 (by decide))
     go_wp2_with (go_at_call 24; refine hpl.out.mono ?_; rintro e w3 ⟨⟨a, n, c, hs, rfl, hpa⟩, h3⟩)
     rw [ex_wd] at hpa ⊢
     exact ⟨rfl, _, rfl, h3, a, n, c, hs, rfl, hpa⟩
    ·intro o ho a' w' hb hfr hdep; obtain rfl := oj ho
     obtain ⟨a27, n27, c27, h27, g27, s27⟩ := hdep 3 _ rfl (by kernel_rfl)
     simp at g27
     clear ho hfr hdep; go_wp2_with fail; exact ⟨rfl, _, rfl, br, a27, n27, c27, h27, rfl, s27⟩
    ·intro o ho a' w' hb hfr hdep; obtain rfl := oj ho
     obtain ⟨a23, n23, c23, h23, g23, s23⟩ := hdep 4 _ rfl (by kernel_rfl)
     simp at g23
     clear ho hfr hdep; go_wp2_with fail; exact ⟨rfl, _, rfl, br, a23, n23, c23, h23, rfl, s23⟩
    ·intro o ho a' w' hb hfr hdep; obtain rfl := oj ho
     obtain ⟨a23, n23, c23, h23, g23, s23⟩ := hdep 4 _ rfl (by kernel_rfl)
     simp at g23
     clear ho hfr hdep; go_wp2_with fail; exact ⟨rfl, _, rfl, br, rfl⟩
    ·intro o ho a' w' hb hfr hdep; obtain rfl := oj ho
     obtain ⟨a28, n28, c28, h28, g28, s28⟩ := hdep 5 _ rfl (by kernel_rfl)
     simp at g28
     clear ho hfr hdep; go_wp2_with fail; exact ⟨rfl, _, rfl, br, a28, n28, c28, h28, rfl, s28⟩
   ·intro gg w9 hb9 hp'
    obtain ⟨aw, nw, cw, hsw, e6, hWd⟩ := hp' 7 _ rfl
    have p29 := hp' 6 _ rfl
    clear hp'
    simp at e6 p29
    simp only [List.drop_succ_cons, List.drop_zero, List.map_cons, List.map_nil, putAll, Act.put, List.setIfInBounds_toArray, List.set_cons_succ, List.set_cons_zero, List.cons_append, List.nil_append, e6, p29]
    clear e6 p29
    have HXn := HX.under hb9
    have HTn := HT.below hb9
    have hbn := hbw.trans (hb9.mono hbw.size)
    have HCn := HC.under hb9
    have HS1n := HS1.below hb9
    have HS2n := HS2.below hb9
    have HS3n := HS3.below hb9
    have hPln := hPl.below hb9
    clear HX HT hbw hb9 HC HS1 HS2 HS3 hPl
    have HX := HXn
    have HT := HTn
    have hbw := hbn
    have HC := HCn
    have HS1 := HS1n
    have HS2 := HS2n
    have HS3 := HS3n
    have hPl := hPln
    clear HXn HTn hbn HCn HS1n HS2n HS3n hPln
    clear W0
    obtain ⟨W0, rfl⟩ : ∃ w' : World, w' = w9 := ⟨_, rfl⟩
    obtain rfl : nw = 2 := hWd.n_eq
    go_wp2_with fail
    refine wp_region_chain4 8 (KeepsX 39) (GTr 39 W0 (trC exD abL) (trK exD abL) (trA exD abL)) [⟨6, 8, [], fun _ _ => True⟩, ⟨7, 85, [0], fun _ _ => True⟩] [⟨0, 31, [31], fun vs _ => vs = [H.v]⟩, ⟨1, 32, [32], SyF 39 abL⟩, ⟨2, 33, [33], TuF 39 6 (trC exD abL) (trK exD abL) (trA exD abL)⟩, ⟨3, 30, [30], TuF 39 6 (trC exD abL) (trK exD abL) (trA exD abL)⟩, ⟨4, 34, [34], VaF 39 (trC exD abL) (trK exD abL) (trA exD abL)⟩, ⟨5, 35, [35], fun vs _ => vs = [.int .i64 6]⟩] (by kernel_rfl) (by kernel_rfl) ?_ (fun _ _ h => KeepsX.of h) GTr.mono ?_ ?_ ?_ ?_
    ·exact (Still.below 1 : Below W0.heap.size W0 (W0.drewN 1))
    ·simp only [All]
     refine ⟨(fun _ _ _ _ h => h), (fun _ _ _ hk h => h.keep hk), (fun _ _ _ hk h => h.keep hk), (fun _ _ _ hk h => h.keep hk), (fun _ _ _ hk h => h.keep hk), (fun _ _ _ _ h => h), trivial⟩
    ·intro m c hc o ho a w' hG hfr hdep
     rcases m with _ | _ | m
     ·cases hc
      obtain rfl := oj ho
      have hB : Below W0.heap.size W0 w' := hG
      clear hfr hdep hG
      go_wp2_with fail
      exact ⟨rfl, _, rfl, KeepsX.of (blo _ _), w'.heap.size, rfl, hB.size, [.slice none 0 0, .slice none 0 0, .slice none 0 0], rfl, Box.new _ _ _, hB.alloc hB.size _⟩
     ·cases hc
      obtain rfl := oj ho
      obtain ⟨b9, e9, hlo9, cs9, hl9, hbx9, hB⟩ := hG
      obtain ⟨v9, g9, c9⟩ := hdep 4 _ rfl (by kernel_rfl)
      replace e9 : a.tmps.getD 8 undef = .pointer (some ⟨b9, 0, none⟩) := e9
      replace g9 : a.tmps.getD 34 undef = v9 := by simpa using g9
      obtain ⟨a1, n1, c1, a2, n2, c2, a3, n3, c3, hs9, hv9, -⟩ := c9.ce
      subst hv9
      clear ho hfr hdep; refine store_all 39 _ _ 39 b9 cs9 [.slice a1 n1 c1, .slice a2 n2 c2, .slice a3 n3 c3] _ size_cert hbx9 e9 g9 rfl (by rw [hl9]; rfl) (by simp [Value.oneCell']) ?_
      intro w10 hx10 hg10 hs10
      have hK := KeepsX.put hbx9 hg10
      have hb10 := hB.grown hg10 hB.size (fun k hk => by cases hk; exact hlo9)
      have E9 := hide e9
      clear e9 g9 hl9 hs10
      go_wp2_with fail
      exact ⟨rfl, undef, rfl, hK, b9, by first | rfl | exact E9.out | simpa using E9.out, hlo9, _, _, _, hx10, c9.keep hK, hb10⟩
     ·cases hc
    ·simp only [All]
     refine ⟨?_, ?_, ?_, ?_, ?_, ?_, trivial⟩
     ·intro o ho a' w' hfr hdep hst; obtain rfl := oj ho
      have hb : Below W0.heap.size W0 w' := by obtain ⟨j, _, _, hG⟩ := hst; exact hG.bel
      have g1 : a'.tmps[1]?.getD undef = .pointer (some ⟨gT, 0, none⟩) := by simpa using hfr 1 (by kernel_rfl)
      clear ho hfr hdep hst; refine load_struct 31 29 _ 7 size_tables _ Try.underlying29 ⟨gT, 0, none⟩ (by show a'.tmps.getD 1 undef = _; simpa using g1) (tcells H) rfl (fun j u hj => by rw [Addr.add_lit, Nat.zero_add]; exact (HX.under hb).at_ hj) ?_
      exact ⟨rfl, _, rfl, br, rfl⟩
     ·intro o ho a' w' hfr hdep hst; obtain rfl := oj ho
      have hb : Below W0.heap.size W0 w' := by obtain ⟨j, _, _, hG⟩ := hst; exact hG.bel
      clear ho hfr hdep hst; have hwd := hide (word_at symsOf_ab (by decide) 39 (by decide) w')
      go_wp2_with (go_at_call 46; refine hwd.out.mono ?_; rintro e w3 ⟨v, rfl, hsy, h3⟩)
      exact ⟨rfl, _, rfl, h3, hsy⟩
     ·intro o ho a' w' hfr hdep hst; obtain rfl := oj ho
      have hb : Below W0.heap.size W0 w' := by obtain ⟨j, _, _, hG⟩ := hst; exact hG.bel
      have g31 : a'.tmps[31]?.getD undef = H.v := by simpa using hdep 0 _ rfl (by kernel_rfl)
      obtain ⟨a32, n32, c32, g32, s32⟩ := hdep 1 _ rfl (by kernel_rfl)
      simp at g32
      clear ho hfr hdep hst; have htr := hide (tr_at H exD abL a32 n32 c32 w' (HT.below hb) (s32 w' (KeepsX.refl _ _)) ex_ab rfl rfl rfl)
      go_wp2_with (go_at_call 13; refine htr.out.mono ?_; rintro e w3 ⟨⟨v, rfl, hce⟩, h3⟩)
      exact ⟨rfl, _, rfl, h3, _, rfl, hce⟩
     ·intro o ho a' w' hfr hdep hst; obtain rfl := oj ho
      obtain ⟨v33, g33, c33⟩ := hdep 2 _ rfl (by kernel_rfl)
      simp at g33
      clear ho hfr hdep hst; go_wp2_with fail; exact ⟨rfl, _, rfl, br, _, rfl, c33⟩
     ·intro o ho a' w' hfr hdep hst; obtain rfl := oj ho
      obtain ⟨v30, g30, c30⟩ := hdep 3 _ rfl (by kernel_rfl)
      simp at g30
      clear ho hfr hdep hst; go_wp2_with fail; exact ⟨rfl, _, rfl, br, _, rfl, c30⟩
     ·intro o ho a' w' hfr hdep hst; obtain rfl := oj ho
      obtain ⟨v30, g30, c30⟩ := hdep 3 _ rfl (by kernel_rfl)
      simp at g30
      clear ho hfr hdep hst; go_wp2_with fail; exact ⟨rfl, _, rfl, br, rfl⟩
    ·intro g w9 hG hp
     obtain ⟨b9, e9, hlo9, s1, s2, s3, hx9, hc9, hb9⟩ := hG
     have p9 := hp 5 _ rfl
     replace e9 : g 8 = .pointer (some ⟨b9, 0, none⟩) := e9
     clear hp
     replace p9 : g 35 = .int .i64 6 := by simpa using p9
     simp only [List.drop_succ_cons, List.drop_zero, List.map_cons, List.map_nil, putAll, Act.put, List.setIfInBounds_toArray, List.set_cons_succ, List.set_cons_zero, List.set_nil, List.cons_append, List.nil_append, e9, p9]
     clear e9 p9
     clear hx9 hc9 hlo9
     have HXn := HX.under hb9
     have HTn := HT.below hb9
     have hbn := hbw.trans (hb9.mono hbw.size)
     have HCn := HC.under hb9
     have HS1n := HS1.below hb9
     have HS2n := HS2.below hb9
     have HS3n := HS3.below hb9
     have hPln := hPl.below hb9
     have hWdn := hWd.below hb9
     clear HX HT hbw hb9 HC HS1 HS2 HS3 hPl hWd
     have HX := HXn
     have HT := HTn
     have hbw := hbn
     have HC := HCn
     have HS1 := HS1n
     have HS2 := HS2n
     have HS3 := HS3n
     have hPl := hPln
     have hWd := hWdn
     clear HXn HTn hbn HCn HS1n HS2n HS3n hPln hWdn
     clear W0
     obtain ⟨W0, rfl⟩ : ∃ w' : World, w' = w9 := ⟨_, rfl⟩
     go_wp2_with fail
     refine wp_region_free 25 [⟨0, 36, [36], fun vs _ => vs = [.int .i64 0]⟩, ⟨1, 37, [37], fun vs _ => vs = [.bool false]⟩, ⟨2, 38, [38], fun vs _ => vs = [.bool false]⟩, ⟨3, 39, [39], fun vs _ => vs = [.int .i64 0]⟩, ⟨4, 40, [40], fun vs _ => vs = [.bool false]⟩, ⟨5, 41, [41], fun vs _ => vs = [.bool false]⟩, ⟨6, 42, [42], fun vs _ => vs = [.bool false]⟩, ⟨7, 43, [43], fun vs _ => vs = [.int .i64 0]⟩, ⟨8, 44, [44], fun vs _ => vs = [.bool false]⟩, ⟨9, 45, [45], fun vs _ => vs = [.bool false]⟩, ⟨10, 46, [46], fun vs _ => vs = [.bool false]⟩, ⟨11, 47, [47], fun vs _ => vs = [.int .i64 6]⟩, ⟨12, 48, [48], fun vs _ => vs = [.bool false]⟩, ⟨13, 49, [49], fun vs _ => vs = [.bool false]⟩, ⟨14, 50, [50], fun vs _ => vs = [.bool false]⟩, ⟨15, 51, [51], fun vs _ => vs = [.slice aw 2 cw]⟩, ⟨16, 52, [52], fun vs _ => vs = [.int .i64 2]⟩, ⟨17, 53, [53], fun vs _ => vs = [.bool false]⟩, ⟨18, 54, [54], fun vs _ => vs = [.bool false]⟩, ⟨19, 55, [55], fun vs _ => vs = [.bool false]⟩, ⟨20, 56, [56], fun vs _ => vs = [H.v]⟩, ⟨21, 57, [57], SyF 39 handL⟩, ⟨22, 58, [58], fun vs _ => vs = [.agg #[.slice a1 n1 c1, .slice a2 n2 c2, .slice a3 n3 c3]]⟩, ⟨23, 59, [59], fun vs _ => vs = [.int .i64 0]⟩, ⟨24, 60, [60], fun vs _ => vs = [.bool false]⟩] (by kernel_rfl) (by kernel_rfl) ?_ ?_ ?_
     ·simp only [All]
      refine ⟨fun _ _ _ _ h => h, fun _ _ _ _ h => h, fun _ _ _ _ h => h, fun _ _ _ _ h => h, fun _ _ _ _ h => h, fun _ _ _ _ h => h, fun _ _ _ _ h => h, fun _ _ _ _ h => h, fun _ _ _ _ h => h, fun _ _ _ _ h => h, fun _ _ _ _ h => h, fun _ _ _ _ h => h, fun _ _ _ _ h => h, fun _ _ _ _ h => h, fun _ _ _ _ h => h, fun _ _ _ _ h => h, fun _ _ _ _ h => h, fun _ _ _ _ h => h, fun _ _ _ _ h => h, fun _ _ _ _ h => h, fun _ _ _ _ h => h, ?_, fun _ _ _ _ h => h, fun _ _ _ _ h => h, fun _ _ _ _ h => h, trivial⟩
      ·exact fun vs w1 w2 hb h => h.below hb
     ·simp only [All]
      refine ⟨?_, ?_, ?_, ?_, ?_, ?_, ?_, ?_, ?_, ?_, ?_, ?_, ?_, ?_, ?_, ?_, ?_, ?_, ?_, ?_, ?_, ?_, ?_, ?_, ?_, trivial⟩
      ·intro o ho a' w' hb hfr hdep; obtain rfl := oj ho
       have g3 : a'.tmps[3]?.getD undef = .int .i64 0 := by simpa using hfr 3 (by kernel_rfl)
       clear ho hfr hdep; go_wp2_with fail; exact ⟨rfl, _, rfl, br, rfl⟩
      ·intro o ho a' w' hb hfr hdep; obtain rfl := oj ho
       have g36 : a'.tmps[36]?.getD undef = .int .i64 0 := by simpa using hdep 0 _ rfl (by kernel_rfl)
       clear ho hfr hdep; go_wp2_with fail; exact ⟨rfl, _, rfl, br, rfl⟩
      ·intro o ho a' w' hb hfr hdep; obtain rfl := oj ho
       have g37 : a'.tmps[37]?.getD undef = .bool false := by simpa using hdep 1 _ rfl (by kernel_rfl)
       clear ho hfr hdep; go_wp2_with fail; exact ⟨rfl, _, rfl, br, rfl⟩
      ·intro o ho a' w' hb hfr hdep; obtain rfl := oj ho
       have g5 : a'.tmps[5]?.getD undef = .int .i64 0 := by simpa using hfr 5 (by kernel_rfl)
       have g38 : a'.tmps[38]?.getD undef = .bool false := by simpa using hdep 2 _ rfl (by kernel_rfl)
       have q38 := opt_bool g38
       clear ho hfr hdep; refine unguard_any (by simp [Region.wanted, yielded, q38]) ?_
       go_wp2_with fail; exact ⟨rfl, _, rfl, br, rfl⟩
      ·intro o ho a' w' hb hfr hdep; obtain rfl := oj ho
       have g39 : a'.tmps[39]?.getD undef = .int .i64 0 := by simpa using hdep 3 _ rfl (by kernel_rfl)
       have g38 : a'.tmps[38]?.getD undef = .bool false := by simpa using hdep 2 _ rfl (by kernel_rfl)
       have q38 := opt_bool g38
       clear ho hfr hdep; refine unguard_any (by simp [Region.wanted, yielded, q38]) ?_
       go_wp2_with fail; exact ⟨rfl, _, rfl, br, rfl⟩
      ·intro o ho a' w' hb hfr hdep; obtain rfl := oj ho
       have g38 : a'.tmps[38]?.getD undef = .bool false := by simpa using hdep 2 _ rfl (by kernel_rfl)
       have g40 : a'.tmps[40]?.getD undef = .bool false := by simpa using hdep 4 _ rfl (by kernel_rfl)
       clear ho hfr hdep; go_wp2_with fail; exact ⟨rfl, _, rfl, br, rfl⟩
      ·intro o ho a' w' hb hfr hdep; obtain rfl := oj ho
       have g41 : a'.tmps[41]?.getD undef = .bool false := by simpa using hdep 5 _ rfl (by kernel_rfl)
       clear ho hfr hdep; go_wp2_with fail; exact ⟨rfl, _, rfl, br, rfl⟩
      ·intro o ho a' w' hb hfr hdep; obtain rfl := oj ho
       have g7 : a'.tmps[7]?.getD undef = .int .i64 0 := by simpa using hfr 7 (by kernel_rfl)
       have g42 : a'.tmps[42]?.getD undef = .bool false := by simpa using hdep 6 _ rfl (by kernel_rfl)
       have q42 := opt_bool g42
       clear ho hfr hdep; refine unguard_any (by simp [Region.wanted, yielded, q42]) ?_
       go_wp2_with fail; exact ⟨rfl, _, rfl, br, rfl⟩
      ·intro o ho a' w' hb hfr hdep; obtain rfl := oj ho
       have g43 : a'.tmps[43]?.getD undef = .int .i64 0 := by simpa using hdep 7 _ rfl (by kernel_rfl)
       have g42 : a'.tmps[42]?.getD undef = .bool false := by simpa using hdep 6 _ rfl (by kernel_rfl)
       have q42 := opt_bool g42
       clear ho hfr hdep; refine unguard_any (by simp [Region.wanted, yielded, q42]) ?_
       go_wp2_with fail; exact ⟨rfl, _, rfl, br, rfl⟩
      ·intro o ho a' w' hb hfr hdep; obtain rfl := oj ho
       have g42 : a'.tmps[42]?.getD undef = .bool false := by simpa using hdep 6 _ rfl (by kernel_rfl)
       have g44 : a'.tmps[44]?.getD undef = .bool false := by simpa using hdep 8 _ rfl (by kernel_rfl)
       clear ho hfr hdep; go_wp2_with fail; exact ⟨rfl, _, rfl, br, rfl⟩
      ·intro o ho a' w' hb hfr hdep; obtain rfl := oj ho
       have g45 : a'.tmps[45]?.getD undef = .bool false := by simpa using hdep 9 _ rfl (by kernel_rfl)
       clear ho hfr hdep; go_wp2_with fail; exact ⟨rfl, _, rfl, br, rfl⟩
      ·intro o ho a' w' hb hfr hdep; obtain rfl := oj ho
       have g9 : a'.tmps[9]?.getD undef = .int .i64 6 := by simpa using hfr 9 (by kernel_rfl)
       have g46 : a'.tmps[46]?.getD undef = .bool false := by simpa using hdep 10 _ rfl (by kernel_rfl)
       have q46 := opt_bool g46
       clear ho hfr hdep; refine unguard_any (by simp [Region.wanted, yielded, q46]) ?_
       go_wp2_with fail; exact ⟨rfl, _, rfl, br, rfl⟩
      ·intro o ho a' w' hb hfr hdep; obtain rfl := oj ho
       have g47 : a'.tmps[47]?.getD undef = .int .i64 6 := by simpa using hdep 11 _ rfl (by kernel_rfl)
       have g46 : a'.tmps[46]?.getD undef = .bool false := by simpa using hdep 10 _ rfl (by kernel_rfl)
       have q46 := opt_bool g46
       clear ho hfr hdep; refine unguard_any (by simp [Region.wanted, yielded, q46]) ?_
       go_wp2_with fail; exact ⟨rfl, _, rfl, br, rfl⟩
      ·intro o ho a' w' hb hfr hdep; obtain rfl := oj ho
       have g46 : a'.tmps[46]?.getD undef = .bool false := by simpa using hdep 10 _ rfl (by kernel_rfl)
       have g48 : a'.tmps[48]?.getD undef = .bool false := by simpa using hdep 12 _ rfl (by kernel_rfl)
       clear ho hfr hdep; go_wp2_with fail; exact ⟨rfl, _, rfl, br, rfl⟩
      ·intro o ho a' w' hb hfr hdep; obtain rfl := oj ho
       have g49 : a'.tmps[49]?.getD undef = .bool false := by simpa using hdep 13 _ rfl (by kernel_rfl)
       clear ho hfr hdep; go_wp2_with fail; exact ⟨rfl, _, rfl, br, rfl⟩
      ·intro o ho a' w' hb hfr hdep; obtain rfl := oj ho
       have g6 : a'.tmps[6]?.getD undef = .slice aw 2 cw := by simpa using hfr 6 (by kernel_rfl)
       have g50 : a'.tmps[50]?.getD undef = .bool false := by simpa using hdep 14 _ rfl (by kernel_rfl)
       have q50 := opt_bool g50
       clear ho hfr hdep; refine unguard_any (by simp [Region.wanted, yielded, q50]) ?_
       go_wp2_with fail; exact ⟨rfl, _, rfl, br, rfl⟩
      ·intro o ho a' w' hb hfr hdep; obtain rfl := oj ho
       have g51 : a'.tmps[51]?.getD undef = .slice aw 2 cw := by simpa using hdep 15 _ rfl (by kernel_rfl)
       have g50 : a'.tmps[50]?.getD undef = .bool false := by simpa using hdep 14 _ rfl (by kernel_rfl)
       have q50 := opt_bool g50
       clear ho hfr hdep; refine unguard_any (by simp [Region.wanted, yielded, q50]) ?_
       go_wp2_with fail; exact ⟨rfl, _, rfl, br, rfl⟩
      ·intro o ho a' w' hb hfr hdep; obtain rfl := oj ho
       have g52 : a'.tmps[52]?.getD undef = .int .i64 2 := by simpa using hdep 16 _ rfl (by kernel_rfl)
       have g50 : a'.tmps[50]?.getD undef = .bool false := by simpa using hdep 14 _ rfl (by kernel_rfl)
       have q50 := opt_bool g50
       clear ho hfr hdep; refine unguard_any (by simp [Region.wanted, yielded, q50]) ?_
       go_wp2_with fail; exact ⟨rfl, _, rfl, br, rfl⟩
      ·intro o ho a' w' hb hfr hdep; obtain rfl := oj ho
       have g50 : a'.tmps[50]?.getD undef = .bool false := by simpa using hdep 14 _ rfl (by kernel_rfl)
       have g53 : a'.tmps[53]?.getD undef = .bool false := by simpa using hdep 17 _ rfl (by kernel_rfl)
       clear ho hfr hdep; go_wp2_with fail; exact ⟨rfl, _, rfl, br, rfl⟩
      ·intro o ho a' w' hb hfr hdep; obtain rfl := oj ho
       have g54 : a'.tmps[54]?.getD undef = .bool false := by simpa using hdep 18 _ rfl (by kernel_rfl)
       clear ho hfr hdep; go_wp2_with fail; exact ⟨rfl, _, rfl, br, rfl⟩
      ·intro o ho a' w' hb hfr hdep; obtain rfl := oj ho
       have g1 : a'.tmps[1]?.getD undef = .pointer (some ⟨gT, 0, none⟩) := by simpa using hfr 1 (by kernel_rfl)
       have g55 : a'.tmps[55]?.getD undef = .bool false := by simpa using hdep 19 _ rfl (by kernel_rfl)
       have q55 := opt_bool g55
       clear ho hfr hdep; refine unguard_any (by simp [Region.wanted, yielded, q55]) ?_
       refine load_struct 56 29 _ 7 size_tables _ Try.underlying29 ⟨gT, 0, none⟩ (by show a'.tmps.getD 1 undef = _; simpa using g1) (tcells H) rfl (fun j u hj => by rw [Addr.add_lit, Nat.zero_add]; exact (HX.under hb).at_ hj) ?_
       exact ⟨rfl, _, rfl, br, rfl⟩
      ·intro o ho a' w' hb hfr hdep; obtain rfl := oj ho
       have g55 : a'.tmps[55]?.getD undef = .bool false := by simpa using hdep 19 _ rfl (by kernel_rfl)
       have q55 := opt_bool g55
       clear ho hfr hdep; refine unguard_any (by simp [Region.wanted, yielded, q55]) ?_
       have hwd := hide (word_at symsOf_hand (by decide) 39 (by decide) w')
       go_wp2_with (go_at_call 46; refine hwd.out.mono ?_; rintro e w3 ⟨v, rfl, hsy, h3⟩)
       exact ⟨rfl, _, rfl, h3, hsy⟩
      ·intro o ho a' w' hb hfr hdep; obtain rfl := oj ho
       have g2 : a'.tmps[2]?.getD undef = .pointer (some ⟨bC, 0, none⟩) := by simpa using hfr 2 (by kernel_rfl)
       have g55 : a'.tmps[55]?.getD undef = .bool false := by simpa using hdep 19 _ rfl (by kernel_rfl)
       have q55 := opt_bool g55
       clear ho hfr hdep; refine unguard_any (by simp [Region.wanted, yielded, q55]) ?_
       refine load_struct 58 39 _ 3 size_cert _ Try.underlying39 ⟨bC, 0, none⟩ (by show a'.tmps.getD 2 undef = _; simpa using g2) [.slice a1 n1 c1, .slice a2 n2 c2, .slice a3 n3 c3] rfl (fun j u hj => by rw [Addr.add_lit, Nat.zero_add]; exact (HC.under hb).at_ hj) ?_
       exact ⟨rfl, _, rfl, br, rfl⟩
      ·intro o ho a' w' hb hfr hdep; obtain rfl := oj ho
       have g56 : a'.tmps[56]?.getD undef = H.v := by simpa using hdep 20 _ rfl (by kernel_rfl)
       obtain ⟨a57, n57, c57, g57, s57⟩ := hdep 21 _ rfl (by kernel_rfl)
       simp at g57
       have g58 : a'.tmps[58]?.getD undef = .agg #[.slice a1 n1 c1, .slice a2 n2 c2, .slice a3 n3 c3] := by simpa using hdep 22 _ rfl (by kernel_rfl)
       have g55 : a'.tmps[55]?.getD undef = .bool false := by simpa using hdep 19 _ rfl (by kernel_rfl)
       have q55 := opt_bool g55
       clear ho hfr hdep; refine unguard_any (by simp [Region.wanted, yielded, q55]) ?_
       have hck := hide (con_Check H exD handL a57 n57 c57 (trC exD handL) (trK exD handL) (trA exD handL) hs3 a1 a2 a3 n1 c1 n2 c2 n3 c3 w' (HT.below hb) (s57 w' (KeepsX.refl _ _)) (HS1.below hb) (HS2.below hb) (HS3.below hb) ex_few ex_bd)
       rw [ex_ck] at hck
       go_wp2_with (go_at_call 27; refine hck.out.mono ?_; rintro e w3 ⟨rfl, h3⟩)
       exact ⟨rfl, _, rfl, h3, rfl⟩
      ·intro o ho a' w' hb hfr hdep; obtain rfl := oj ho
       have g59 : a'.tmps[59]?.getD undef = .int .i64 0 := by simpa using hdep 23 _ rfl (by kernel_rfl)
       have g55 : a'.tmps[55]?.getD undef = .bool false := by simpa using hdep 19 _ rfl (by kernel_rfl)
       have q55 := opt_bool g55
       clear ho hfr hdep; refine unguard_any (by simp [Region.wanted, yielded, q55]) ?_
       go_wp2_with fail; exact ⟨rfl, _, rfl, br, rfl⟩
     ·intro gg w9 hb9 hp'
      have p55 := hp' 19 _ rfl
      have p60 := hp' 24 _ rfl
      clear hp'
      simp at p55 p60
      simp only [List.drop_succ_cons, List.drop_zero, List.map_cons, List.map_nil, putAll, Act.put, List.setIfInBounds_toArray, List.set_cons_succ, List.set_cons_zero, List.cons_append, List.nil_append, p55, p60]
      clear p55 p60
      have HXn := HX.under hb9
      have HTn := HT.below hb9
      have hbn := hbw.trans (hb9.mono hbw.size)
      have HCn := HC.under hb9
      have HS1n := HS1.below hb9
      have HS2n := HS2.below hb9
      have HS3n := HS3.below hb9
      have hPln := hPl.below hb9
      have hWdn := hWd.below hb9
      clear HX HT hbw hb9 HC HS1 HS2 HS3 hPl hWd
      have HX := HXn
      have HT := HTn
      have hbw := hbn
      have HC := HCn
      have HS1 := HS1n
      have HS2 := HS2n
      have HS3 := HS3n
      have hPl := hPln
      have hWd := hWdn
      clear HXn HTn hbn HCn HS1n HS2n HS3n hPln hWdn
      clear W0
      obtain ⟨W0, rfl⟩ : ∃ w' : World, w' = w9 := ⟨_, rfl⟩

      clear HX HT HS2 HS3
      have cC : W0.cell? ⟨bC, 0, none⟩ = some (.slice a1 n1 c1) := HC.at_ rfl
      have HS1' := HS1
      rw [ex_trC] at HS1'
      rw [ex_plC] at hPl
      have al1 := blo W0 (.cells #[.int .u8 8, .int .u8 28] 5)
      have hsm1 := hide (same_at (x := [8, 28]) (y := [8, 28]) rfl (HS1'.below al1) (Sl.fresh W0 5 1 2 (([8, 28] : List UInt8).map B8) rfl (by decide)))
      clear HC HS1 HS1'
      go_wp2_with (go_at_call 20; refine hsm1.out.mono ?_; rintro e W1 ⟨rfl, hb1⟩; refine hold ?_)
      refine hide ?_
      have hq := al1.trans (hb1.mono al1.size)
      have hPl1 := hPl.below hq
      have hWd1 := hWd.below hq
      have hbw1 := hbw.trans (hq.mono hbw.size)
      clear hsm1 al1 hb1 hq hPl hWd hbw cC
      have al1 := blo W1 (.cells #[.int .u8 8, .int .u8 1, .int .u8 14, .int .u8 4] 5)
      have hsm1 := hide (same_at (x := [8, 1, 14, 4]) (y := [8, 1, 14, 4]) rfl (hPl1.below al1) (Sl.fresh W1 5 1 4 (([8, 1, 14, 4] : List UInt8).map B8) rfl (by decide)))
      go_wp2_with (first
       | (go_at_call 20; refine hsm1.out.mono ?_; rintro e W2 ⟨rfl, hb1⟩; refine hold ?_)
       | (refine unguard_any (by first | rfl | (simp [Region.wanted, yielded, Act.put]; done)) ?_; go_at_call 20; refine hsm1.out.mono ?_; rintro e W2 ⟨rfl, hb1⟩; refine hold ?_))
      refine hide ?_
      have hq := al1.trans (hb1.mono al1.size)
      have hWd2 := hWd1.below hq
      have hbw2 := hbw1.trans (hq.mono hbw1.size)
      clear hsm1 al1 hb1 hq hPl1 hWd1 hbw1
      obtain ⟨⟨x0, y0, z0⟩, hx0⟩ : ∃ h, hsw[0]? = some h := ⟨_, List.getElem?_eq_getElem (by rw [hWd2.len]; decide)⟩
      obtain ⟨⟨x1, y1, z1⟩, hx1⟩ : ∃ h, hsw[1]? = some h := ⟨_, List.getElem?_eq_getElem (by rw [hWd2.len]; decide)⟩
      have hr0 := hWd2.row 0 _ _ hx0 rfl
      have hr1 := hWd2.row 1 _ _ hx1 rfl
      have hu0 : (hsw.map hdv)[0]? = some (.slice x0 y0 z0) := by rw [List.getElem?_map, hx0]; rfl
      have hu1 : (hsw.map hdv)[1]? = some (.slice x1 y1 z1) := by rw [List.getElem?_map, hx1]; rfl
      have htop := hWd2.top
      clear hx0 hx1 hWd2
      have al1 := blo W2 (.cells #[.int .i64 2, .int .i64 2] 3)
      have hsm1 := hide (ints_at (x := [2, 2]) (y := [2, 2]) rfl (hr0.below al1) (Sl.fresh W2 3 1 2 (([2, 2] : List Int).map I64) rfl (by decide)))
      go_wp2_with (first
       | (refine unguard_any (by first | rfl | (simp [Region.wanted, yielded, Act.put]; done)) ?_; with_reducible refine idx_ii 73 _ _ aw 2 cw _ rfl htop _ _ 0 rfl rfl _ hu0 ?_; intro bI oI hcI hbI)
       | (go_at_call 26; refine hsm1.out.mono ?_; rintro e W3 ⟨rfl, hb1⟩; refine hold ?_))
      refine hide ?_
      have hq := al1.trans (hb1.mono al1.size)
      have hr3 := hr1.below hq
      have htop3 := htop.below hq
      have hbw3 := hbw2.trans (hq.mono hbw2.size)
      clear hsm1 al1 hb1 hq hr0 hr1 htop hbw2 hcI hbI
      have al1 := blo W3 (.cells #[.int .i64 2] 3)
      have hsm1 := hide (ints_at (x := [2]) (y := [2]) rfl (hr3.below al1) (Sl.fresh W3 3 1 1 (([2] : List Int).map I64) rfl (by decide)))
      go_wp2_with (first
       | (refine unguard_any (by first | rfl | (simp [Region.wanted, yielded, Act.put]; done)) ?_; with_reducible refine idx_ii 80 _ _ aw 2 cw _ rfl htop3 _ _ 1 rfl rfl _ hu1 ?_; intro bI oI hcI hbI)
       | (go_at_call 26; refine hsm1.out.mono ?_; rintro e W4 ⟨rfl, hb1⟩; refine hold ?_))
      refine hide ?_
      have hq := al1.trans (hb1.mono al1.size)
      have hbw4 := hbw3.trans (hq.mono hbw3.size)
      clear hsm1 al1 hb1 hq hr3 htop3 hbw3 hcI hbI
      go_wp2_with fail
      go_ret
      exact ⟨rfl, hbw4⟩
end Go.Proofs.Ytlpkicjijlcbfaa
end

section
/- Chapter 08: the walk of ContractFewest. -/
namespace Go.Dx
open Go.RowKit
theorem trC_len {t : Ta} {l : List Sy} (ht : validE t = 0) (hg : goodS l = true) (he : trE t l = 0) : ((trC t l).length : Int) = numV t l := by
 unfold trC
 rw [if_pos he]
 exact path_cost ht hg (trE_ok he).2
end Go.Dx
namespace Go.Proofs.Ytlpkicjijlcbfaa
open Go.RowKit Go.Dx Go.Al
end Go.Proofs.Ytlpkicjijlcbfaa
end

section
/- Chapter 08: odd texts; certificates of both kinds; are they equal. -/
namespace Go.Proofs.Ytlpkicjijlcbfaa
open Go.RowKit Go.Dx Go.Al
section
variable {w : World} {ops : Array Oper} {rest : List Oper} {o : Oper} {act : Act} {Q : Exit → Act → World → Prop}
theorem app_ysl (hg : o.guard = none) (s x : Operand) (hop : o.op = Op.call { callee := Callee.builtin Builtin.append, args := #[s, x], argTypes := #[31, 31] })
  (w0 : World) (B : Nat) (a : Option Addr) (n c : Nat) (xs : List Value) (hs : act.eval s = .slice a n c) (hown : Go.Dx.Own w B 88 2 a n c xs)
  (a2 : Option Addr) (m c2 : Nat) (ys : List Sy) (hx : act.eval x = .slice a2 m c2) (hy : Sl w 2 a2 m c2 (ys.flatMap sc))
  (hn : n + m ≤ 1000000) (hB : B ≤ w.heap.size) (hbel : Below B w0 w)
  (hK : ∀ a' c' w', Go.Dx.Own w' B 88 2 a' (n + m) c' (xs ++ ys.flatMap sc) → w.grownBy w' (a.map (·.block)) → Below B w0 w' → wpList Try.prog ops Q rest (act.put o.dst (.slice a' (n + m) c')) w') :
  wpList Try.prog ops Q (o :: rest) act w :=
 append_own hg s x 31 hop 88 zeroSym 2 16 Try.underlying31 info_sym rfl w0 B a n c xs hs hown a2 m c2 (ys.flatMap sc) hx hy (one_flat sc_one ys) (by omega) (by unfold maxLen; omega) hB hbel hK
end
def oddS (by_ : Int) : Sy := ⟨(aroundF by_ 5 : Int) - 1, ([97, 31, 127, 126, 49] : List UInt8).getD (aroundF (by_.tdiv 5) 5) 0⟩
set_option maxRecDepth 100000 in
set_option maxHeartbeats 4000000 in
theorem law8_odd (l : List Sy) (a : Option Addr) (n c : Nat) (by_ : Int) (w : World) (hs : Sl w 2 a n c (l.flatMap sc)) (hn : n ≤ 10000) (hby : -9223372036854775808 ≤ by_ ∧ by_ ≤ 9223372036854775807) :
  Calls Try.prog 11 #[.slice a n c, .int .i64 by_] w fun e w' => ∃ a' c', e = .returned (.slice a' (n + 1) c') ∧ Go.Dx.Own w' w.heap.size 88 2 a' (n + 1) c' ((l ++ [oddS by_]).flatMap sc) ∧ Below w.heap.size w w' := by
 obtain ⟨r1, hr1⟩ : ∃ r, Hid (aroundF by_ 5 = r) := ⟨_, hide rfl⟩
 obtain ⟨r2, hr2⟩ : ∃ r, Hid (aroundF (by_.tdiv 5) 5 = r) := ⟨_, hide rfl⟩
 have hl1 : r1 < 5 := by rw [← hr1.out]; exact aroundF_lt (by decide)
 have hl2 : r2 < 5 := by rw [← hr2.out]; exact aroundF_lt (by decide)
 obtain ⟨hd0, hd1⟩ := tdiv_in hby.1 hby.2 (d := 5) (by decide)
 have hA1 := hide (fun w' => ref_Around by_ 5 5 w' rfl hby.1 hby.2 (by decide) (by decide))
 have hA2 := hide (fun w' => ref_Around (by_.tdiv 5) 5 5 w' rfl hd0 hd1 (by decide) (by decide))
 rw [hr1.out] at hA1
 rw [hr2.out] at hA2
 obtain ⟨cc, hcc⟩ : ∃ c, Hid (([97, 31, 127, 126, 49] : List UInt8)[r2]? = some c) := ⟨_, hide (List.getElem?_eq_getElem (by simpa using hl2))⟩
 have hS : Hid (oddS by_ = ⟨(r1 : Int) - 1, cc⟩) := hide (by unfold oddS; rw [hr1.out, hr2.out, List.getD_eq_getElem?_getD, hcc.out]; rfl)
 rw [hS.out]
 have ho := Go.Dx.Own.built w w.heap.size 88 2 0 #[] (Nat.le_refl _) rfl (by decide)
 have hal := blo w (.cells #[] 88)
 have hsz : w.heap.size ≤ (w.alloc (.cells #[] 88)).heap.size := hal.size
 have hs6 := hs.below hal
 clear hs
 go_enter Try.func11, Try.ntmps11
 go_wp2_with (at_builtin; refine app_ysl rfl _ _ rfl w w.heap.size _ 0 0 _ rfl ho a n c l rfl hs6 (by omega) hsz hal ?_; intro aP cP w7 hO7 gb7 hb7; refine hold ?_)
 refine hide ?_
 rw [Nat.zero_add] at hO7
 clear ho hal hsz hs6 gb7
 have hl3 : r2 < 5 := hl2
 have hlit : (w7.alloc (.cells #[.int .u8 97, .int .u8 31, .int .u8 127, .int .u8 126, .int .u8 49] 5)).cell? ⟨w7.heap.size, r2, none⟩ = some (.int .u8 (cc.toNat : Int)) := by
  have h := Box.new w7 5 (([97, 31, 127, 126, 49] : List UInt8).map B8).toArray
  exact h.at_ (j := r2) (by rw [List.toList_toArray, List.getElem?_map, hcc.out]; rfl)
 have hal7 := blo w7 (.cells #[.int .u8 97, .int .u8 31, .int .u8 127, .int .u8 126, .int .u8 49] 5)
 have hO8 := hO7.below hal7
 have hb8 := hb7.trans (hal7.mono hb7.size)
 go_wp2_with (first
  | (go_at_call 23; refine (hA1.out _).mono ?_; rintro e w8 ⟨rfl, rfl⟩; refine hold ?_))
 refine hide ?_
 go_wp2_with (first
  | (go_at_call 23; refine (hA2.out _).mono ?_; rintro e w8 ⟨rfl, rfl⟩; refine hold ?_))
 refine hide ?_
 generalize w7.alloc (.cells #[.int .u8 97, .int .u8 31, .int .u8 127, .int .u8 126, .int .u8 49] 5) = w8 at *
 obtain ⟨g7, hg7⟩ : ∃ g, Hid (w7.heap.size = g) := ⟨_, hide rfl⟩
 rw [hg7.out] at hlit ⊢
 clear hal7 hO7 hb7
 go_wp2_with (first
  | (at_builtin; refine app_sy rfl _ _ rfl w w.heap.size aP n cP _ rfl hO8 ⟨(r1 : Int) - 1, cc⟩ rfl (by omega) hb8.size hb8 ?_; intro a' c' w9 ho9 _ hb9; refine hold ?_))
 refine hide ?_
 go_wp2_with fail
 go_ret
 exact ⟨a', c', rfl, by rw [List.flatMap_append, List.flatMap_singleton]; exact ho9, hb9⟩
theorem agg_ct : IsAgg Try.prog 39 := .inr ⟨_, Try.underlying39⟩
theorem agg_rc : IsAgg Try.prog 43 := .inr ⟨_, Try.underlying43⟩
theorem law8_plain (a1 a2 a3 : Option Addr) (n1 c1 n2 c2 n3 c3 : Nat) (w : World) : Calls Try.prog 16 #[.agg #[.slice a1 n1 c1, .slice a2 n2 c2, .slice a3 n3 c3]] w fun e w' => e = .returned (.agg #[.slice a1 n1 c1, .slice a2 n2 c2, .slice a3 n3 c3]) ∧ Below w.heap.size w w' := by
 have Y1 := (Box.new w 39 #[.slice a1 n1 c1, .slice a2 n2 c2, .slice a3 n3 c3]).alloc (.cells #[.slice none 0 0, .slice none 0 0, .slice none 0 0] 43)
 have Y2 := Box.new (w.alloc (.cells #[.slice a1 n1 c1, .slice a2 n2 c2, .slice a3 n3 c3] 39)) 43 #[.slice none 0 0, .slice none 0 0, .slice none 0 0]
 have hba := ((Below.refl w.heap.size w).alloc (Nat.le_refl _) (.cells #[.slice a1 n1 c1, .slice a2 n2 c2, .slice a3 n3 c3] 39)).alloc (by simp) (.cells #[.slice none 0 0, .slice none 0 0, .slice none 0 0] 43)
 simp only [World.size_alloc] at Y2
 go_enter Try.func16, Try.ntmps16
 go_upto_region 1 with fail
 generalize (w.alloc (.cells _ 39)).alloc (.cells _ 43) = w2 at *
 have Y1 : Box w2 w.heap.size 39 [.slice a1 n1 c1, .slice a2 n2 c2, .slice a3 n3 c3] := Y1
 have p0 : w2.cell? ⟨w.heap.size, 0, none⟩ = some (.slice a1 n1 c1) := Y1.at_ rfl
 have p1 : w2.cell? ⟨w.heap.size, 1, none⟩ = some (.slice a2 n2 c2) := Y1.at_ rfl
 have p2 : w2.cell? ⟨w.heap.size, 2, none⟩ = some (.slice a3 n3 c3) := Y1.at_ rfl
 go_wp2_with (with_reducible refine hold_store ?_)
 refine hide ?_
 refine store_all 43 _ _ 43 (w.heap.size + 1) [.slice none 0 0, .slice none 0 0, .slice none 0 0] [.slice a1 n1 c1, .slice a2 n2 c2, .slice a3 n3 c3] (.agg #[.slice a1 n1 c1, .slice a2 n2 c2, .slice a3 n3 c3]) size_rcert Y2 rfl rfl rfl rfl (by simp [Value.oneCell']) ?_; intro w3 Y3 gb3 zb3
 go_wp2_with fail
 refine bodyPost_ret (run_results_cell rfl rfl agg_rc (by rw [size_rcert]; rfl) Y3) rfl ⟨rfl, hba.grown gb3 hba.size (fun q hq => by cases hq; omega)⟩
theorem law8_given (a1 a2 a3 : Option Addr) (n1 c1 n2 c2 n3 c3 : Nat) (w : World) : Calls Try.prog 32 #[.agg #[.slice a1 n1 c1, .slice a2 n2 c2, .slice a3 n3 c3]] w fun e w' => e = .returned (.agg #[.slice a1 n1 c1, .slice a2 n2 c2, .slice a3 n3 c3]) ∧ Below w.heap.size w w' := by
 have Y1 := (Box.new w 43 #[.slice a1 n1 c1, .slice a2 n2 c2, .slice a3 n3 c3]).alloc (.cells #[.slice none 0 0, .slice none 0 0, .slice none 0 0] 39)
 have Y2 := Box.new (w.alloc (.cells #[.slice a1 n1 c1, .slice a2 n2 c2, .slice a3 n3 c3] 43)) 39 #[.slice none 0 0, .slice none 0 0, .slice none 0 0]
 have hba := ((Below.refl w.heap.size w).alloc (Nat.le_refl _) (.cells #[.slice a1 n1 c1, .slice a2 n2 c2, .slice a3 n3 c3] 43)).alloc (by simp) (.cells #[.slice none 0 0, .slice none 0 0, .slice none 0 0] 39)
 simp only [World.size_alloc] at Y2
 go_enter Try.func32, Try.ntmps32
 go_upto_region 1 with fail
 generalize (w.alloc (.cells _ 43)).alloc (.cells _ 39) = w2 at *
 have Y1 : Box w2 w.heap.size 43 [.slice a1 n1 c1, .slice a2 n2 c2, .slice a3 n3 c3] := Y1
 have p0 : w2.cell? ⟨w.heap.size, 0, none⟩ = some (.slice a1 n1 c1) := Y1.at_ rfl
 have p1 : w2.cell? ⟨w.heap.size, 1, none⟩ = some (.slice a2 n2 c2) := Y1.at_ rfl
 have p2 : w2.cell? ⟨w.heap.size, 2, none⟩ = some (.slice a3 n3 c3) := Y1.at_ rfl
 go_wp2_with (with_reducible refine hold_store ?_)
 refine hide ?_
 refine store_all 39 _ _ 39 (w.heap.size + 1) [.slice none 0 0, .slice none 0 0, .slice none 0 0] [.slice a1 n1 c1, .slice a2 n2 c2, .slice a3 n3 c3] (.agg #[.slice a1 n1 c1, .slice a2 n2 c2, .slice a3 n3 c3]) size_cert Y2 rfl rfl rfl rfl (by simp [Value.oneCell']) ?_; intro w3 Y3 gb3 zb3
 go_wp2_with fail
 refine bodyPost_ret (run_results_cell rfl rfl agg_ct (by rw [size_cert]; rfl) Y3) rfl ⟨rfl, hba.grown gb3 hba.size (fun q hq => by cases hq; omega)⟩
end Go.Proofs.Ytlpkicjijlcbfaa
end

section
/- Chapter 08: what the laws against the reference share. -/
namespace Go.Proofs.Ytlpkicjijlcbfaa
open Go.RowKit Go.Dx Go.Al
theorem size_sys : (Try.prog.info? 31).map (·.size) = some 1 := by kernel_rfl
theorem rtr_at (H : TH) (t : Ta) (l : List Sy) (a : Option Addr) (n c : Nat) (w : World) (hT : TaIs w H t) (hs : Sl w 2 a n c (l.flatMap sc)) {X : Int} {C : List UInt8} {K : List Int} {A : Nums} (hX : trE t l = X) (hC : trC t l = C) (hK : trK t l = K) (hA : trA t l = A) :
  Calls Try.prog 14 #[H.v, .slice a n c] w fun e w' => (∃ v, e = .returned (.tuple #[v, .int .i64 X]) ∧ CeT 43 w' v C K A) ∧ Below w.heap.size w w' := by
 subst hX hC hK hA
 exact ref8_Translate H t l a n c w hT hs
end Go.Proofs.Ytlpkicjijlcbfaa
end

section
/- Chapter 08: the reference's Plain. -/
namespace Go.Dx
end Go.Dx
namespace Go.Proofs.Ytlpkicjijlcbfaa
open Go.RowKit Go.Dx Go.Al
end Go.Proofs.Ytlpkicjijlcbfaa
end

section
/- Chapter 08: the reference's Width. -/
namespace Go.Dx
open Go.RowKit
end Go.Dx
namespace Go.Proofs.Ytlpkicjijlcbfaa
open Go.RowKit Go.Dx Go.Al
end Go.Proofs.Ytlpkicjijlcbfaa
end

section
/- Chapter 08: the first integers (Take). -/
namespace Go.Proofs.Ytlpkicjijlcbfaa
open Go.RowKit Go.Dx Go.Al
set_option maxRecDepth 20000 in
set_option maxHeartbeats 2000000 in
theorem ref_TakeI (l : List Int) (m : Nat) (a : Option Addr) (n c : Nat) (w : World) (hs : Sl w 1 a n c (l.map I64)) (hm : m ≤ 1000000) :
  Calls Try.prog 22 #[.slice a n c, .int .i64 m] w fun e w' => ∃ a' c', e = .returned (.slice a' (l.take m).length c') ∧ Go.Dx.Own w' w.heap.size 3 1 a' (l.take m).length c' ((l.take m).map I64) ∧ Below w.heap.size w w' := by
 obtain rfl := hs.n_eq
 have hcap := Nat.le_trans hs.le hs.cap
 unfold maxLen at hcap
 obtain ⟨u, hu⟩ : ∃ u, u = min l.length m := ⟨_, rfl⟩
 have hun : u ≤ l.length := by omega
 have HL : Hid ((l.take m).length = u) := hide (by rw [List.length_take, Nat.min_comm]; exact hu.symm)
 have HE : Hid ((l.map I64).take (u * 1) = (l.take m).map I64) := hide (by
  rw [Nat.mul_one, ← List.map_take, hu]
  congr 1
  rcases Nat.le_total l.length m with h | h
  ·rw [Nat.min_eq_left h, List.take_length, List.take_of_length_le h]
  ·rw [Nat.min_eq_right h])
 rw [HL.out]
 by_cases h : l.length ≤ m
 ·obtain rfl : u = l.length := by omega
  clear hu
  go_enter Try.func22, Try.ntmps22
  go_wp2_with (first
   | (with_reducible refine cut_hi 12 22 _ _ 3 Try.underlying22 1 size_int a l.length c _ rfl hs _ _ l.length rfl rfl (Nat.le_refl _) ?_; intro hcut)
   | (at_builtin; refine app_is rfl _ _ rfl w w.heap.size _ _ _ _ rfl (Go.Dx.Own.nil _ _ _ _) _ _ _ (l.take m) rfl (HE.out ▸ hcut) (by omega) (Nat.le_refl _) (Below.refl _ _) ?_; intro a' c' w' ho' hgr' hb'))
  go_ret
  exact ⟨a', c', by simp, by simpa using ho', hb'⟩
 ·obtain rfl : u = m := by omega
  clear hu
  go_enter Try.func22, Try.ntmps22
  go_wp2_with (first
   | (with_reducible refine cut_hi 12 22 _ _ 3 Try.underlying22 1 size_int a l.length c _ rfl hs _ _ u rfl rfl hun ?_; intro hcut)
   | (at_builtin; refine app_is rfl _ _ rfl w w.heap.size _ _ _ _ rfl (Go.Dx.Own.nil _ _ _ _) _ _ _ (l.take u) rfl (HE.out ▸ hcut) (by omega) (Nat.le_refl _) (Below.refl _ _) ?_; intro a' c' w' ho' hgr' hb'))
  go_ret
  exact ⟨a', c', by simp, by simpa using ho', hb'⟩
end Go.Proofs.Ytlpkicjijlcbfaa
end

section
/- Chapter 08: a list of ints that the call owns, whose block holds ints alone. -/
namespace Go.Dx
open Go.RowKit
def IntB (w : World) (a : Option Addr) : Prop := ∀ q, a = some q → ∃ C T z, w.heap[q.block]? = some (.cells C T z) ∧ ∀ u ∈ C.toList, ∃ k, u = Value.int .i64 k
theorem IntB.nil (w : World) : IntB w none := fun q h => by cases h
theorem IntB.below {w w' : World} {a : Option Addr} (h : IntB w a) (hb : Below w.heap.size w w') : IntB w' a := fun q hq => by
 obtain ⟨C, T, z, h1, h2⟩ := h q hq
 exact ⟨C, T, z, (hb.block _ (Array.getElem?_eq_some_iff.1 h1).1).trans h1, h2⟩
theorem IntB.far {w : World} {a b : Option Addr} {n c : Nat} {l : List UInt8} (h : IntB w a) (hs : Sl w 1 b n c (l.map B8)) (h0 : 0 < l.length) : ∀ p, b = some p → some p.block ≠ a.map (·.block) := by
 intro p hp e
 cases a with
 | none => cases e
 | some q =>
  injection e with e
  obtain ⟨C, T, z, h1, h2⟩ := h q rfl
  obtain ⟨x, hx⟩ : ∃ x, l[0]? = some x := ⟨_, List.getElem?_eq_getElem h0⟩
  have hc := hs.cell p hp 0 (B8 x) (by rw [List.getElem?_map, hx]; rfl)
  unfold World.cell? at hc
  rw [show (p.add 0).block = q.block from e, h1] at hc
  simp only at hc
  split at hc
  ·cases hc
  ·obtain ⟨k, hk⟩ := h2 _ (List.mem_of_getElem? (by rw [Array.getElem?_toList]; exact hc))
   cases hk
theorem zeroInt (n : Nat) : ∀ u ∈ (Builtin.zeroCells #[Value.int .i64 0] n).toList, ∃ k, u = Value.int .i64 k := by
 intro u hu
 unfold Builtin.zeroCells at hu
 rw [Array.toList_map, List.mem_map] at hu
 obtain ⟨i, _, rfl⟩ := hu
 refine ⟨0, ?_⟩
 rw [show (#[Value.int .i64 0] : Array Value).size = 1 from rfl, Nat.mod_one]
 rfl
section laws
variable {P : Program} {w : World} {ops : Array Oper} {rest : List Oper} {o : Oper} {act : Act} {Q : Exit → Act → World → Prop}
theorem run_append_int (base : Nat) (t tx ty e : TypeId) (i : TypeInfo) (ht : P.underlying t = some (.slice e)) (hi : P.info? e = some i) (hz : i.zero = some (.int .i64 0))
  (hzs : i.size = 1) (a : Option Addr) (n c : Nat) (xs : List Value) (hown : Own w base e i.size a n c xs) (hA : IntB w a) (hx : ∀ u ∈ xs, ∃ k, u = Value.int .i64 k)
  (x : Value) (m : Nat) (news : List Value) (hs : Src P i.size tx x m news w) (hnw : ∀ u ∈ news, ∃ k, u = Value.int .i64 k)
  (h63 : n + m ≤ maxLen) (hbytes : (n + m) * i.bytes ≤ 140737488355328) (hbase : base ≤ w.heap.size) :
  ∃ a' c' w', (Builtin.append_ #[t, tx] ty #[.slice a n c, x]).run P w = .ok (.slice a' (n + m) c') w' ∧ Own w' base e i.size a' (n + m) c' (xs ++ news) ∧ w.grownBy w' (a.map (·.block)) ∧ IntB w' a' := by
 have hzs : (Value.int .i64 0).cells.size = i.size := by rw [hzs]; rfl
 have hsmall : n + m ≤ 9223372036854775807 := by simp only [maxLen] at h63; omega
 have hlen : (xs ++ news).length = (n + m) * i.size := by rw [List.length_append, hown.1, hs.newsLen, Nat.add_mul]
 have hold : (Builtin.firstCells i.size n (.slice a n c)).run P w.drew = .ok xs.toArray w.drew := by
  have hsl := hown.sl
  cases a with
  | none =>
   have := hsl.nil rfl
   have := hsl.le
   obtain rfl : n = 0 := by omega
   have hnews : xs = [] := List.eq_nil_of_length_eq_zero (by simpa using hsl.len)
   subst hnews
   exact run_firstCells_none w.drew i.size 0 0 c
  | some p => exact run_firstCells_some w.drew i.size n p n c xs hsl.len (by simpa using hsl.cell p rfl)
 by_cases hroom : n + m ≤ c
 ·rcases hown.2 with ⟨h1, h2⟩ | ⟨g, cap, cur, h1, hbg, hg, hnc, hcm, hcs, htake⟩
  ·injection h1 with h1 h3 h4
   subst h1 h3 h4
   obtain rfl : m = 0 := by omega
   have hx : xs = [] := List.eq_nil_of_length_eq_zero (by simpa using hown.1)
   have hnews : news = [] := List.eq_nil_of_length_eq_zero (by simpa using hs.newsLen)
   subst hx hnews
   refine ⟨none, 0, w, ?_, Own.nil w base e i.size, World.grownBy.refl _ _, IntB.nil _⟩
   rcases hs.kind with ⟨e', hk⟩ | hk <;> simp [Builtin.append_, run_underlying ht, run_underlying hk, sizeOf, typeInfo, hi, hs.len, hs.cells]
  ·injection h1 with h1 h3 h4
   subst h1 h4
   have hcur : ∀ u ∈ cur.toList, ∃ k, u = Value.int .i64 k := by
    obtain ⟨C, T, z, k1, k2⟩ := hA _ rfl
    rw [show (⟨g, 0, none⟩ : Addr).block = g from rfl, hg] at k1
    injection k1 with k1
    injection k1 with k1
    rw [k1]
    exact k2
   have hfit : n * i.size + news.length ≤ cur.size := by rw [hs.newsLen, hcs, ← Nat.add_mul]; exact Nat.mul_le_mul_right _ hroom
   have hst := run_storeCells_at P g (n * i.size) e news 0 cur w hg (by simpa using hfit) hs.one
   simp only [Nat.add_zero] at hst
   refine ⟨some ⟨g, 0, none⟩, c, w.setRow g (cur.toList.take (n * i.size) ++ news ++ cur.toList.drop (n * i.size + news.length)).toArray, ?_, ⟨hlen, .inr ⟨g, c, _, rfl, hbg, setRow_heap w g cur _ e _ hg, hroom, hcm, ?_, ?_⟩⟩, ⟨rfl, rfl, rfl, by simp, fun k _ hk => setRow_other w g k _ (fun e => hk (by simp [e]))⟩, ?_⟩
   ·rcases hs.kind with ⟨e', hk⟩ | hk <;> simp [Builtin.append_, run_underlying ht, run_underlying hk, sizeOf, typeInfo, hi, hs.len, hroom, hs.cells, Addr.add_lit, hst]
   ·simp only [List.size_toArray, List.length_append, List.length_take, List.length_drop, Array.length_toList]
    omega
   ·rw [htake, ← hlen]
    exact List.take_left
   ·intro q hq
    injection hq with hq
    subst hq
    refine ⟨_, _, _, setRow_heap w g cur _ e _ hg, ?_⟩
    intro u hu
    rw [List.toList_toArray, List.mem_append, List.mem_append] at hu
    rcases hu with (hu | hu) | hu
    ·exact hcur u (List.mem_of_mem_take hu)
    ·exact hnw u hu
    ·exact hcur u (List.mem_of_mem_drop hu)
 ·have hr := run_append_grow_src (P := P) w t tx ty e i (.int .i64 0) ht hi hz a n c xs hold x m news hs (by omega) (by omega) (growslice_fits (by omega) hbytes)
  have hge := grownCap_ge w (n + m) c e
  have hcm : grownCap w (n + m) c e ≤ maxLen := grownCap_le_maxLen w (n + m) c e h63
  refine ⟨_, _, _, hr, ⟨hlen, .inr ⟨w.heap.size, _, _, rfl, hbase, heap_alloc_new w.drew _, hge, hcm, ?_, ?_⟩⟩, ⟨rfl, rfl, rfl, by simp, fun k hk _ => Below.heap_alloc w.drew _ k hk⟩, ?_⟩
  ·simp only [Array.size_append, List.size_toArray, size_zeroCells, hzs, hlen, ← Nat.add_mul]
   congr 1
   omega
  ·simp only [Array.toList_append, List.append_assoc]
   rw [← List.append_assoc, ← hlen]
   exact List.take_left
  ·intro q hq
   injection hq with hq
   subst hq
   refine ⟨_, _, _, heap_alloc_new w.drew _, ?_⟩
   intro u hu
   rw [Array.toList_append, List.mem_append] at hu
   rcases hu with hu | hu
   ·rw [List.toList_toArray, List.mem_append] at hu
    rcases hu with hu | hu
    ·exact hx u hu
    ·exact hnw u hu
   ·exact zeroInt _ u hu
theorem append_int1 (hg : o.guard = none) (s x : Operand) (t : TypeId) (hop : o.op = Op.call { callee := Callee.builtin Builtin.append, args := #[s, x], argTypes := #[t, t] })
  (e : TypeId) (ht : P.underlying t = some (.slice e)) (hi : (P.info? e).map (fun i => (i.zero, i.size, i.bytes)) = some (some (.int .i64 0), 1, 8))
  (w0 : World) (B : Nat) (a : Option Addr) (n c : Nat) (xs : List Int) (hs : act.eval s = .slice a n c) (hown : Own w B e 1 a n c (xs.map I64)) (hA : IntB w a)
  (u : Int) (hx : act.eval x = .slice (some ⟨w.heap.size, 0, none⟩) 1 1)
  (hn : n + 1 ≤ 1000000000) (hB : B ≤ w.heap.size) (hbel : Below B w0 w)
  (hK : ∀ a' c' w', Own w' B e 1 a' (n + 1) c' ((xs ++ [u]).map I64) → IntB w' a' → w.grownBy w' (a.map (·.block)) → Below B w0 w' → wpList P ops Q rest (act.put o.dst (.slice a' (n + 1) c')) w') :
  wpList P ops Q (o :: rest) act (w.alloc (.cells #[.int .i64 u] e)) := by
 obtain ⟨i, hi0, hz0, hz1, hz2⟩ := info_parts hi
 have hal : Below w.heap.size w (w.alloc (.cells #[.int .i64 u] e)) := (Below.refl w.heap.size w).alloc (Nat.le_refl _) _
 have hown1 : Own (w.alloc (.cells #[.int .i64 u] e)) B e i.size a n c (xs.map I64) := by rw [hz1]; exact hown.alloc _
 have hy : Sl (w.alloc (.cells #[.int .i64 u] e)) i.size (some ⟨w.heap.size, 0, none⟩) 1 1 [.int .i64 u] := by
  rw [hz1]
  have := (Own.built w 0 e 1 1 #[.int .i64 u] (Nat.zero_le _) rfl (by decide)).sl
  simpa using this
 obtain ⟨a', c', w', hrun, ho, hgr, hI⟩ := run_append_int (P := P) (w := w.alloc (.cells #[.int .i64 u] e)) B t t o.type e i ht hi0 hz0 hz1 a n c _ hown1 (hA.below hal)
  (fun v hv => by obtain ⟨k, _, rfl⟩ := List.mem_map.1 hv; exact ⟨k, rfl⟩) _ 1 _ (hy.src ht (by simp [Value.oneCell'])) (by simp) (by unfold maxLen; omega) (by rw [hz2]; omega) (by simp; omega)
 have hgr' : w.grownBy w' (a.map (·.block)) := ⟨hgr.os, hgr.tape, hgr.output, by have := hgr.size; simp at this; omega, fun k hk hne => by
  rw [hgr.block k (by simp; omega) hne]
  rw [Below.heap_alloc _ _ _ hk]⟩
 refine wpList_plain hg fun K hK' => ?_
 unfold Oper.wp
 simp [execOp, hop, resolve, invoke, builtin, hs, hx, hrun, Result.andThen]
 refine hK' _ _ (hK a' c' w' (by rw [hz1] at ho; rw [List.map_append]; exact ho) hI hgr' (hbel.grown hgr' hB ?_))
 intro k hk
 cases a with
 | none => cases hk
 | some p => injection hk with hk; subst hk; exact hown.base.1
end laws
end Go.Dx
namespace Go.Proofs.Ytlpkicjijlcbfaa
open Go.RowKit Go.Dx Go.Al
section
variable {ops : Array Oper} {rest : List Oper} {o : Oper} {act : Act} {Q : Exit → Act → World → Prop} {w : World}
theorem app_iB (hg : o.guard = none) (s x : Operand) (hop : o.op = Op.call { callee := Callee.builtin Builtin.append, args := #[s, x], argTypes := #[22, 22] })
  (w0 : World) (B : Nat) (a : Option Addr) (n c : Nat) (xs : List Int) (hs : act.eval s = .slice a n c) (hown : Go.Dx.Own w B 3 1 a n c (xs.map I64)) (hA : IntB w a)
  (u : Int) (hx : act.eval x = .slice (some ⟨w.heap.size, 0, none⟩) 1 1)
  (hn : n + 1 ≤ 1000000000) (hB : B ≤ w.heap.size) (hbel : Below B w0 w)
  (hK : ∀ a' c' w', Go.Dx.Own w' B 3 1 a' (n + 1) c' ((xs ++ [u]).map I64) → IntB w' a' → w.grownBy w' (a.map (·.block)) → Below B w0 w' → wpList Try.prog ops Q rest (act.put o.dst (.slice a' (n + 1) c')) w') :
  wpList Try.prog ops Q (o :: rest) act (w.alloc (.cells #[.int .i64 u] 3)) :=
 append_int1 hg s x 22 hop 3 Try.underlying22 info_int w0 B a n c xs hs hown hA u hx hn hB hbel hK
end
end Go.Proofs.Ytlpkicjijlcbfaa
end

section
/- Chapter 08: the reference's Path. -/
namespace Go.Dx
open Go.RowKit
theorem take_ne {c r : List UInt8} {z : Nat} {u v : UInt8} (hu : r[z]? = some u) (hv : c[z]? = some v) (h : u ≠ v) : c ≠ r.take c.length := by
 intro e
 have h1 := (List.getElem?_eq_some_iff.1 hv).1
 have h2 : (r.take c.length)[z]? = some v := by rw [← e]; exact hv
 rw [List.getElem?_take_of_lt h1, hu] at h2
 injection h2 with h2
 exact h h2
theorem take_short {c r : List UInt8} (h : r.length < c.length) : c ≠ r.take c.length := by
 intro e
 have := congrArg List.length e
 rw [List.length_take] at this
 omega
theorem take_next {c r : List UInt8} {z : Nat} {u : UInt8} (h : c.take z = r.take z) (hc : c[z]? = some u) (hr : r[z]? = some u) : c.take (z + 1) = r.take (z + 1) := by
 rw [List.take_add_one, List.take_add_one, h, hc, hr]
end Go.Dx
namespace Go.Proofs.Ytlpkicjijlcbfaa
open Go.RowKit Go.Dx Go.Al
set_option maxRecDepth 100000 in
set_option maxHeartbeats 8000000 in
theorem ref8_Path (H : TH) (t : Ta) (l : List Sy) (a : Option Addr) (n c : Nat) (cells : List UInt8) (taken : List Int) (ea ta : Option Addr) (en ec tn tc : Nat) (w : World) (hT : TaIs w H t) (hs : Sl w 2 a n c (l.flatMap sc)) (hE : Sl w 1 ea en ec (cells.map B8)) (hK : Sl w 1 ta tn tc (taken.map I64))
  (hv : validE t = 0) (hg : goodS l = true) (h2 : l.length ≤ 2048) (hce : cells.length ≤ 1000000) :
  Calls Try.prog 66 #[H.v, .slice a n c, .slice ea en ec, .slice ta tn tc] w fun e w' => GivesFo t l cells taken e w' ∧ Below w.heap.size w w' := by
 have HV := hide hv
 have HG := hide hg
 have H2 := hide h2
 have HCE := hide hce
 have Hm := hide hT
 have Hs := hide hs
 have He := hide hE
 have Hk := hide hK
 clear hv hg h2 hce hT hs hE hK
 obtain ⟨⟨a0, n0, c0⟩, ⟨a1, n1, c1⟩, ps0, ps1, ⟨ad, nd, cd⟩, ⟨ac, nc, cc⟩, ⟨an, nn, cn⟩, ⟨af, nf, cf⟩, ⟨aw, nw, cw⟩⟩ := H
 unfold TH.v
 simp only [hdv]
 have Y1 := Box.new w 29 #[.slice a0 n0 c0, .slice a1 n1 c1, .slice ad nd cd, .slice ac nc cc, .slice an nn cn, .slice af nf cf, .slice aw nw cw]
 have hba := blo w (.cells #[.slice a0 n0 c0, .slice a1 n1 c1, .slice ad nd cd, .slice ac nc cc, .slice an nn cn, .slice af nf cf, .slice aw nw cw] 29)
 go_enter Try.func66, Try.ntmps66
 go_upto_region 1 with fail
 generalize w.alloc (.cells _ 29) = w2 at *
 obtain ⟨H, hH⟩ : ∃ H : TH, H = ⟨(a0, n0, c0), (a1, n1, c1), ps0, ps1, (ad, nd, cd), (ac, nc, cc), (an, nn, cn), (af, nf, cf), (aw, nw, cw)⟩ := ⟨_, rfl⟩
 have HX2 : Box w2 w.heap.size 29 (tcells H) := by rw [hH]; exact Y1
 have HT2 : TaIs w2 H t := by rw [hH]; exact Hm.out.below hba
 have HS2 := Hs.out.below hba
 have HE2 := He.out.below hba
 have HK2 := hide (Hk.out.below hba)
 clear hH Hm Hs He Hk Y1
 obtain ⟨gT, hgT⟩ : ∃ gT, Hid (w.heap.size = gT) := ⟨_, hide rfl⟩
 rw [hgT.out] at HX2 ⊢
 have hbl2 := hide hba
 clear hba
 have HBs := Box.new w2 70 #[.int .i64 0, .bool false, .bool false]
 have hbB := blo w2 (.cells #[.int .i64 0, .bool false, .bool false] 70)
 go_upto_region 3 with fail
 generalize hw3 : w2.alloc (.cells _ 70) = w3 at *
 have hs3 : w3.heap.size = w2.heap.size + 1 := by rw [← hw3]; simp
 clear hw3
 obtain ⟨gS, hgS⟩ : ∃ gS, Hid (w2.heap.size = gS) := ⟨_, hide rfl⟩
 rw [hgS.out] at HBs hbB hs3 ⊢
 have hgTS : gT < gS := by rw [← hgS.out]; exact HX2.lt
 have hgwS : w.heap.size ≤ gS := by rw [← hgS.out]; exact hbl2.out.size
 have HS3 := hide hs3
 clear hs3
 have hnl : n = l.length := HS2.nf sc_len (by decide)
 have HNL := hide hnl
 clear hnl
 have hn20 : n ≤ 2048 := by have := H2.out; have := HNL.out; omega
 have htn : tn = taken.length := HK2.out.n_eq
 have HTN := hide htn
 clear htn
 have htm := Nat.le_trans HK2.out.le HK2.out.cap
 unfold maxLen at htm
 have hen : en = cells.length := HE2.n_eq
 have hen6 : en ≤ 1000000 := by have := HCE.out; omega
 have HEN := hide hen
 have HE2h := hide HE2
 clear hen HE2
 go_wp2_with fail
 go_loopg [10, 12, 13] tn (fun gh v10 v12 v13 w' => ∃ (j i : Nat) (s : St) (o3 : Option Addr) (n3 c3 : Nat) (P : List Int), j ≤ tn ∧ gh = tn - j ∧ v13 = .int .i64 (j : Int) ∧ v12 = .int .i64 (i : Int) ∧ v10 = .slice o3 n3 c3 ∧ i ≤ n ∧ (s.lang = 0 ∨ s.lang = 1) ∧ n3 ≤ en ∧ Go.Dx.Own w' (gS + 1) 3 1 o3 n3 c3 (P.map I64) ∧ IntB w' o3 ∧ Box w' gS 70 (scells s) ∧ Below gS w2 w' ∧ gS + 1 ≤ w'.heap.size ∧ followF t l taken 0 s00 cells = (followF t l (taken.drop j) i s (cells.drop n3)).map (P ++ ·))
 case atStart => exact ⟨0, 0, s00, none, 0, 0, [], Nat.zero_le _, rfl, rfl, rfl, rfl, Nat.zero_le _, .inl rfl, Nat.zero_le _, Go.Dx.Own.nil _ _ _ _, IntB.nil _, HBs, hbB, by rw [HS3.out]; exact Nat.le_refl _, by simp⟩
 case round =>
  clear HBs hbB
  obtain ⟨j, i, s, o3, n3, c3, P, hj, hgh, rfl, rfl, rfl, hi, hsl, hn3, hO, hI, hX, hb, hBw, hpl⟩ := hrel
  have HGH := hide hgh
  have HPL := hide hpl
  clear hgh hpl
  by_cases hjn : j < tn
  ·have d0 : decide ((j : Int) < (tn : Int)) = true := decide_eq_true (by omega)
   have hb' : Below w2.heap.size w2 wr := by rw [hgS.out]; exact hb
   obtain ⟨k, hk⟩ : ∃ k, taken[j]? = some k := ⟨_, List.getElem?_eq_getElem (by have := HTN.out; omega)⟩
   have hdr : taken.drop j = k :: taken.drop (j + 1) := by
    rw [List.drop_eq_getElem_cons (by have := HTN.out; omega)]
    congr 1
    exact (List.getElem?_eq_some_iff.1 hk).2
   have hpl := HPL.out
   rw [hdr] at hpl
   have HPL' := hide hpl
   clear HPL hpl hdr
   by_cases hin : i < n
   ·have d1 : decide ((i : Int) ≥ (n : Int)) = false := decide_eq_false (by omega)
    have d1' : decide ((n : Int) ≤ (i : Int)) = false := decide_eq_false (by omega)
    have HXr : Box wr gT 29 (tcells H) := HX2.below hb hgTS
    have HTr := HT2.below hb'
    have HSr := HS2.below hb'
    have hinl : i < l.length := by have := HNL.out; omega
    obtain ⟨L, hL⟩ : ∃ L, Hid (stepsL t s l i = L) := ⟨_, hide rfl⟩
    have HSN := hide (rsteps_of8 H t s l (i : Int) hL.out a n c (by have := H2.out; omega) wr HTr HSr)
    go_upto_region 10 with (first
     | (with_reducible refine load_struct 27 29 _ 7 size_tables _ Try.underlying29 ⟨gT, 0, none⟩ rfl (tcells H) rfl (fun j u hj => by rw [Addr.add_lit, Nat.zero_add]; exact HXr.at_ hj) ?_)
     | (with_reducible refine load_struct 28 70 _ 3 size_rst _ Try.underlying70 ⟨gS, 0, none⟩ rfl (scells s) rfl (fun j u hj => by rw [Addr.add_lit, Nat.zero_add]; exact hX.at_ hj) ?_)
     | (go_at_call 44; refine HSN.out.mono ?_; rintro e w5 ⟨a2, c2, ps2, rfl, hS5, hb5⟩))
    have hX5 := hX.under hb5
    have hO5 := hO.below hb5
    have hI5 := hI.below hb5
    have hb25 := hb.trans (hb5.mono (by omega))
    have hB5 : gS + 1 ≤ w5.heap.size := Nat.le_trans hBw hb5.size
    have hb25' : Below w2.heap.size w2 w5 := by rw [hgS.out]; exact hb25
    have hKr := HK2.out.below hb25'
    have hbl5 := hbl2.out.trans (hb25.mono hgwS)
    clear HXr HTr HSr HSN hX hO hI hb hb' hBw hb5
    obtain ⟨LN, hLN⟩ : ∃ LN, L.length = LN := ⟨_, rfl⟩
    rw [hLN] at hS5 ⊢
    have hLN6 : LN ≤ 1000000 := by rw [← hLN, ← hL.out]; exact steps_few HV.out s l i
    have HLN := hide hLN
    clear hLN
    by_cases hk0 : k < 0
    ·have d2 : decide (k < 0) = true := decide_eq_true hk0
     have e1 := HPL'.out
     rw [follow_neg hk0, Option.map_none] at e1
     have HE1 := hide e1
     clear e1 hS5
     go_wp2_with (first
      | (with_reducible refine idx_i 34 _ _ ta tn tc taken rfl hKr .i64 _ j rfl rfl _ hk ?_; intro bI oI hcI hbI)
      | (refine unguard_any (by first | rfl | (simp [Region.wanted, yielded, Act.put]; done)) ?_; with_reducible refine idx_i 40 _ _ ta tn tc taken rfl hKr .i64 _ j rfl rfl _ hk ?_; intro bJ oJ hcJ hbJ))
     go_ret2
     exact ⟨⟨none, 0, 0, by rw [HE1.out]; rfl, fun Q hq => by rw [HE1.out] at hq; cases hq⟩, hbl5⟩
    ·have d2 : decide (k < 0) = false := decide_eq_false hk0
     obtain ⟨q, rfl⟩ : ∃ q : Nat, k = (q : Int) := ⟨k.toNat, by omega⟩
     by_cases hqn : LN ≤ q
     ·have d3 : decide ((LN : Int) ≤ (q : Int)) = true := decide_eq_true (by omega)
      have d3' : decide ((q : Int) ≥ (LN : Int)) = true := decide_eq_true (by omega)
      have d3n : decide (LN ≤ q) = true := decide_eq_true hqn
      have e1 := HPL'.out
      rw [follow_out (by rw [hL.out, HLN.out]; exact hqn), Option.map_none] at e1
      have HE1 := hide e1
      clear e1 hS5
      go_wp2_with (first
       | (with_reducible refine idx_i 34 _ _ ta tn tc taken rfl hKr .i64 _ j rfl rfl _ hk ?_; intro bI oI hcI hbI)
       | (refine unguard_any (by first | rfl | (simp [Region.wanted, yielded, Act.put]; done)) ?_; with_reducible refine idx_i 40 _ _ ta tn tc taken rfl hKr .i64 _ j rfl rfl _ hk ?_; intro bJ oJ hcJ hbJ))
      go_ret2
      exact ⟨⟨none, 0, 0, by rw [HE1.out]; rfl, fun Q hq => by rw [HE1.out] at hq; cases hq⟩, hbl5⟩
     ·have d3 : decide ((LN : Int) ≤ (q : Int)) = false := decide_eq_false (by omega)
      have d3' : decide ((q : Int) ≥ (LN : Int)) = false := decide_eq_false (by omega)
      have d3n : decide (LN ≤ q) = false := decide_eq_false hqn
      have hkLN : q < LN := by omega
      obtain ⟨p, hpk⟩ : ∃ p, ps2[q]? = some p := ⟨_, List.getElem?_eq_getElem (by have := congrArg List.length hS5.eq; rw [List.length_map] at this; have := HLN.out; omega)⟩
      have hkx : (stepsL t s l i)[(q : Int).toNat]? = some p.1 := by rw [hL.out, ← hS5.eq, Int.toNat_natCast, List.getElem?_map, hpk]; rfl
      have hxm : p.1 ∈ stepsL t s l i := List.mem_of_getElem? hkx
      have hst := step_meas HV.out HG.out hinl hsl hxm
      have hcf := step_cells HV.out hxm
      have HKX := hide hkx
      clear hkx hxm
      obtain ⟨b4, o4, hab, hb4', x0, x1, x2, x3, x4, x5⟩ := st_cells hS5 hpk
      subst hab
      have hslc := hS5.row p (List.mem_of_getElem? hpk)
      have hpn := hslc.n_eq
      obtain ⟨⟨⟨sl, sn, si⟩, lnn, cs, ru⟩, ⟨qa, qn, qc⟩⟩ := p
      simp only at x0 x1 x2 x3 x4 x5 hslc hpn hst hcf
      obtain ⟨lk, rfl⟩ : ∃ lk : Nat, lnn = (lk : Int) := ⟨lnn.toNat, by have := hst.2.2.2; omega⟩
      simp only [Int.toNat_natCast] at hst
      have HST := hide hst
      have hqn12 : qn ≤ 12 := by omega
      have hil : i + lk ≤ n := by have := HNL.out; omega
      have HPN := hide hpn
      clear hpn hcf hst hpk
      have hldc : ∀ j u, ([.int .i64 sl, .bool sn, .bool si, .int .i64 (lk : Int), .slice qa qn qc, .int .i64 ru] : List Value)[j]? = some u → w5.cell? ((⟨b4, o4 + q * 6, none⟩ : Addr).add j) = some u := fun j u hj => by
       rw [Addr.add_lit]
       match j, hj with
       | 0, hj => cases hj; exact x0
       | 1, hj => cases hj; exact x1
       | 2, hj => cases hj; exact x2
       | 3, hj => cases hj; exact x3
       | 4, hj => cases hj; exact x4
       | 5, hj => cases hj; exact x5
       | j + 6, hj => cases hj
      have HLD := hide hldc
      clear hldc x0 x1 x2 x3 x4 x5 hS5
      have HP9 := Box.new w5 103 #[.int .i64 sl, .bool sn, .bool si, .int .i64 (lk : Int), .slice qa qn qc, .int .i64 ru]
      have hb59 := blo w5 (.cells #[.int .i64 sl, .bool sn, .bool si, .int .i64 (lk : Int), .slice qa qn qc, .int .i64 ru] 103)
      go_wp2_with (first
       | (with_reducible refine idx_i 34 _ _ ta tn tc taken rfl hKr .i64 _ j rfl rfl (q : Int) hk ?_; intro bI oI hcI hbI)
       | (refine unguard_any (by first | rfl | (simp [Region.wanted, yielded, Act.put]; done)) ?_; with_reducible refine idx_i 40 _ _ ta tn tc taken rfl hKr .i64 _ j rfl rfl (q : Int) hk ?_; intro bJ oJ hcJ hbJ)
       | (with_reducible refine idx_i 49 _ _ ta tn tc taken rfl hKr .i64 _ j rfl rfl (q : Int) hk ?_; intro bL oL hcL hbL)
       | (with_reducible refine index_rowk 51 104 _ _ 103 Try.underlying104 6 size_rf6 b4 o4 LN c2 rfl _ _ q rfl rfl hkLN ?_)
       | (with_reducible refine load_struct 52 103 _ 6 size_rf6 _ Try.underlying103 ⟨b4, o4 + q * 6, none⟩ rfl [.int .i64 sl, .bool sn, .bool si, .int .i64 (lk : Int), .slice qa qn qc, .int .i64 ru] rfl HLD.out ?_)
       | (with_reducible refine store_fresh 103 103 _ _ 6 size_rf6 _ rfl (.agg #[.int .i64 sl, .bool sn, .bool si, .int .i64 (lk : Int), .slice qa qn qc, .int .i64 ru]) [.int .i64 sl, .bool sn, .bool si, .int .i64 (lk : Int), .slice qa qn qc, .int .i64 ru] rfl rfl rfl rfl (by simp [Value.oneCell']) ?_; refine hold ?_))
      refine hide ?_
      generalize w5.alloc (.cells _ 103) = w9 at *
      obtain ⟨gP, hgP⟩ : ∃ g, Hid (w5.heap.size = g) := ⟨_, hide rfl⟩
      rw [hgP.out] at HP9 ⊢
      have HP9 : Box w9 gP 103 [.int .i64 sl, .bool sn, .bool si, .int .i64 (lk : Int), .slice qa qn qc, .int .i64 ru] := HP9
      have hX9 := hX5.under hb59
      have hO9 := hO5.below hb59
      have hI9 := hI5.below hb59
      have hQ9 := hslc.below hb59
      have hb29 := hb25.trans (hb59.mono (by omega))
      have hB9 : gS + 1 ≤ w9.heap.size := Nat.le_trans hB5 hb59.size
      clear hX5 hO5 hI5 hb25 hb25' hKr hbl5 hslc hb59 hB5 HLD hk
      go_wp2_with fail
      go_loopg [10, 16] qn (fun gh v10 v16 w' => ∃ (z nz : Nat) (o4' : Option Addr) (c4 : Nat), z ≤ qn ∧ gh = qn - z ∧ v16 = .int .i64 (z : Int) ∧ Hid (nz = n3 + z) ∧ v10 = .slice o4' nz c4 ∧ nz ≤ en ∧ Go.Dx.Own w' (gS + 1) 3 1 o4' nz c4 ((P ++ List.replicate z (i : Int)).map I64) ∧ IntB w' o4' ∧ Sl w' 1 qa qn qc (cs.map B8) ∧ Box w' gP 103 [.int .i64 sl, .bool sn, .bool si, .int .i64 (lk : Int), .slice qa qn qc, .int .i64 ru] ∧ Box w' gS 70 (scells s) ∧ Below gS w2 w' ∧ gS + 1 ≤ w'.heap.size ∧ Hid (cs.take z = (cells.drop n3).take z))
      case atStart => exact ⟨0, n3, o3, c3, Nat.zero_le _, rfl, rfl, hide rfl, rfl, hn3, by simpa using hO9, hI9, hQ9, HP9, hX9, hb29, hB9, hide rfl⟩
      case round =>
       clear hO9 hI9 hQ9 HP9 hX9 hb29 hB9
       obtain ⟨z, nz, o4', c4, hz, hgh, rfl, hnz, rfl, hnz2, hO, hI, hQ, hP, hX, hb, hBw, hmt⟩ := hrel
       have HGZ := hide hgh
       clear hgh
       have y4 : wr.cell? ⟨gP, 4, none⟩ = some (.slice qa qn qc) := hP.at_ rfl
       by_cases hzq : z < qn
       ·have d5 : decide ((z : Int) < (qn : Int)) = true := decide_eq_true (by omega)
        obtain ⟨v, hv⟩ : ∃ v, cs[z]? = some v := ⟨_, List.getElem?_eq_getElem (by have := HPN.out; omega)⟩
        by_cases hle : en ≤ nz
        ·have d6 : decide ((en : Int) ≤ (nz : Int)) = true := decide_eq_true (by omega)
         have d6' : decide ((nz : Int) ≥ (en : Int)) = true := decide_eq_true (by omega)
         have d6n : decide (en ≤ nz) = true := decide_eq_true hle
         have e1 := HPL'.out
         rw [follow_ne HKX.out (take_short (by rw [List.length_drop]; simp only; have := HPN.out; have := HEN.out; have := hnz.out; omega)), Option.map_none] at e1
         have HE1 := hide e1
         clear e1
         go_wp2_with fail
         go_quiet (fail)
         go_wp2_with fail
         go_ret2
         exact ⟨⟨none, 0, 0, by rw [HE1.out]; rfl, fun Q hq => by rw [HE1.out] at hq; cases hq⟩, hbl2.out.trans ((hb.trans ((Still.below nq : Below wr.heap.size wr (wr.drewN nq)).mono (by omega))).mono hgwS)⟩
        ·have d6 : decide ((en : Int) ≤ (nz : Int)) = false := decide_eq_false (by omega)
         have d6' : decide ((nz : Int) ≥ (en : Int)) = false := decide_eq_false (by omega)
         have d6n : decide (en ≤ nz) = false := decide_eq_false hle
         obtain ⟨u, hu⟩ : ∃ u, cells[nz]? = some u := ⟨_, List.getElem?_eq_getElem (by have := HEN.out; omega)⟩
         have hur : Hid ((cells.drop n3)[z]? = some u) := hide (by rw [List.getElem?_drop, ← hnz.out]; exact hu)
         have HU := hide hu
         have HVv := hide hv
         clear hu hv
         have hEr := HE2h.out.below (show Below w2.heap.size w2 wr by rw [hgS.out]; exact hb)
         obtain ⟨ne, hne⟩ : ∃ ne, Hid (((u.toNat : Int) != (v.toNat : Int)) = ne) := ⟨_, hide rfl⟩
         go_wp2_with fail
         refine wp_region_free 17 [⟨0, 60, [60], fun vs _ => vs = [.slice o4' nz c4]⟩, ⟨1, 61, [61], fun vs _ => vs = [.int .i64 (nz : Int)]⟩, ⟨2, 62, [62], fun vs _ => vs = [.slice ea en ec]⟩, ⟨3, 63, [63], fun vs _ => vs = [.int .i64 (en : Int)]⟩, ⟨4, 64, [64], fun vs _ => vs = [.bool false]⟩, ⟨5, 65, [65], fun vs _ => vs = [.bool false]⟩, ⟨6, 66, [66], fun vs _ => vs = [.slice ea en ec]⟩, ⟨7, 67, [67], fun vs _ => vs = [.slice o4' nz c4]⟩, ⟨8, 68, [68], fun vs _ => vs = [.int .i64 (nz : Int)]⟩, ⟨9, 69, [69], PtL (B8 u)⟩, ⟨10, 70, [70], fun vs _ => vs = [B8 u]⟩, ⟨11, 71, [71], fun vs _ => vs = [.pointer (some ⟨gP, 4, none⟩)]⟩, ⟨12, 72, [72], fun vs _ => vs = [.slice qa qn qc]⟩, ⟨13, 73, [73], fun vs _ => vs = [.int .i64 (z : Int)]⟩, ⟨14, 74, [74], PtL (B8 v)⟩, ⟨15, 75, [75], fun vs _ => vs = [B8 v]⟩, ⟨16, 76, [76], fun vs _ => vs = [.bool ne]⟩] (by kernel_rfl) (by kernel_rfl) ?_ ?_ ?_
         ·simp only [All]
          refine ⟨fun _ _ _ _ h => h, fun _ _ _ _ h => h, fun _ _ _ _ h => h, fun _ _ _ _ h => h, fun _ _ _ _ h => h, fun _ _ _ _ h => h, fun _ _ _ _ h => h, fun _ _ _ _ h => h, fun _ _ _ _ h => h, ?_, fun _ _ _ _ h => h, fun _ _ _ _ h => h, fun _ _ _ _ h => h, fun _ _ _ _ h => h, ?_, fun _ _ _ _ h => h, fun _ _ _ _ h => h, trivial⟩
          ·rintro vs w1 w2 hb ⟨b, o, h1, h2⟩
           exact ⟨b, o, h1, cell_blw8 h2 hb⟩
          ·rintro vs w1 w2 hb ⟨b, o, h1, h2⟩
           exact ⟨b, o, h1, cell_blw8 h2 hb⟩
         ·simp only [All]
          refine ⟨?_, ?_, ?_, ?_, ?_, ?_, ?_, ?_, ?_, ?_, ?_, ?_, ?_, ?_, ?_, ?_, ?_, trivial⟩
          ·intro o ho a' w' hb hfr hdep; obtain rfl := oj ho
           have g10 : a'.tmps[10]?.getD undef = .slice o4' nz c4 := by simpa using hfr 10 (by kernel_rfl)
           clear ho hfr hdep; go_wp2_with fail; exact ⟨rfl, _, rfl, br, rfl⟩
          ·intro o ho a' w' hb hfr hdep; obtain rfl := oj ho
           have g60 : a'.tmps[60]?.getD undef = .slice o4' nz c4 := by simpa using hdep 0 _ rfl (by kernel_rfl)
           clear ho hfr hdep; go_wp2_with fail; exact ⟨rfl, _, rfl, br, rfl⟩
          ·intro o ho a' w' hb hfr hdep; obtain rfl := oj ho
           have g2 : a'.tmps[2]?.getD undef = .slice ea en ec := by simpa using hfr 2 (by kernel_rfl)
           clear ho hfr hdep; go_wp2_with fail; exact ⟨rfl, _, rfl, br, rfl⟩
          ·intro o ho a' w' hb hfr hdep; obtain rfl := oj ho
           have g62 : a'.tmps[62]?.getD undef = .slice ea en ec := by simpa using hdep 2 _ rfl (by kernel_rfl)
           clear ho hfr hdep; go_wp2_with fail; exact ⟨rfl, _, rfl, br, rfl⟩
          ·intro o ho a' w' hb hfr hdep; obtain rfl := oj ho
           have g61 : a'.tmps[61]?.getD undef = .int .i64 (nz : Int) := by simpa using hdep 1 _ rfl (by kernel_rfl)
           have g63 : a'.tmps[63]?.getD undef = .int .i64 (en : Int) := by simpa using hdep 3 _ rfl (by kernel_rfl)
           clear ho hfr hdep; go_wp2_with fail; exact ⟨rfl, _, rfl, br, rfl⟩
          ·intro o ho a' w' hb hfr hdep; obtain rfl := oj ho
           have g64 : a'.tmps[64]?.getD undef = .bool false := by simpa using hdep 4 _ rfl (by kernel_rfl)
           clear ho hfr hdep; go_wp2_with fail; exact ⟨rfl, _, rfl, br, rfl⟩
          ·intro o ho a' w' hb hfr hdep; obtain rfl := oj ho
           have g2 : a'.tmps[2]?.getD undef = .slice ea en ec := by simpa using hfr 2 (by kernel_rfl)
           have g65 : a'.tmps[65]?.getD undef = .bool false := by simpa using hdep 5 _ rfl (by kernel_rfl)
           have q65 := opt_bool g65
           clear ho hfr hdep; refine unguard_any (by simp [Region.wanted, yielded, q65]) ?_
           go_wp2_with fail; exact ⟨rfl, _, rfl, br, rfl⟩
          ·intro o ho a' w' hb hfr hdep; obtain rfl := oj ho
           have g10 : a'.tmps[10]?.getD undef = .slice o4' nz c4 := by simpa using hfr 10 (by kernel_rfl)
           have g65 : a'.tmps[65]?.getD undef = .bool false := by simpa using hdep 5 _ rfl (by kernel_rfl)
           have q65 := opt_bool g65
           clear ho hfr hdep; refine unguard_any (by simp [Region.wanted, yielded, q65]) ?_
           go_wp2_with fail; exact ⟨rfl, _, rfl, br, rfl⟩
          ·intro o ho a' w' hb hfr hdep; obtain rfl := oj ho
           have g67 : a'.tmps[67]?.getD undef = .slice o4' nz c4 := by simpa using hdep 7 _ rfl (by kernel_rfl)
           have g65 : a'.tmps[65]?.getD undef = .bool false := by simpa using hdep 5 _ rfl (by kernel_rfl)
           have q65 := opt_bool g65
           clear ho hfr hdep; refine unguard_any (by simp [Region.wanted, yielded, q65]) ?_
           go_wp2_with fail; exact ⟨rfl, _, rfl, br, rfl⟩
          ·intro o ho a' w' hb hfr hdep; obtain rfl := oj ho
           have g66 : a'.tmps[66]?.getD undef = .slice ea en ec := by simpa using hdep 6 _ rfl (by kernel_rfl)
           have g68 : a'.tmps[68]?.getD undef = .int .i64 (nz : Int) := by simpa using hdep 8 _ rfl (by kernel_rfl)
           have g65 : a'.tmps[65]?.getD undef = .bool false := by simpa using hdep 5 _ rfl (by kernel_rfl)
           have q65 := opt_bool g65
           clear ho hfr hdep; refine unguard_any (by simp [Region.wanted, yielded, q65]) ?_
           refine idx_b 69 _ _ ea en ec cells (by show a'.tmps.getD 66 undef = _; simpa using g66) (hEr.below hb) .i64 _ nz (by show a'.tmps.getD 68 undef = _; simpa using g68) rfl _ HU.out ?_
           intro b o hcell hbo
           exact ⟨rfl, _, rfl, br, b, o, rfl, hcell⟩
          ·intro o ho a' w' hb hfr hdep; obtain rfl := oj ho
           obtain ⟨b69, o69, g69, c69⟩ := hdep 9 _ rfl (by kernel_rfl)
           simp at g69
           have g65 : a'.tmps[65]?.getD undef = .bool false := by simpa using hdep 5 _ rfl (by kernel_rfl)
           have q65 := opt_bool g65
           clear ho hfr hdep; refine unguard_any (by simp [Region.wanted, yielded, q65]) ?_
           have hcl := c69
           go_wp2_with fail; exact ⟨rfl, _, rfl, br, rfl⟩
          ·intro o ho a' w' hb hfr hdep; obtain rfl := oj ho
           have g15 : a'.tmps[15]?.getD undef = .pointer (some ⟨gP, 0, none⟩) := by simpa using hfr 15 (by kernel_rfl)
           have g65 : a'.tmps[65]?.getD undef = .bool false := by simpa using hdep 5 _ rfl (by kernel_rfl)
           have q65 := opt_bool g65
           clear ho hfr hdep; refine unguard_any (by simp [Region.wanted, yielded, q65]) ?_
           go_wp2_with fail; exact ⟨rfl, _, rfl, br, rfl⟩
          ·intro o ho a' w' hb hfr hdep; obtain rfl := oj ho
           have g71 : a'.tmps[71]?.getD undef = .pointer (some ⟨gP, 4, none⟩) := by simpa using hdep 11 _ rfl (by kernel_rfl)
           have g65 : a'.tmps[65]?.getD undef = .bool false := by simpa using hdep 5 _ rfl (by kernel_rfl)
           have q65 := opt_bool g65
           clear ho hfr hdep; refine unguard_any (by simp [Region.wanted, yielded, q65]) ?_
           have hcl := cell_below y4 hb
           go_wp2_with fail; exact ⟨rfl, _, rfl, br, rfl⟩
          ·intro o ho a' w' hb hfr hdep; obtain rfl := oj ho
           have g16 : a'.tmps[16]?.getD undef = .int .i64 (z : Int) := by simpa using hfr 16 (by kernel_rfl)
           have g65 : a'.tmps[65]?.getD undef = .bool false := by simpa using hdep 5 _ rfl (by kernel_rfl)
           have q65 := opt_bool g65
           clear ho hfr hdep; refine unguard_any (by simp [Region.wanted, yielded, q65]) ?_
           go_wp2_with fail; exact ⟨rfl, _, rfl, br, rfl⟩
          ·intro o ho a' w' hb hfr hdep; obtain rfl := oj ho
           have g72 : a'.tmps[72]?.getD undef = .slice qa qn qc := by simpa using hdep 12 _ rfl (by kernel_rfl)
           have g73 : a'.tmps[73]?.getD undef = .int .i64 (z : Int) := by simpa using hdep 13 _ rfl (by kernel_rfl)
           have g65 : a'.tmps[65]?.getD undef = .bool false := by simpa using hdep 5 _ rfl (by kernel_rfl)
           have q65 := opt_bool g65
           clear ho hfr hdep; refine unguard_any (by simp [Region.wanted, yielded, q65]) ?_
           refine idx_b 74 _ _ qa qn qc cs (by show a'.tmps.getD 72 undef = _; simpa using g72) (hQ.below hb) .i64 _ z (by show a'.tmps.getD 73 undef = _; simpa using g73) rfl _ HVv.out ?_
           intro b o hcell hbo
           exact ⟨rfl, _, rfl, br, b, o, rfl, hcell⟩
          ·intro o ho a' w' hb hfr hdep; obtain rfl := oj ho
           obtain ⟨b74, o74, g74, c74⟩ := hdep 14 _ rfl (by kernel_rfl)
           simp at g74
           have g65 : a'.tmps[65]?.getD undef = .bool false := by simpa using hdep 5 _ rfl (by kernel_rfl)
           have q65 := opt_bool g65
           clear ho hfr hdep; refine unguard_any (by simp [Region.wanted, yielded, q65]) ?_
           have hcl := c74
           go_wp2_with fail; exact ⟨rfl, _, rfl, br, rfl⟩
          ·intro o ho a' w' hb hfr hdep; obtain rfl := oj ho
           have g70 : a'.tmps[70]?.getD undef = B8 u := by simpa using hdep 10 _ rfl (by kernel_rfl)
           have g75 : a'.tmps[75]?.getD undef = B8 v := by simpa using hdep 15 _ rfl (by kernel_rfl)
           have g65 : a'.tmps[65]?.getD undef = .bool false := by simpa using hdep 5 _ rfl (by kernel_rfl)
           have q65 := opt_bool g65
           clear ho hfr hdep; refine unguard_any (by simp [Region.wanted, yielded, q65]) ?_
           have hn9 := hne.out
           go_wp2_with fail; exact ⟨rfl, _, rfl, br, by first | rfl | (simp [hn9])⟩
         ·intro gg w10 hbl hp'
          have p65 := hp' 5 _ rfl
          have p76 := hp' 16 _ rfl
          clear hp'
          simp at p65 p76
          simp only [List.drop_succ_cons, List.drop_zero, List.map_cons, List.map_nil, putAll, Act.put, List.setIfInBounds_toArray, List.set_cons_succ, List.set_cons_zero, List.cons_append, List.nil_append, p65, p76]
          clear p65 p76
          have hO10 := hO.below hbl
          have hI10 := hI.below hbl
          have hQ10 := hQ.below hbl
          have hP10 := hP.under hbl
          have hX10 := hX.under hbl
          have hb10 := hb.trans (hbl.mono (by omega))
          have hB10 : gS + 1 ≤ w10.heap.size := Nat.le_trans hBw hbl.size
          clear hO hI hQ hP hX hb hBw hbl hEr y4
          by_cases huv : u = v
          ·subst huv
           obtain rfl : ne = false := by rw [← hne.out]; simp
           clear hne
           have hnz6 : nz + 1 ≤ 1000000000 := by omega
           go_wp2_with (at_builtin; refine app_iB rfl _ _ rfl w10 (gS + 1) o4' nz c4 _ rfl hO10 hI10 (i : Int) rfl hnz6 hB10 (Below.refl _ _) ?_; intro a7 c7 w7 hO7 hI7 gb7 hb7; refine hold ?_)
           refine hide ?_
           have hX7 := hX10.grown gb7 (own_lt hO10 (Nat.lt_succ_self _))
           have hP7 := hP10.grown gb7 (own_blk hO10 hP10 (by decide))
           have hb27 := hb10.grown gb7 (by omega) (fun q hq => by have := own_ge hO10 q hq; omega)
           have hB7 : gS + 1 ≤ w7.heap.size := Nat.le_trans hB10 gb7.size
           have hQ7 := Sl.keep0 hQ10 gb7 (fun h0 p hp => hI10.far hQ10 (by simpa using h0) p hp)
           have hmt7 : Hid (cs.take (z + 1) = (cells.drop n3).take (z + 1)) := hide (take_next hmt.out HVv.out hur.out)
           clear hO10 hI10 hQ10 hP10 hX10 hb10 hB10 gb7 hb7 hmt hur
           go_wp2_with fail
           go_roundg (qn - (z + 1))
           case measure => have := HGZ.out; omega
           case rel => exact ⟨z + 1, nz + 1, a7, c7, by omega, rfl, by go_num, hide (by have := hnz.out; omega), rfl, by omega, by rw [List.replicate_succ', ← List.append_assoc]; exact hO7, hI7, hQ7, hP7, hX7, hb27, hB7, hmt7⟩
          ·obtain rfl : ne = true := by rw [← hne.out]; simp only [bne_iff_ne, ne_eq]; intro h; exact huv (UInt8.toNat_inj.1 (by omega))
           clear hne
           have e1 := HPL'.out
           rw [follow_ne HKX.out (take_ne hur.out HVv.out huv), Option.map_none] at e1
           have HE1 := hide e1
           clear e1
           go_wp2_with fail
           go_ret2
           exact ⟨⟨none, 0, 0, by rw [HE1.out]; rfl, fun Q hq => by rw [HE1.out] at hq; cases hq⟩, hbl2.out.trans (hb10.mono hgwS)⟩
       ·obtain rfl : z = qn := by omega
        have d5 : decide ((z : Int) < (z : Int)) = false := decide_eq_false (by omega)
        have hgo := follow_go (ks := taken.drop (j + 1)) hinl (by omega : (0 : Int) ≤ (q : Int)) HKX.out (show cs = (cells.drop n3).take cs.length by rw [← HPN.out, ← hmt.out, List.take_of_length_le (by have := HPN.out; omega)])
        simp only [Int.toNat_natCast] at hgo
        have hfin := HPL'.out
        rw [hgo, Option.map_map, ← HPN.out, List.drop_drop] at hfin
        have HFIN := hide hfin
        clear hgo hfin HPL' HKX hmt
        have y3 : wr.cell? ⟨gP, 3, none⟩ = some (.int .i64 (lk : Int)) := hP.at_ rfl
        have hldS : ∀ j u, ([.int .i64 sl, .bool sn, .bool si] : List Value)[j]? = some u → wr.cell? ((⟨gP, 0, none⟩ : Addr).add j) = some u := fun j u hj => by
         rw [Addr.add_lit, Nat.zero_add]
         match j, hj with
         | 0, hj => cases hj; exact hP.at_ rfl
         | 1, hj => cases hj; exact hP.at_ rfl
         | 2, hj => cases hj; exact hP.at_ rfl
         | j + 3, hj => cases hj
        have HLS := hide hldS
        clear hldS hP
        go_wp2_with (first
         | (with_reducible refine load_struct 87 70 _ 3 size_rst _ Try.underlying70 ⟨gP, 0, none⟩ rfl [.int .i64 sl, .bool sn, .bool si] rfl HLS.out ?_)
         | (with_reducible refine hold_store ?_))
        refine hide ?_
        refine store_all 70 _ _ 70 gS (scells s) [.int .i64 sl, .bool sn, .bool si] (.agg #[.int .i64 sl, .bool sn, .bool si]) size_rst hX rfl rfl rfl rfl (by simp [Value.oneCell']) ?_; intro w10 hX10 gb10 zb10
        have hb10 := hb.grown gb10 (by omega) (fun q hq => by cases hq; exact Nat.le_refl _)
        have hB10 : gS + 1 ≤ w10.heap.size := Nat.le_trans hBw gb10.size
        have hO10 := hO.kept gb10 (fun p hp => by subst hp; have := hO.base.1; simp; omega)
        have hI10 : IntB w10 o4' := fun p hp => by
         subst hp
         obtain ⟨C, T, zz, k1, k2⟩ := hI p rfl
         exact ⟨C, T, zz, (gb10.block _ (Array.getElem?_eq_some_iff.1 k1).1 (by have := hO.base.1; simp; omega)).trans k1, k2⟩
        clear y3 y4 HLS hX hb hBw gb10 zb10 hO hI hQ
        go_wp2_with fail
        go_roundg (tn - (j + 1))
        case measure => have := HGH.out; omega
        case rel => exact ⟨j + 1, i + lk, ⟨sl, sn, si⟩, o4', nz, c4, _, by omega, rfl, by go_num, by go_num, rfl, hil, HST.out.2.2.1, hnz2, hO10, hI10, hX10, hb10, hB10, by rw [HFIN.out, hnz.out]; congr 1; funext y; simp [Function.comp]⟩
   ·have d1 : decide ((i : Int) ≥ (n : Int)) = true := decide_eq_true (by omega)
    have d1' : decide ((n : Int) ≤ (i : Int)) = true := decide_eq_true (by omega)
    have e1 := HPL'.out
    rw [follow_past (by have := HNL.out; omega), Option.map_none] at e1
    have HE1 := hide e1
    clear e1
    go_wp2_with fail
    go_ret2
    exact ⟨⟨none, 0, 0, by rw [HE1.out]; rfl, fun Q hq => by rw [HE1.out] at hq; cases hq⟩, hbl2.out.trans (hb.mono hgwS)⟩
  ·have d0 : decide ((j : Int) < (tn : Int)) = false := decide_eq_false (by omega)
   have e1 := HPL.out
   rw [List.drop_eq_nil_of_le (by have := HTN.out; omega), follow_end] at e1
   have HE1 := hide e1
   clear e1
   by_cases hil : i = n
   ·have d1 : ((i : Int) == (n : Int)) = true := by simp [hil]
    by_cases hr0 : n3 = en
    ·have d2 : ((n3 : Int) == (en : Int)) = true := by simp [hr0]
     have e1 := HE1.out
     rw [if_pos ⟨by have := HNL.out; omega, List.drop_eq_nil_of_le (by have := HEN.out; omega)⟩] at e1
     simp only [Option.map_some, List.append_nil] at e1
     have HE2 := hide e1
     clear e1 HE1
     go_wp2_with fail
     go_ret2
     exact ⟨⟨o3, n3, c3, by rw [HE2.out]; rfl, fun Q hq => by rw [HE2.out] at hq; injection hq with hq; subst hq; exact hO.sl⟩, hbl2.out.trans (hb.mono hgwS)⟩
    ·have d2 : ((n3 : Int) == (en : Int)) = false := by simp; omega
     have e1 := HE1.out
     rw [if_neg (fun h => hr0 (by have h1 := congrArg List.length h.2; rw [List.length_drop] at h1; have := HEN.out; simp at h1; omega)), Option.map_none] at e1
     have HE2 := hide e1
     clear e1 HE1
     go_wp2_with fail
     go_ret2
     exact ⟨⟨o3, n3, c3, by rw [HE2.out]; rfl, fun Q hq => by rw [HE2.out] at hq; cases hq⟩, hbl2.out.trans (hb.mono hgwS)⟩
   ·have d1 : ((i : Int) == (n : Int)) = false := by simp; omega
    have e1 := HE1.out
    rw [if_neg (fun h => hil (by have := HNL.out; omega)), Option.map_none] at e1
    have HE2 := hide e1
    clear e1 HE1
    go_wp2_with fail
    go_ret2
    exact ⟨⟨o3, n3, c3, by rw [HE2.out]; rfl, fun Q hq => by rw [HE2.out] at hq; cases hq⟩, hbl2.out.trans (hb.mono hgwS)⟩
end Go.Proofs.Ytlpkicjijlcbfaa
end

section
/- Chapter 08: the reference's Check and Spans. -/
namespace Go.Dx
open Go.RowKit
theorem num_row0 (t : Ta) (l : List Sy) : ∃ r, (numT t l)[0]? = some r ∧ r[0]? = some (numV t l) := by
 have hl := numT_len t l
 obtain ⟨r, hr⟩ : ∃ r, (numT t l)[0]? = some r := ⟨_, List.getElem?_eq_getElem (by omega)⟩
 have h8 := sufT_rows t l l.length r (List.mem_of_getElem? hr)
 obtain ⟨v, hv⟩ : ∃ v, r[0]? = some v := ⟨_, List.getElem?_eq_getElem (by omega)⟩
 refine ⟨r, hr, ?_⟩
 have e1 : (numT t l).getD 0 [] = r := by rw [List.getD_eq_getElem?_getD, hr]; rfl
 have e : numV t l = v := by
  show ((numT t l).getD 0 []).getD 0 0 = v
  rw [e1, List.getD_eq_getElem?_getD, hv]
  rfl
 rw [e]
 exact hv
end Go.Dx
namespace Go.Proofs.Ytlpkicjijlcbfaa
open Go.RowKit Go.Dx Go.Al
theorem ints_dec {x y : List Int} {a1 a2 : Option Addr} {n1 n2 c1 c2 : Nat} {w : World} {B : Bool} (hB : decide (x = y) = B) (h1 : Sl w 1 a1 n1 c1 (x.map I64)) (h2 : Sl w 1 a2 n2 c2 (y.map I64)) :
  Calls Try.prog 26 #[.slice a1 n1 c1, .slice a2 n2 c2] w fun e w' => e = .returned (.bool B) ∧ Below w.heap.size w w' := by
 refine (ref_SameInts x y a1 a2 n1 n2 c1 c2 w h1 h2).mono ?_
 rintro e w' ⟨rfl, m, hm⟩
 exact ⟨by rw [hB], hm ▸ Still.below m⟩
set_option maxRecDepth 100000 in
set_option maxHeartbeats 4000000 in
theorem ref8_Spans (H : TH) (t : Ta) (l : List Sy) (a : Option Addr) (n c : Nat) (cells : List UInt8) (taken : List Int) (ea ta la : Option Addr) (en ec tn tc ln_ lc : Nat) (w : World) (hT : TaIs w H t) (hs : Sl w 2 a n c (l.flatMap sc)) (hE : Sl w 1 ea en ec (cells.map B8)) (hK : Sl w 1 ta tn tc (taken.map I64)) (hce : cells.length ≤ 1000000) :
  Calls Try.prog 35 #[H.v, .slice a n c, .agg #[.slice ea en ec, .slice ta tn tc, .slice la ln_ lc]] w fun e w' => GivesSp t l cells taken e w' ∧ Below w.heap.size w w' := by
 have Hm := hide hT
 have Hs := hide hs
 have He := hide hE
 have Hk := hide hK
 clear hT hs hE hK
 obtain ⟨⟨a0, n0, c0⟩, ⟨a1, n1, c1⟩, ps0, ps1, ⟨ad, nd, cd⟩, ⟨ac, nc, cc⟩, ⟨an, nn, cn⟩, ⟨af, nf, cf⟩, ⟨aw, nw, cw⟩⟩ := H
 unfold TH.v
 simp only [hdv]
 have Y1 := ((Box.new w 29 #[.slice a0 n0 c0, .slice a1 n1 c1, .slice ad nd cd, .slice ac nc cc, .slice an nn cn, .slice af nf cf, .slice aw nw cw]).alloc (.cells #[.slice ea en ec, .slice ta tn tc, .slice la ln_ lc] 43))
 have Y2 := Box.new (w.alloc (.cells #[.slice a0 n0 c0, .slice a1 n1 c1, .slice ad nd cd, .slice ac nc cc, .slice an nn cn, .slice af nf cf, .slice aw nw cw] 29)) 43 #[.slice ea en ec, .slice ta tn tc, .slice la ln_ lc]
 have hba := ((Below.refl w.heap.size w).alloc (Nat.le_refl _) (.cells #[.slice a0 n0 c0, .slice a1 n1 c1, .slice ad nd cd, .slice ac nc cc, .slice an nn cn, .slice af nf cf, .slice aw nw cw] 29)).alloc (by simp) (.cells #[.slice ea en ec, .slice ta tn tc, .slice la ln_ lc] 43)
 simp only [World.size_alloc] at Y2
 go_enter Try.func35, Try.ntmps35
 go_upto_region 1 with fail
 generalize (w.alloc (.cells _ 29)).alloc (.cells _ 43) = w2 at *
 obtain ⟨H, hH⟩ : ∃ H : TH, H = ⟨(a0, n0, c0), (a1, n1, c1), ps0, ps1, (ad, nd, cd), (ac, nc, cc), (an, nn, cn), (af, nf, cf), (aw, nw, cw)⟩ := ⟨_, rfl⟩
 have HX2 : Box w2 w.heap.size 29 (tcells H) := by rw [hH]; exact Y1
 have HT2 : TaIs w2 H t := by rw [hH]; exact Hm.out.below hba
 have HS2 := Hs.out.below hba
 have HE2 := He.out.below hba
 have HK2 := Hk.out.below hba
 have HC2 : Box w2 (w.heap.size + 1) 43 [.slice ea en ec, .slice ta tn tc, .slice la ln_ lc] := Y2
 clear hH Hm Hs He Hk Y1 Y2
 obtain ⟨gT, hgT⟩ : ∃ gT, Hid (w.heap.size = gT) := ⟨_, hide rfl⟩
 obtain ⟨gC, hgC⟩ : ∃ gC, Hid (w.heap.size + 1 = gC) := ⟨_, hide rfl⟩
 rw [hgC.out] at HC2 ⊢
 rw [hgT.out] at HX2 ⊢
 have hfit := hide (ref8_Fits H t l a n c w2 HT2 HS2)
 obtain ⟨FE, hFE⟩ : ∃ FE, Hid (fitsE t l = FE) := ⟨_, hide rfl⟩
 rw [hFE.out] at hfit
 go_wp2_with (first
  | (with_reducible refine load_struct 11 29 _ 7 size_tables _ Try.underlying29 ⟨gT, 0, none⟩ rfl (tcells H) rfl (fun j u hj => by rw [Addr.add_lit, Nat.zero_add]; exact HX2.at_ hj) ?_)
  | (go_at_call 41; refine hfit.out.mono ?_; rintro e w3 ⟨rfl, hb3⟩; refine hold ?_))
 refine hide ?_
 have HX3 := HX2.under hb3
 have HC3 := HC2.under hb3
 have HT3 := HT2.below hb3
 have HS3 := HS2.below hb3
 have HE3 := HE2.below hb3
 have HK3 := HK2.below hb3
 have hbl3 := hba.trans (hb3.mono hba.size)
 clear HX2 HC2 HT2 HS2 HE2 HK2 hba hb3 hfit
 have y0 : w3.cell? ⟨gC, 0, none⟩ = some (.slice ea en ec) := HC3.at_ rfl
 have y1 : w3.cell? ⟨gC, 1, none⟩ = some (.slice ta tn tc) := HC3.at_ rfl
 by_cases hfe : FE = 0
 ·subst hfe
  obtain ⟨hv, hg, h2048⟩ := fitsE_ok hFE.out
  have hfo := hide (ref8_Path H t l a n c cells taken ea ta en ec tn tc w3 HT3 HS3 HE3 HK3 hv hg h2048 hce)
  clear hv hg h2048
  go_wp2_with (first
   | (with_reducible refine load_struct 18 29 _ 7 size_tables _ Try.underlying29 ⟨gT, 0, none⟩ rfl (tcells H) rfl (fun j u hj => by rw [Addr.add_lit, Nat.zero_add]; exact HX3.at_ hj) ?_)
   | (go_at_call 66; refine hfo.out.mono ?_; rintro e w4 ⟨⟨a4, n4, c4, rfl, hP4⟩, hb4⟩; refine hold ?_))
  refine hide ?_
  have hbl4 := hbl3.trans (hb4.mono hbl3.size)
  obtain ⟨FO, hFO⟩ : ∃ FO, Hid (followF t l taken 0 s00 cells = FO) := ⟨_, hide rfl⟩
  rw [hFO.out] at hP4 ⊢
  have HP4 := hide hP4
  clear hP4 hfo y0 y1
  cases FO with
  | none =>
   simp only [Option.isSome_none]
   go_wp2_with fail
   go_ret2
   exact ⟨⟨none, 0, 0, by unfold spE; rw [hFE.out, hFO.out]; rfl, by unfold spP; rw [hFE.out, hFO.out]; exact Sl.empty _ _⟩, hbl4⟩
  | some P =>
   simp only [Option.isSome_some]
   go_wp2_with fail
   go_ret2
   exact ⟨⟨a4, n4, c4, by unfold spE; rw [hFE.out, hFO.out]; rfl, by unfold spP; rw [hFE.out, hFO.out]; exact HP4.out P rfl⟩, hbl4⟩
 ·have d1 : (FE != 0) = true := by simp [hfe]
  go_wp2_with fail
  go_ret2
  exact ⟨⟨none, 0, 0, by unfold spE; rw [hFE.out, if_pos hfe]; rfl, by unfold spP; rw [hFE.out, if_pos hfe]; exact Sl.empty _ _⟩, hbl3⟩
set_option maxRecDepth 100000 in
set_option maxHeartbeats 8000000 in
theorem ref8_Check (H : TH) (t : Ta) (l : List Sy) (a : Option Addr) (n c : Nat) (cells : List UInt8) (taken : List Int) (A : Nums) (hsA : List (Option Addr × Nat × Nat)) (ea ta la : Option Addr) (en ec tn tc ln_ lc : Nat) (w : World) (hT : TaIs w H t) (hs : Sl w 2 a n c (l.flatMap sc)) (hE : Sl w 1 ea en ec (cells.map B8)) (hK : Sl w 1 ta tn tc (taken.map I64)) (hL : Ng w la ln_ lc hsA A)
  (hce : cells.length ≤ 1000000) :
  Calls Try.prog 33 #[H.v, .slice a n c, .agg #[.slice ea en ec, .slice ta tn tc, .slice la ln_ lc]] w fun e w' => e = .returned (.int .i64 (chE t l cells taken A)) ∧ Below w.heap.size w w' := by
 have Hl := hide hL
 clear hL
 have Hm := hide hT
 have Hs := hide hs
 have He := hide hE
 have Hk := hide hK
 clear hT hs hE hK
 obtain ⟨⟨a0, n0, c0⟩, ⟨a1, n1, c1⟩, ps0, ps1, ⟨ad, nd, cd⟩, ⟨ac, nc, cc⟩, ⟨an, nn, cn⟩, ⟨af, nf, cf⟩, ⟨aw, nw, cw⟩⟩ := H
 unfold TH.v
 simp only [hdv]
 have Y1 := ((Box.new w 29 #[.slice a0 n0 c0, .slice a1 n1 c1, .slice ad nd cd, .slice ac nc cc, .slice an nn cn, .slice af nf cf, .slice aw nw cw]).alloc (.cells #[.slice ea en ec, .slice ta tn tc, .slice la ln_ lc] 43))
 have Y2 := Box.new (w.alloc (.cells #[.slice a0 n0 c0, .slice a1 n1 c1, .slice ad nd cd, .slice ac nc cc, .slice an nn cn, .slice af nf cf, .slice aw nw cw] 29)) 43 #[.slice ea en ec, .slice ta tn tc, .slice la ln_ lc]
 have hba := ((Below.refl w.heap.size w).alloc (Nat.le_refl _) (.cells #[.slice a0 n0 c0, .slice a1 n1 c1, .slice ad nd cd, .slice ac nc cc, .slice an nn cn, .slice af nf cf, .slice aw nw cw] 29)).alloc (by simp) (.cells #[.slice ea en ec, .slice ta tn tc, .slice la ln_ lc] 43)
 simp only [World.size_alloc] at Y2
 go_enter Try.func33, Try.ntmps33
 go_upto_region 1 with fail
 generalize (w.alloc (.cells _ 29)).alloc (.cells _ 43) = w2 at *
 obtain ⟨H, hH⟩ : ∃ H : TH, H = ⟨(a0, n0, c0), (a1, n1, c1), ps0, ps1, (ad, nd, cd), (ac, nc, cc), (an, nn, cn), (af, nf, cf), (aw, nw, cw)⟩ := ⟨_, rfl⟩
 have HX2 : Box w2 w.heap.size 29 (tcells H) := by rw [hH]; exact Y1
 have HT2 : TaIs w2 H t := by rw [hH]; exact Hm.out.below hba
 have HS2 := Hs.out.below hba
 have HE2 := He.out.below hba
 have HK2 := Hk.out.below hba
 have HC2 : Box w2 (w.heap.size + 1) 43 [.slice ea en ec, .slice ta tn tc, .slice la ln_ lc] := Y2
 clear hH Hm Hs He Hk Y1 Y2
 obtain ⟨gT, hgT⟩ : ∃ gT, Hid (w.heap.size = gT) := ⟨_, hide rfl⟩
 obtain ⟨gC, hgC⟩ : ∃ gC, Hid (w.heap.size + 1 = gC) := ⟨_, hide rfl⟩
 rw [hgC.out] at HC2 ⊢
 rw [hgT.out] at HX2 ⊢
 have hfit := hide (ref8_Fits H t l a n c w2 HT2 HS2)
 obtain ⟨FE, hFE⟩ : ∃ FE, Hid (fitsE t l = FE) := ⟨_, hide rfl⟩
 rw [hFE.out] at hfit
 have HL2 := Hl.out.below hba
 clear Hl
 go_wp2_with (first
  | (with_reducible refine load_struct 12 29 _ 7 size_tables _ Try.underlying29 ⟨gT, 0, none⟩ rfl (tcells H) rfl (fun j u hj => by rw [Addr.add_lit, Nat.zero_add]; exact HX2.at_ hj) ?_)
  | (go_at_call 41; refine hfit.out.mono ?_; rintro e w3 ⟨rfl, hb3⟩; refine hold ?_))
 refine hide ?_
 have HL3 := HL2.below hb3
 clear HL2
 have HX3 := HX2.under hb3
 have HC3 := HC2.under hb3
 have HT3 := HT2.below hb3
 have HS3 := HS2.below hb3
 have HE3 := HE2.below hb3
 have HK3 := HK2.below hb3
 have hbl3 := hba.trans (hb3.mono hba.size)
 clear HX2 HC2 HT2 HS2 HE2 HK2 hba hb3 hfit
 by_cases hfe : FE = 0
 ·subst hfe
  obtain ⟨hv, hg, h2048⟩ := fitsE_ok hFE.out
  have HV := hide hv
  have HG := hide hg
  have H2 := hide h2048
  have hnl : n = l.length := HS3.nf sc_len (by decide)
  have hn20 : n ≤ 2048 := by omega
  have HNL := hide hnl
  have hln : ln_ = A.length := HL3.n_eq
  have HLN := hide hln
  have hlnm := Nat.le_trans HL3.top.le HL3.top.cap
  unfold maxLen at hlnm
  have hnum := hide (ref8_Numbers H t l a n c w3 HT3 HS3 hv hg h2048)
  clear hv hg h2048 hnl hln
  go_wp2_with (first
   | (with_reducible refine load_struct 18 29 _ 7 size_tables _ Try.underlying29 ⟨gT, 0, none⟩ rfl (tcells H) rfl (fun j u hj => by rw [Addr.add_lit, Nat.zero_add]; exact HX3.at_ hj) ?_)
   | (go_at_call 42; refine hnum.out.mono ?_; rintro e w4 ⟨bs, aA, cA, rfl, hRw, hb4⟩; refine hold ?_))
  refine hide ?_
  have hG4 := hRw.ng (sufT_rows t l _)
  obtain ⟨ks, hks⟩ : ∃ ks, Hid ((bs.map fun b => ((some ⟨b, 0, none⟩ : Option Addr), 8, 8)) = ks) := ⟨_, hide rfl⟩
  have hbsl : bs.length = n + 1 := by rw [hRw.len, numT_len, HNL.out]
  rw [hks.out, hbsl] at hG4
  obtain ⟨M, hM⟩ : ∃ M, Hid (n + 1 = M) := ⟨_, hide rfl⟩
  have hMI : (n : Int) + 1 = (M : Int) := by have := hM.out; omega
  rw [hM.out] at hG4 ⊢
  have hM20 : M ≤ 2049 := by have := hM.out; omega
  have HX4 := HX3.under hb4
  have HC4 := HC3.under hb4
  have HT4 := HT3.below hb4
  have HS4 := HS3.below hb4
  have HE4 := HE3.below hb4
  have HK4 := HK3.below hb4
  have HL4 := HL3.below hb4
  have hbl4 := hbl3.trans (hb4.mono hbl3.size)
  have y2 : w4.cell? ⟨gC, 2, none⟩ = some (.slice la ln_ lc) := HC4.at_ rfl
  clear hnum hRw hbsl hb4 hbl3 HX3 HC3 HT3 HS3 HE3 HK3 HL3
  by_cases h1 : ln_ = M
  ·subst h1
   have d1 : ((ln_ : Int) != (ln_ : Int)) = false := by simp
   have HMN : Hid ((numT t l).length = ln_) := hide (by rw [numT_len, ← HNL.out]; exact hM.out)
   have hln1 : ln_ ≤ 2049 := hM20
   go_wp2_with fail
   clear y2
   go_loopg [9] ln_ (fun gh v w' => ∃ i : Nat, i ≤ ln_ ∧ gh = ln_ - i ∧ v = .int .i64 (i : Int) ∧ Below w4.heap.size w4 w' ∧ Hid (∀ i', i' < i → A[i']? = (numT t l)[i']?))
   case atStart => exact ⟨0, Nat.zero_le _, rfl, rfl, Below.refl _ _, hide (fun i' h => absurd h (Nat.not_lt_zero _))⟩
   case round =>
    obtain ⟨i, hi, rfl, rfl, hb, hI⟩ := hrel
    by_cases hin : i < ln_
    ·have d2 : decide ((i : Int) < (ln_ : Int)) = true := decide_eq_true (by omega)
     obtain ⟨r, hr⟩ : ∃ r, A[i]? = some r := ⟨_, List.getElem?_eq_getElem (by have := HLN.out; omega)⟩
     obtain ⟨q, hq⟩ : ∃ q, (numT t l)[i]? = some q := ⟨_, List.getElem?_eq_getElem (by have := HMN.out; omega)⟩
     obtain ⟨⟨x1, x2, x3⟩, hx⟩ : ∃ h, hsA[i]? = some h := ⟨_, List.getElem?_eq_getElem (by rw [HL4.len]; have := HLN.out; omega)⟩
     obtain ⟨⟨y1, y2, y3⟩, hy⟩ : ∃ h, ks[i]? = some h := ⟨_, List.getElem?_eq_getElem (by rw [hG4.len]; have := HMN.out; omega)⟩
     have hrx := (HL4.row i _ r hx hr).below hb
     have hry := (hG4.row i _ q hy hq).below hb
     have hux : Hid ((hsA.map hdv)[i]? = some (.slice x1 x2 x3)) := hide (by rw [List.getElem?_map, hx]; rfl)
     have huy : Hid ((ks.map hdv)[i]? = some (.slice y1 y2 y3)) := hide (by rw [List.getElem?_map, hy]; rfl)
     have htx := HL4.top.below hb
     have hty := hG4.top.below hb
     have HCr := HC4.under hb
     have HR := hide hr
     have HQ := hide hq
     obtain ⟨sb, hsb⟩ : ∃ sb, Hid (decide (r = q) = sb) := ⟨_, hide rfl⟩
     clear hr hq hx hy
     go_wp2_with fail
     refine wp_region_free 10 [⟨0, 33, [33], fun vs _ => vs = [.pointer (some ⟨gC, 2, none⟩)]⟩, ⟨1, 34, [34], fun vs _ => vs = [.slice la ln_ lc]⟩, ⟨2, 35, [35], fun vs _ => vs = [.int .i64 (i : Int)]⟩, ⟨3, 36, [36], PtL (.slice x1 x2 x3)⟩, ⟨4, 37, [37], fun vs _ => vs = [.slice x1 x2 x3]⟩, ⟨5, 38, [38], fun vs _ => vs = [.slice aA ln_ cA]⟩, ⟨6, 39, [39], fun vs _ => vs = [.int .i64 (i : Int)]⟩, ⟨7, 40, [40], PtL (.slice y1 y2 y3)⟩, ⟨8, 41, [41], fun vs _ => vs = [.slice y1 y2 y3]⟩, ⟨9, 42, [42], fun vs _ => vs = [.bool sb]⟩] (by kernel_rfl) (by kernel_rfl) ?_ ?_ ?_
     ·simp only [All]
      refine ⟨fun _ _ _ _ h => h, fun _ _ _ _ h => h, fun _ _ _ _ h => h, ?_, fun _ _ _ _ h => h, fun _ _ _ _ h => h, fun _ _ _ _ h => h, ?_, fun _ _ _ _ h => h, fun _ _ _ _ h => h, trivial⟩
      ·rintro vs w1 w2 hb ⟨b, o, h1, h2⟩
       exact ⟨b, o, h1, cell_blw8 h2 hb⟩
      ·rintro vs w1 w2 hb ⟨b, o, h1, h2⟩
       exact ⟨b, o, h1, cell_blw8 h2 hb⟩
     ·simp only [All]
      refine ⟨?_, ?_, ?_, ?_, ?_, ?_, ?_, ?_, ?_, ?_, trivial⟩
      ·intro o ho a' w' hb hfr hdep; obtain rfl := oj ho
       have g5 : a'.tmps[5]?.getD undef = .pointer (some ⟨gC, 0, none⟩) := by simpa using hfr 5 (by kernel_rfl)
       clear ho hfr hdep; go_wp2_with fail; exact ⟨rfl, _, rfl, br, rfl⟩
      ·intro o ho a' w' hb hfr hdep; obtain rfl := oj ho
       have g33 : a'.tmps[33]?.getD undef = .pointer (some ⟨gC, 2, none⟩) := by simpa using hdep 0 _ rfl (by kernel_rfl)
       clear ho hfr hdep; have hcl := (HCr.under hb).at_ (j := 2) rfl
       go_wp2_with fail; exact ⟨rfl, _, rfl, br, rfl⟩
      ·intro o ho a' w' hb hfr hdep; obtain rfl := oj ho
       have g9 : a'.tmps[9]?.getD undef = .int .i64 (i : Int) := by simpa using hfr 9 (by kernel_rfl)
       clear ho hfr hdep; go_wp2_with fail; exact ⟨rfl, _, rfl, br, rfl⟩
      ·intro o ho a' w' hb hfr hdep; obtain rfl := oj ho
       have g34 : a'.tmps[34]?.getD undef = .slice la ln_ lc := by simpa using hdep 1 _ rfl (by kernel_rfl)
       have g35 : a'.tmps[35]?.getD undef = .int .i64 (i : Int) := by simpa using hdep 2 _ rfl (by kernel_rfl)
       clear ho hfr hdep; refine idx_ii 36 _ _ la ln_ lc _ (by show a'.tmps.getD 34 undef = _; simpa using g34) (htx.below hb) .i64 _ i (by show a'.tmps.getD 35 undef = _; simpa using g35) rfl _ hux.out ?_
       intro b o hcell hbo
       exact ⟨rfl, _, rfl, br, b, o, rfl, hcell⟩
      ·intro o ho a' w' hb hfr hdep; obtain rfl := oj ho
       obtain ⟨b36, o36, g36, c36⟩ := hdep 3 _ rfl (by kernel_rfl)
       simp at g36
       clear ho hfr hdep; have hcl := c36
       go_wp2_with fail; exact ⟨rfl, _, rfl, br, rfl⟩
      ·intro o ho a' w' hb hfr hdep; obtain rfl := oj ho
       have g8 : a'.tmps[8]?.getD undef = .slice aA ln_ cA := by simpa using hfr 8 (by kernel_rfl)
       clear ho hfr hdep; go_wp2_with fail; exact ⟨rfl, _, rfl, br, rfl⟩
      ·intro o ho a' w' hb hfr hdep; obtain rfl := oj ho
       have g9 : a'.tmps[9]?.getD undef = .int .i64 (i : Int) := by simpa using hfr 9 (by kernel_rfl)
       clear ho hfr hdep; go_wp2_with fail; exact ⟨rfl, _, rfl, br, rfl⟩
      ·intro o ho a' w' hb hfr hdep; obtain rfl := oj ho
       have g38 : a'.tmps[38]?.getD undef = .slice aA ln_ cA := by simpa using hdep 5 _ rfl (by kernel_rfl)
       have g39 : a'.tmps[39]?.getD undef = .int .i64 (i : Int) := by simpa using hdep 6 _ rfl (by kernel_rfl)
       clear ho hfr hdep; refine idx_ii 40 _ _ aA ln_ cA _ (by show a'.tmps.getD 38 undef = _; simpa using g38) (hty.below hb) .i64 _ i (by show a'.tmps.getD 39 undef = _; simpa using g39) rfl _ huy.out ?_
       intro b o hcell hbo
       exact ⟨rfl, _, rfl, br, b, o, rfl, hcell⟩
      ·intro o ho a' w' hb hfr hdep; obtain rfl := oj ho
       obtain ⟨b40, o40, g40, c40⟩ := hdep 7 _ rfl (by kernel_rfl)
       simp at g40
       clear ho hfr hdep; have hcl := c40
       go_wp2_with fail; exact ⟨rfl, _, rfl, br, rfl⟩
      ·intro o ho a' w' hb hfr hdep; obtain rfl := oj ho
       have g37 : a'.tmps[37]?.getD undef = .slice x1 x2 x3 := by simpa using hdep 4 _ rfl (by kernel_rfl)
       have g41 : a'.tmps[41]?.getD undef = .slice y1 y2 y3 := by simpa using hdep 8 _ rfl (by kernel_rfl)
       clear ho hfr hdep; have hsi := hide (ints_dec (x := r) (y := q) hsb.out (hrx.below hb) (hry.below hb))
       go_wp2_with (go_at_call 26; refine hsi.out.mono ?_; rintro e w2 ⟨rfl, h2⟩)
       exact ⟨rfl, _, rfl, h2, rfl⟩
     ·intro gg w6 hbl hp'
      have p42 := hp' 9 _ rfl
      clear hp'
      simp at p42
      simp only [List.drop_succ_cons, List.drop_zero, List.map_cons, List.map_nil, putAll, Act.put, List.setIfInBounds_toArray, List.set_cons_succ, List.set_cons_zero, List.cons_append, List.nil_append, p42]
      clear p42
      have hb6 := hb.trans (hbl.mono hb.size)
      clear hb hbl hrx hry htx hty HCr
      cases sb with
      | true =>
       have hI2 : Hid (∀ i', i' < i + 1 → A[i']? = (numT t l)[i']?) := hide (fun i' h => by
        by_cases e : i' = i
        ·subst e
         rw [HR.out, HQ.out, of_decide_eq_true hsb.out]
        ·exact hI.out i' (by omega))
       clear hsb hI
       go_wp2_with fail
       go_roundg (ln_ - (i + 1))
       case measure => omega
       case rel => exact ⟨i + 1, by omega, rfl, by go_num, hb6, hI2⟩
      | false =>
       have he : chE t l cells taken A = 19 := chE_bad hFE.out (fun h => by
        have h1 := HR.out
        rw [h.1, HQ.out] at h1
        injection h1 with h1
        exact of_decide_eq_false hsb.out h1.symm)
       have HE := hide he
       clear he
       go_wp2_with fail
       go_ret
       exact ⟨by rw [HE.out]; rfl, hbl4.trans (hb6.mono hbl4.size)⟩
    ·obtain rfl : i = ln_ := by omega
     have d2 : decide ((i : Int) < (i : Int)) = false := by simp
     have hAe : A = numT t l := List.ext_getElem? (fun k => by
      by_cases hk : k < i
      ·exact hI.out k hk
      ·rw [List.getElem?_eq_none (by have := HLN.out; omega), List.getElem?_eq_none (by have := HMN.out; omega)])
     subst hAe
     have HX7 := HX4.under hb
     have HC7 := HC4.under hb
     have HT7 := HT4.below hb
     have HS7 := HS4.below hb
     have HE7 := HE4.below hb
     have HK7 := HK4.below hb
     have hG7 := hG4.below hb
     have hbl7 := hbl4.trans (hb.mono hbl4.size)
     have hen : en = cells.length := HE7.n_eq
     have HEN := hide hen
     have hem := Nat.le_trans HE7.le HE7.cap
     unfold maxLen at hem
     have hfo := hide (ref8_Path H t l a n c cells taken ea ta en ec tn tc wr HT7 HS7 HE7 HK7 HV.out HG.out H2.out hce)
     have z0 : wr.cell? ⟨gC, 0, none⟩ = some (.slice ea en ec) := HC7.at_ rfl
     have z1 : wr.cell? ⟨gC, 1, none⟩ = some (.slice ta tn tc) := HC7.at_ rfl
     clear HX4 HC4 HT4 HS4 HE4 HK4 HL4 hb hbl4 hen hI hG4
     go_wp2_with (first
      | (with_reducible refine load_struct 45 29 _ 7 size_tables _ Try.underlying29 ⟨gT, 0, none⟩ rfl (tcells H) rfl (fun j u hj => by rw [Addr.add_lit, Nat.zero_add]; exact HX7.at_ hj) ?_)
      | (go_at_call 66; refine hfo.out.mono ?_; rintro e w8 ⟨⟨a8, n8, c8, rfl, hP8⟩, hb8⟩; refine hold ?_))
     refine hide ?_
     have hbl8 := hbl7.trans (hb8.mono hbl7.size)
     have hG8 := hG7.below hb8
     have HC8 := HC7.under hb8
     obtain ⟨NV, hNV⟩ : ∃ NV, Hid (numV t l = NV) := ⟨_, hide rfl⟩
     have c0 : w8.cell? ⟨gC, 0, none⟩ = some (.slice ea en ec) := HC8.at_ rfl
     obtain ⟨FO, hFO⟩ : ∃ FO, Hid ((followF t l taken 0 s00 cells).isSome = FO) := ⟨_, hide rfl⟩
     rw [hFO.out]
     clear HX7 HC7 HT7 HS7 HE7 HK7 hG7 hP8 hfo hbl7 hb8 z0 z1 HC8
     cases FO with
     | false =>
      have he : chE t l cells taken (numT t l) = 19 := chE_bad hFE.out (fun h => by
       rw [hFO.out] at h
       cases h.2.1)
      have HE := hide he
      clear he
      go_wp2_with fail
      go_quiet (fail)
      go_wp2_with fail
      go_ret
      exact ⟨by rw [HE.out]; rfl, hbl8.trans ((Still.below nq : Below w8.heap.size w8 (w8.drewN nq)).mono hbl8.size)⟩
     | true =>
      obtain ⟨r0, hr0, hv0⟩ := num_row0 t l
      rw [hNV.out] at hv0
      obtain ⟨⟨x1, x2, x3⟩, hx⟩ : ∃ h, ks[0]? = some h := ⟨_, List.getElem?_eq_getElem (by rw [hG8.len, HMN.out]; have := hM.out; omega)⟩
      have hrr := hG8.row 0 _ r0 hx hr0
      have hux : Hid ((ks.map hdv)[0]? = some (.slice x1 x2 x3)) := hide (by rw [List.getElem?_map, hx]; rfl)
      have htx := hG8.top
      have HV0 := hide hv0
      clear hr0 hv0 hx hG8
      obtain ⟨ne, hne⟩ : ∃ ne, Hid (((en : Int) != NV) = ne) := ⟨_, hide rfl⟩
      go_wp2_with fail
      refine wp_region_free 12 [⟨0, 54, [54], fun vs _ => vs = [.bool true]⟩, ⟨1, 55, [55], fun vs _ => vs = [.bool false]⟩, ⟨2, 56, [56], fun vs _ => vs = [.bool false]⟩, ⟨3, 57, [57], fun vs _ => vs = [.pointer (some ⟨gC, 0, none⟩)]⟩, ⟨4, 58, [58], fun vs _ => vs = [.slice ea en ec]⟩, ⟨5, 59, [59], fun vs _ => vs = [.int .i64 (en : Int)]⟩, ⟨6, 60, [60], fun vs _ => vs = [.slice aA i cA]⟩, ⟨7, 61, [61], PtL (.slice x1 x2 x3)⟩, ⟨8, 62, [62], fun vs _ => vs = [.slice x1 x2 x3]⟩, ⟨9, 63, [63], PtL (.int .i64 NV)⟩, ⟨10, 64, [64], fun vs _ => vs = [.int .i64 NV]⟩, ⟨11, 65, [65], fun vs _ => vs = [.bool ne]⟩] (by kernel_rfl) (by kernel_rfl) ?_ ?_ ?_
      ·simp only [All]
       refine ⟨fun _ _ _ _ h => h, fun _ _ _ _ h => h, fun _ _ _ _ h => h, fun _ _ _ _ h => h, fun _ _ _ _ h => h, fun _ _ _ _ h => h, fun _ _ _ _ h => h, ?_, fun _ _ _ _ h => h, ?_, fun _ _ _ _ h => h, fun _ _ _ _ h => h, trivial⟩
       ·rintro vs w1 w2 hb ⟨b, o, h1, h2⟩
        exact ⟨b, o, h1, cell_blw8 h2 hb⟩
       ·rintro vs w1 w2 hb ⟨b, o, h1, h2⟩
        exact ⟨b, o, h1, cell_blw8 h2 hb⟩
      ·simp only [All]
       refine ⟨?_, ?_, ?_, ?_, ?_, ?_, ?_, ?_, ?_, ?_, ?_, ?_, trivial⟩
       ·intro o ho a' w' hb hfr hdep; obtain rfl := oj ho
        have g11 : a'.tmps[11]?.getD undef = .bool true := by simpa using hfr 11 (by kernel_rfl)
        clear ho hfr hdep; go_wp2_with fail; exact ⟨rfl, _, rfl, br, rfl⟩
       ·intro o ho a' w' hb hfr hdep; obtain rfl := oj ho
        have g54 : a'.tmps[54]?.getD undef = .bool true := by simpa using hdep 0 _ rfl (by kernel_rfl)
        clear ho hfr hdep; go_wp2_with fail; exact ⟨rfl, _, rfl, br, rfl⟩
       ·intro o ho a' w' hb hfr hdep; obtain rfl := oj ho
        have g55 : a'.tmps[55]?.getD undef = .bool false := by simpa using hdep 1 _ rfl (by kernel_rfl)
        clear ho hfr hdep; go_wp2_with fail; exact ⟨rfl, _, rfl, br, rfl⟩
       ·intro o ho a' w' hb hfr hdep; obtain rfl := oj ho
        have g5 : a'.tmps[5]?.getD undef = .pointer (some ⟨gC, 0, none⟩) := by simpa using hfr 5 (by kernel_rfl)
        have g56 : a'.tmps[56]?.getD undef = .bool false := by simpa using hdep 2 _ rfl (by kernel_rfl)
        have q56 := opt_bool g56
        clear ho hfr hdep; refine unguard_any (by simp [Region.wanted, yielded, q56]) ?_
        go_wp2_with fail; exact ⟨rfl, _, rfl, br, rfl⟩
       ·intro o ho a' w' hb hfr hdep; obtain rfl := oj ho
        have g57 : a'.tmps[57]?.getD undef = .pointer (some ⟨gC, 0, none⟩) := by simpa using hdep 3 _ rfl (by kernel_rfl)
        have g56 : a'.tmps[56]?.getD undef = .bool false := by simpa using hdep 2 _ rfl (by kernel_rfl)
        have q56 := opt_bool g56
        clear ho hfr hdep; refine unguard_any (by simp [Region.wanted, yielded, q56]) ?_
        have hcl := cell_below c0 hb
        go_wp2_with fail; exact ⟨rfl, _, rfl, br, rfl⟩
       ·intro o ho a' w' hb hfr hdep; obtain rfl := oj ho
        have g58 : a'.tmps[58]?.getD undef = .slice ea en ec := by simpa using hdep 4 _ rfl (by kernel_rfl)
        have g56 : a'.tmps[56]?.getD undef = .bool false := by simpa using hdep 2 _ rfl (by kernel_rfl)
        have q56 := opt_bool g56
        clear ho hfr hdep; refine unguard_any (by simp [Region.wanted, yielded, q56]) ?_
        go_wp2_with fail; exact ⟨rfl, _, rfl, br, rfl⟩
       ·intro o ho a' w' hb hfr hdep; obtain rfl := oj ho
        have g8 : a'.tmps[8]?.getD undef = .slice aA i cA := by simpa using hfr 8 (by kernel_rfl)
        have g56 : a'.tmps[56]?.getD undef = .bool false := by simpa using hdep 2 _ rfl (by kernel_rfl)
        have q56 := opt_bool g56
        clear ho hfr hdep; refine unguard_any (by simp [Region.wanted, yielded, q56]) ?_
        go_wp2_with fail; exact ⟨rfl, _, rfl, br, rfl⟩
       ·intro o ho a' w' hb hfr hdep; obtain rfl := oj ho
        have g60 : a'.tmps[60]?.getD undef = .slice aA i cA := by simpa using hdep 6 _ rfl (by kernel_rfl)
        have g56 : a'.tmps[56]?.getD undef = .bool false := by simpa using hdep 2 _ rfl (by kernel_rfl)
        have q56 := opt_bool g56
        clear ho hfr hdep; refine unguard_any (by simp [Region.wanted, yielded, q56]) ?_
        refine idx_ii 61 _ _ aA i cA _ (by show a'.tmps.getD 60 undef = _; simpa using g60) (htx.below hb) .i64 _ 0 rfl rfl _ hux.out ?_
        intro b o hcell hbo
        exact ⟨rfl, _, rfl, br, b, o, rfl, hcell⟩
       ·intro o ho a' w' hb hfr hdep; obtain rfl := oj ho
        obtain ⟨b61, o61, g61, c61⟩ := hdep 7 _ rfl (by kernel_rfl)
        simp at g61
        have g56 : a'.tmps[56]?.getD undef = .bool false := by simpa using hdep 2 _ rfl (by kernel_rfl)
        have q56 := opt_bool g56
        clear ho hfr hdep; refine unguard_any (by simp [Region.wanted, yielded, q56]) ?_
        have hcl := c61
        go_wp2_with fail; exact ⟨rfl, _, rfl, br, rfl⟩
       ·intro o ho a' w' hb hfr hdep; obtain rfl := oj ho
        have g62 : a'.tmps[62]?.getD undef = .slice x1 x2 x3 := by simpa using hdep 8 _ rfl (by kernel_rfl)
        have g56 : a'.tmps[56]?.getD undef = .bool false := by simpa using hdep 2 _ rfl (by kernel_rfl)
        have q56 := opt_bool g56
        clear ho hfr hdep; refine unguard_any (by simp [Region.wanted, yielded, q56]) ?_
        refine idx_i 63 _ _ x1 x2 x3 _ (by show a'.tmps.getD 62 undef = _; simpa using g62) (hrr.below hb) .i64 _ 0 rfl rfl _ HV0.out ?_
        intro b o hcell hbo
        exact ⟨rfl, _, rfl, br, b, o, rfl, hcell⟩
       ·intro o ho a' w' hb hfr hdep; obtain rfl := oj ho
        obtain ⟨b63, o63, g63, c63⟩ := hdep 9 _ rfl (by kernel_rfl)
        simp at g63
        have g56 : a'.tmps[56]?.getD undef = .bool false := by simpa using hdep 2 _ rfl (by kernel_rfl)
        have q56 := opt_bool g56
        clear ho hfr hdep; refine unguard_any (by simp [Region.wanted, yielded, q56]) ?_
        have hcl := c63
        go_wp2_with fail; exact ⟨rfl, _, rfl, br, rfl⟩
       ·intro o ho a' w' hb hfr hdep; obtain rfl := oj ho
        have g59 : a'.tmps[59]?.getD undef = .int .i64 (en : Int) := by simpa using hdep 5 _ rfl (by kernel_rfl)
        have g64 : a'.tmps[64]?.getD undef = .int .i64 NV := by simpa using hdep 10 _ rfl (by kernel_rfl)
        have g56 : a'.tmps[56]?.getD undef = .bool false := by simpa using hdep 2 _ rfl (by kernel_rfl)
        have q56 := opt_bool g56
        clear ho hfr hdep; refine unguard_any (by simp [Region.wanted, yielded, q56]) ?_
        have hn9 := hne.out
        go_wp2_with fail; exact ⟨rfl, _, rfl, br, by first | rfl | (simp [hn9])⟩
      ·intro gg w10 hbl hp'
       have p56 := hp' 2 _ rfl
       have p65 := hp' 11 _ rfl
       clear hp'
       simp at p56 p65
       simp only [List.drop_succ_cons, List.drop_zero, List.map_cons, List.map_nil, putAll, Act.put, List.setIfInBounds_toArray, List.set_cons_succ, List.set_cons_zero, List.cons_append, List.nil_append, p56, p65]
       clear p56 p65
       have hbl10 := hbl8.trans (hbl.mono hbl8.size)
       clear hbl8 hbl htx hrr c0
       cases ne with
       | true =>
        have he : chE t l cells taken (numT t l) = 19 := chE_bad hFE.out (fun h => by
         have h1 := hne.out
         have h2 := h.2.2
         rw [hNV.out, ← HEN.out] at h2
         rw [h2] at h1
         simp at h1)
        have HE := hide he
        clear he hne
        go_wp2_with fail
        go_ret
        exact ⟨by rw [HE.out]; rfl, hbl10⟩
       | false =>
        have he : chE t l cells taken (numT t l) = 0 := chE_good hFE.out rfl hFO.out (by
         have h1 := hne.out
         rw [hNV.out, ← HEN.out]
         simpa using h1)
        have HE := hide he
        clear he hne
        go_wp2_with fail
        go_ret
        exact ⟨by rw [HE.out]; rfl, hbl10⟩
  ·have d1 : ((ln_ : Int) != (M : Int)) = true := by simp; omega
   have he : chE t l cells taken A = 19 := chE_bad hFE.out (fun h => by
    have h2 := numT_len t l
    rw [← h.1] at h2
    have := HLN.out
    have := HNL.out
    have := hM.out
    omega)
   have HE := hide he
   clear he
   go_wp2_with fail
   go_ret
   exact ⟨by rw [HE.out]; rfl, hbl4⟩
 ·have d1 : (FE != 0) = true := by simp [hfe]
  go_wp2_with fail
  go_ret
  exact ⟨by unfold chE; rw [hFE.out, if_pos hfe]; rfl, hbl3⟩
end Go.Proofs.Ytlpkicjijlcbfaa
end
