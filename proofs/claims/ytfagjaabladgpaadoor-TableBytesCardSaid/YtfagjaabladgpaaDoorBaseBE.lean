/- The contracts of the functions that the law reaches, joined into one text. -/
import Derived.Test.YtfagjaabladgpaaDoorBaseBD
import Derived.Deep.OwnRows
set_option linter.unusedVariables false
set_option linter.unusedSimpArgs false

section
/- Chapter 06: the program's Steps. -/
namespace Go.Proofs.YtfagjaabladgpaaDoor
open Go.RowKit Go.Dx

set_option maxRecDepth 100000 in
set_option maxHeartbeats 8000000 in
theorem tab_Steps_dg (H : TH) (t : Ta) (s : St) (l : List Sy) (a : Option Addr) (n c : Nat) (p : Nat) (x : Sy) (hv : validE t = 0) (hsl : s.lang = 0 ∨ s.lang = 1) (hx : l[p]? = some x) (hgd : goodS l = true) (hll : l.length ≤ 1000000) (heq : x.lang = s.lang) (hd : isD x.c = true) (w : World) (hT : TaIs w H t) (hs : Sl w 2 a n c (l.flatMap sc)) :
  Calls Tryd.prog 19 #[H.v, .agg #[.int .i64 s.lang, .bool s.num, .bool s.wrd], .slice a n c, .int .i64 (p : Int)] w (StepsT 88 [⟨⟨x.lang, true, false⟩, 1, (if s.num then [] else t.num) ++ [t.dig.getD (x.c.toNat - 48) 0], -1⟩] w) := by
 have hV := fun w' (hb : Below w.heap.size w w') => tab_Valid H t w' (hT.below hb)
 have hC := fun w' (hb : Below w.heap.size w w') => contains_y l a n c w' (hs.below hb)
 obtain rfl := hs.nf sc_len (by decide)
 obtain ⟨⟨a0, n0, c0⟩, ⟨a1, n1, c1⟩, ps0, ps1, ⟨ad, nd, cd⟩, ⟨ac, nc, cc⟩, ⟨an, nn, cn⟩, ⟨af, nf, cf⟩, ⟨aw, nw, cw⟩⟩ := H
 obtain ⟨sg, sn, si⟩ := s
 unfold TH.v at hV ⊢
 simp only [hdv] at hV ⊢
 have hbb : Below w.heap.size w ((w.alloc (.cells #[.slice a0 n0 c0, .slice a1 n1 c1, .slice ad nd cd, .slice ac nc cc, .slice an nn cn, .slice af nf cf, .slice aw nw cw] 29)).alloc (.cells #[.int .i64 sg, .bool sn, .bool si] 54)) := (blo w _).trans ((blo _ _).mono (by simp))
 have X4 : Box ((w.alloc (.cells #[.slice a0 n0 c0, .slice a1 n1 c1, .slice ad nd cd, .slice ac nc cc, .slice an nn cn, .slice af nf cf, .slice aw nw cw] 29)).alloc (.cells #[.int .i64 sg, .bool sn, .bool si] 54)) w.heap.size 29 #[.slice a0 n0 c0, .slice a1 n1 c1, .slice ad nd cd, .slice ac nc cc, .slice an nn cn, .slice af nf cf, .slice aw nw cw].toList := (Box.new w _ _).alloc _
 have X5 : Box ((w.alloc (.cells #[.slice a0 n0 c0, .slice a1 n1 c1, .slice ad nd cd, .slice ac nc cc, .slice an nn cn, .slice af nf cf, .slice aw nw cw] 29)).alloc (.cells #[.int .i64 sg, .bool sn, .bool si] 54)) (w.heap.size + 1) 54 [.int .i64 sg, .bool sn, .bool si] := by
  have := Box.new (w.alloc (.cells #[.slice a0 n0 c0, .slice a1 n1 c1, .slice ad nd cd, .slice ac nc cc, .slice an nn cn, .slice af nf cf, .slice aw nw cw] 29)) 54 #[.int .i64 sg, .bool sn, .bool si]
  rwa [show (w.alloc (.cells #[.slice a0 n0 c0, .slice a1 n1 c1, .slice ad nd cd, .slice ac nc cc, .slice an nn cn, .slice af nf cf, .slice aw nw cw] 29)).heap.size = w.heap.size + 1 by simp] at this
 have HBB := hide hbb
 have HX4 := hide X4
 have HX5 := hide X5
 clear hbb X4 X5
 have hsl : sg = 0 ∨ sg = 1 := hsl
 obtain ⟨xg, xc⟩ := x
 rw [hv] at hV
 rw [hgd] at hC
 have hp := (List.getElem?_eq_some_iff.1 hx).1
 have d1 : decide (sg < 0) = false := decide_eq_false (by omega)
 have d2 : decide (1 < sg) = false := decide_eq_false (by omega)
 have d4 : decide ((l.length : Int) ≤ (p : Int)) = false := decide_eq_false (by omega)
 have d4' : decide (l.length ≤ p) = false := decide_eq_false (by omega)
 have HXP := hide hx
 have hxg : xg = 0 ∨ xg = 1 := by
  have h1 : symOk ⟨xg, xc⟩ = true := by
   unfold goodS at hgd
   exact List.all_eq_true.1 hgd _ (List.mem_of_getElem? hx)
  unfold symOk at h1
  simp only [Bool.and_eq_true, Bool.or_eq_true, decide_eq_true_eq] at h1
  exact h1.1
 have HGD := hide hgd
 have HV0 := hide hv
 clear hv hgd hx
 have heq : sg = xg := heq.symm
 subst heq
 have hd : isD xc = true := hd
 have hD := fun w' => tab_digit xc w'
 rw [hd] at hD
 obtain ⟨j, hj, hj9⟩ : ∃ j : Nat, xc.toNat = j + 48 ∧ j ≤ 9 := by
  unfold isD at hd
  simp only [Bool.and_eq_true, decide_eq_true_eq] at hd
  exact ⟨xc.toNat - 48, by omega, by omega⟩
 have HJ := hide hj
 have hgp := good_parts (valid_parts HV0.out).2.2.1
 have hd10 : t.dig.length = 10 := hgp.1
 have hnn : nn = t.num.length := hT.n.n_eq
 have hnn4 := indic_le hgp.2.2.1
 have hnn5 : nn ≤ 4 := by omega
 obtain ⟨dj, hdj⟩ : ∃ dj, t.dig[j]? = some dj := ⟨t.dig[j]'(by omega), List.getElem?_eq_getElem _⟩
 have HDJ : Hid (t.dig.getD (xc.toNat - 48) 0 = dj) := hide (by rw [hj, Nat.add_sub_cancel, List.getD_eq_getElem?_getD, hdj]; rfl)
 have hTd : Sl w 1 ad nd cd (t.dig.map B8) := hT.d
 have HND : Hid (nd = t.dig.length) := hide hTd.n_eq
 have hnd10 : nd = 10 := by rw [HND.out]; exact hd10
 obtain ⟨bd, od, hab, hbd, hcd⟩ := hTd.ex (by rw [List.length_map]; omega)
 have HCD : Hid (w.cell? ⟨bd, od + j, none⟩ = some (.int .u8 (dj.toNat : Int))) := hide (hcd j _ (by rw [List.getElem?_map, hdj]; rfl))
 have HTN : Hid (Sl w 1 an nn cn (t.num.map B8)) := hide hT.n
 subst hab
 subst hnd10
 clear hd hj hgp hd10 hnn hnn4 hdj hTd hcd hT hbd
 cases sn
 ·go_enter Tryd.func19, Tryd.ntmps19
  go_upto_region 7 with (first | (go_at_call 39; refine (hV _ HBB.out).mono ?_; rintro e w3 ⟨rfl, hb3⟩; have x5 := HX5.out.under hb3; have k5 : w3.cell? ⟨w.heap.size + 1, 0, none⟩ = some (.int .i64 sg) := x5.at_ rfl; have hbw3 := HBB.out.trans (hb3.mono HBB.out.size)) | (go_at_call 40; refine (hC _ hbw3).mono ?_; rintro e w4 ⟨rfl, hb4⟩; have hbw4 := hbw3.trans (hb4.mono hbw3.size); have x4 := (HX4.out.under hb3).under hb4; have x5' := x5.under hb4; have k5' : w4.cell? ⟨w.heap.size + 1, 0, none⟩ = some (.int .i64 sg) := x5'.at_ rfl; have hw5 : w.heap.size + 1 < w4.heap.size := x5'.lt) | (with_reducible refine idx_y 47 _ _ _ _ _ _ rfl (hs.below hbw4) _ _ p rfl rfl _ HXP.out ?_; intro b o hcell hcell2 hbo) | (go_at_call 44; refine (hD _).mono ?_; rintro e wd ⟨rfl, rfl⟩))
  have y9 := Box.new w4 83 #[.int .i64 sg, .int .u8 (xc.toNat : Int)]
  have y4 := x4.alloc (.cells #[.int .i64 sg, .int .u8 (xc.toNat : Int)] 83)
  have y5 := x5'.alloc (.cells #[.int .i64 sg, .int .u8 (xc.toNat : Int)] 83)
  have hbw5 := hbw4.trans ((blo w4 (.cells #[.int .i64 sg, .int .u8 (xc.toNat : Int)] 83)).mono hbw4.size)
  have h9 : w.heap.size + 1 < w4.heap.size := hw5
  clear k5 k5' hcell hcell2 hbo hb3 hb4 hbw3 x4 x5 x5' hw5
  generalize w4.alloc (.cells _ 83) = w5 at *
  obtain ⟨g9, hg9⟩ : ∃ g9, g9 = w4.heap.size := ⟨_, rfl⟩
  rw [← hg9] at y9 h9 ⊢
  clear hg9
  have hcX : ∀ w', Below w5.heap.size w5 w' → w'.cell? ⟨g9, 0, none⟩ = some (.int .i64 sg) := fun w' h => (y9.under h).at_ rfl
  have hcC : ∀ w', Below w5.heap.size w5 w' → w'.cell? ⟨g9, 1, none⟩ = some (.int .u8 ((j : Int) + 48)) := fun w' h => by
   have := (y9.under h).at_ (j := 1) (u := .int .u8 (xc.toNat : Int)) rfl
   rw [this, HJ.out]; rfl
  have hcT : ∀ w', Below w5.heap.size w5 w' → w'.cell? ⟨w.heap.size, 2, none⟩ = some (.slice (some ⟨bd, od, none⟩) 10 cd) := fun w' h => (y4.under h).at_ rfl
  have hcD : ∀ w', Below w5.heap.size w5 w' → w'.cell? ⟨bd, od + j, none⟩ = some (.int .u8 (dj.toNat : Int)) := fun w' h => cell_below (cell_below HCD.out hbw5) h
  have k51 : w5.cell? ⟨w.heap.size + 1, 1, none⟩ = some (.bool false) := y5.at_ rfl
  have k44 : w5.cell? ⟨w.heap.size, 4, none⟩ = some (.slice an nn cn) := y4.at_ rfl
  have hTn5 := HTN.out.below hbw5
  go_wp2_with (at_builtin; refine app_bs rfl _ _ rfl w5 w5.heap.size _ 0 0 _ rfl (Own.nil _ _ _ _) an nn cn t.num rfl hTn5 (by omega) (Nat.le_refl _) (Below.refl _ _) ?_; intro ca cc w6 ho6 hgr6 hb56; rw [Nat.zero_add] at ho6 ⊢)
  have ho6 : Own w6 w5.heap.size 5 1 ca nn cc (t.num.map B8) := ho6
  have HNE : Hid (∀ b, w6.heap.size ≤ b → some b ≠ ca.map (·.block)) := hide (fun b hb h => by
   cases hca : ca with
   | none => rw [hca] at h; cases h
   | some q => rw [hca] at h ho6; have h1 := ho6.base.2; simp at h; omega)
  refine wp_region_mid 13 (Below w5.heap.size w5) (fun w' => Below w5.heap.size w5 w') ⟨12, 84, [84], fun vs w' => ∃ a' c', vs = [.slice a' (nn + 1) c'] ∧ Own w' w5.heap.size 5 1 a' (nn + 1) c' (t.num.map B8 ++ [dj].map B8)⟩ [⟨11, 83, [83], fun vs w' => ∃ b, vs = [.slice (some ⟨b, 0, none⟩) 1 1] ∧ w6.heap.size ≤ b ∧ Sl w' 1 (some ⟨b, 0, none⟩) 1 1 ([dj].map B8)⟩] [⟨0, 72, [72], fun vs _ => vs = [.pointer (some ⟨g9, 0, none⟩)]⟩, ⟨1, 73, [73], fun vs _ => vs = [.int .i64 sg]⟩, ⟨2, 74, [74], fun vs _ => vs = [.agg #[.int .i64 sg, .bool true, .bool false]]⟩, ⟨3, 75, [75], fun vs _ => vs = [.slice ca nn cc]⟩, ⟨4, 76, [76], fun vs _ => vs = [.pointer (some ⟨w.heap.size, 2, none⟩)]⟩, ⟨5, 77, [77], fun vs _ => vs = [.slice (some ⟨bd, od, none⟩) 10 cd]⟩, ⟨6, 78, [78], fun vs _ => vs = [.pointer (some ⟨g9, 1, none⟩)]⟩, ⟨7, 79, [79], fun vs _ => vs = [.int .u8 ((j : Int) + 48)]⟩, ⟨8, 80, [80], fun vs _ => vs = [.int .u8 (j : Int)]⟩, ⟨9, 81, [81], fun vs _ => vs = [.pointer (some ⟨bd, od + j, none⟩)]⟩, ⟨10, 82, [82], fun vs _ => vs = [.int .u8 (dj.toNat : Int)]⟩] (by kernel_rfl) (by kernel_rfl) ?_ ?_ ?_ ?_ ?_ ?_ ?_
  ·exact fun w' h => hb56.trans (h.mono hb56.size)
  ·exact fun w' h => h
  ·simp only [All, List.cons_append, List.nil_append]
   refine ⟨?_, fun _ _ _ _ h => h, fun _ _ _ _ h => h, fun _ _ _ _ h => h, fun _ _ _ _ h => h, fun _ _ _ _ h => h, fun _ _ _ _ h => h, fun _ _ _ _ h => h, fun _ _ _ _ h => h, fun _ _ _ _ h => h, fun _ _ _ _ h => h, fun _ _ _ _ h => h, trivial⟩
   ·rintro vs w w' hb ⟨b, h1, h2, h3⟩
    exact ⟨b, h1, h2, h3.below hb⟩
  ·intro o ho a' w' hb hfr hdep; obtain rfl := oj ho
   have g75 : a'.tmps[75]?.getD undef = .slice ca nn cc := by simpa using hdep 5 _ rfl (by kernel_rfl)
   obtain ⟨b8, g83, hb8, hs8⟩ := hdep 1 _ rfl (by kernel_rfl)
   simp at g83
   clear ho hfr hdep; have hb13 := hb56.trans (hb.mono hb56.size)
   refine app_bs rfl _ _ rfl w5 w5.heap.size ca nn cc _ (by show a'.tmps.getD 75 undef = _; simpa using g75) (ho6.below hb) (some ⟨b8, 0, none⟩) 1 1 [dj] (by show a'.tmps.getD 83 undef = _; simpa using g83) hs8 (by omega) hb13.size hb13 ?_
   intro a3 c3 w7 ho7 hgr7 hb7
   go_wp2
   refine ⟨rfl, _, rfl, ⟨a3, c3, rfl, ho7⟩, hb7, ?_⟩
   simp only [All]
   exact ⟨fun _ ⟨b, h1, h2, h3⟩ => ⟨b, h1, h2, h3.grown hgr7 (fun q hq => by cases hq; exact HNE.out _ h2)⟩, fun _ h => h, fun _ h => h, fun _ h => h, fun _ h => h, fun _ h => h, fun _ h => h, fun _ h => h, fun _ h => h, fun _ h => h, fun _ h => h, fun _ h => h, trivial⟩
  ·simp only [All]
   refine ⟨?_, trivial⟩
   ·intro o ho a' w' hb hfr hdep; obtain rfl := oj ho
    have g82 : a'.tmps[82]?.getD undef = .int .u8 (dj.toNat : Int) := by simpa using hdep 12 _ rfl (by kernel_rfl)
    clear ho hfr hdep; go_wp2_with fail
    exact ⟨rfl, _, rfl, blo _ _, _, rfl, hb.size, Sl.fresh _ _ 1 1 ([dj].map B8) rfl (by decide)⟩
  ·simp only [All]
   refine ⟨?_, ?_, ?_, ?_, ?_, ?_, ?_, ?_, ?_, ?_, ?_, trivial⟩
   ·intro o ho a' w' hb hfr hdep; obtain rfl := oj ho
    have g9 : a'.tmps[9]?.getD undef = .pointer (some ⟨g9, 0, none⟩) := by simpa using hfr 9 (by kernel_rfl)
    clear ho hfr hdep; go_wp2_with fail
    exact ⟨rfl, _, rfl, rfl, rfl⟩
   ·intro o ho a' w' hb hfr hdep; obtain rfl := oj ho
    have g72 : a'.tmps[72]?.getD undef = .pointer (some ⟨g9, 0, none⟩) := by simpa using hdep 2 _ rfl (by kernel_rfl)
    clear ho hfr hdep; have hcl := hcX _ hb
    go_wp2_with fail
    exact ⟨rfl, _, rfl, rfl, rfl⟩
   ·intro o ho a' w' hb hfr hdep; obtain rfl := oj ho
    have g73 : a'.tmps[73]?.getD undef = .int .i64 sg := by simpa using hdep 3 _ rfl (by kernel_rfl)
    clear ho hfr hdep; go_wp2_with fail
    exact ⟨rfl, _, rfl, rfl, rfl⟩
   ·intro o ho a' w' hb hfr hdep; obtain rfl := oj ho
    have g10 : a'.tmps[10]?.getD undef = .slice ca nn cc := by simpa using hfr 10 (by kernel_rfl)
    clear ho hfr hdep; go_wp2_with fail
    exact ⟨rfl, _, rfl, rfl, rfl⟩
   ·intro o ho a' w' hb hfr hdep; obtain rfl := oj ho
    have g4 : a'.tmps[4]?.getD undef = .pointer (some ⟨w.heap.size, 0, none⟩) := by simpa using hfr 4 (by kernel_rfl)
    clear ho hfr hdep; go_wp2_with fail
    exact ⟨rfl, _, rfl, rfl, rfl⟩
   ·intro o ho a' w' hb hfr hdep; obtain rfl := oj ho
    have g76 : a'.tmps[76]?.getD undef = .pointer (some ⟨w.heap.size, 2, none⟩) := by simpa using hdep 6 _ rfl (by kernel_rfl)
    clear ho hfr hdep; have hcl := hcT _ hb
    go_wp2_with fail
    exact ⟨rfl, _, rfl, rfl, rfl⟩
   ·intro o ho a' w' hb hfr hdep; obtain rfl := oj ho
    have g9 : a'.tmps[9]?.getD undef = .pointer (some ⟨g9, 0, none⟩) := by simpa using hfr 9 (by kernel_rfl)
    clear ho hfr hdep; go_wp2_with fail
    exact ⟨rfl, _, rfl, rfl, rfl⟩
   ·intro o ho a' w' hb hfr hdep; obtain rfl := oj ho
    have g78 : a'.tmps[78]?.getD undef = .pointer (some ⟨g9, 1, none⟩) := by simpa using hdep 8 _ rfl (by kernel_rfl)
    clear ho hfr hdep; have hcl := hcC _ hb
    go_wp2_with fail
    exact ⟨rfl, _, rfl, rfl, rfl⟩
   ·intro o ho a' w' hb hfr hdep; obtain rfl := oj ho
    have g79 : a'.tmps[79]?.getD undef = .int .u8 ((j : Int) + 48) := by simpa using hdep 9 _ rfl (by kernel_rfl)
    clear ho hfr hdep; go_wp2_with fail
    exact ⟨rfl, _, rfl, rfl, rfl⟩
   ·intro o ho a' w' hb hfr hdep; obtain rfl := oj ho
    have g77 : a'.tmps[77]?.getD undef = .slice (some ⟨bd, od, none⟩) 10 cd := by simpa using hdep 7 _ rfl (by kernel_rfl)
    have g80 : a'.tmps[80]?.getD undef = .int .u8 (j : Int) := by simpa using hdep 10 _ rfl (by kernel_rfl)
    clear ho hfr hdep; go_wp2_with fail
    exact ⟨rfl, _, rfl, rfl, rfl⟩
   ·intro o ho a' w' hb hfr hdep; obtain rfl := oj ho
    have g81 : a'.tmps[81]?.getD undef = .pointer (some ⟨bd, od + j, none⟩) := by simpa using hdep 11 _ rfl (by kernel_rfl)
    clear ho hfr hdep; have hcl := hcD _ hb
    go_wp2_with fail
    exact ⟨rfl, _, rfl, rfl, rfl⟩
  ·intro g w7 hG hp10
   obtain ⟨a7, c7, p84, ho7⟩ := hp10 0 _ rfl
   have p74 := hp10 4 _ rfl
   clear hp10
   simp at p74 p84
   simp only [List.drop_succ_cons, List.drop_zero, List.map_cons, List.map_nil, putAll, Act.put, List.setIfInBounds_toArray, List.set_cons_succ, List.set_cons_zero, List.cons_append, List.nil_append, p74, p84]
   have HF := hide (Sl.fresh w7 88 6 1 (stc (⟨⟨sg, true, false⟩, 1, t.num ++ [dj], -1⟩, (a7, nn + 1, c7))) rfl (by decide))
   have HFt := hide (TypAt.fresh w7 (stc (⟨⟨sg, true, false⟩, 1, t.num ++ [dj], -1⟩, (a7, nn + 1, c7))).toArray 88)
   have hbf := blo w7 (.cells (stc (⟨⟨sg, true, false⟩, 1, t.num ++ [dj], -1⟩, (a7, nn + 1, c7))).toArray 88)
   go_wp2_with fail
   go_ret
   refine ⟨_, 1, [(⟨⟨sg, true, false⟩, 1, t.num ++ [dj], -1⟩, (a7, nn + 1, c7))], rfl, ⟨HF.out, fun q hq => ?_, ?_⟩, hbw5.trans ((hG.trans (hbf.mono hG.size)).mono hbw5.size), HFt.out⟩
   ·rw [List.mem_singleton] at hq
    subst hq
    have := ho7.sl.below hbf
    rw [← List.map_append] at this
    exact this
   ·have hj1 := HDJ.out
    rw [List.getD_eq_getElem?_getD] at hj1
    simp [hj1]

 ·go_enter Tryd.func19, Tryd.ntmps19
  go_upto_region 7 with (first | (go_at_call 39; refine (hV _ HBB.out).mono ?_; rintro e w3 ⟨rfl, hb3⟩; have x5 := HX5.out.under hb3; have k5 : w3.cell? ⟨w.heap.size + 1, 0, none⟩ = some (.int .i64 sg) := x5.at_ rfl; have hbw3 := HBB.out.trans (hb3.mono HBB.out.size)) | (go_at_call 40; refine (hC _ hbw3).mono ?_; rintro e w4 ⟨rfl, hb4⟩; have hbw4 := hbw3.trans (hb4.mono hbw3.size); have x4 := (HX4.out.under hb3).under hb4; have x5' := x5.under hb4; have k5' : w4.cell? ⟨w.heap.size + 1, 0, none⟩ = some (.int .i64 sg) := x5'.at_ rfl; have hw5 : w.heap.size + 1 < w4.heap.size := x5'.lt) | (with_reducible refine idx_y 47 _ _ _ _ _ _ rfl (hs.below hbw4) _ _ p rfl rfl _ HXP.out ?_; intro b o hcell hcell2 hbo) | (go_at_call 44; refine (hD _).mono ?_; rintro e wd ⟨rfl, rfl⟩))
  have y9 := Box.new w4 83 #[.int .i64 sg, .int .u8 (xc.toNat : Int)]
  have y4 := x4.alloc (.cells #[.int .i64 sg, .int .u8 (xc.toNat : Int)] 83)
  have y5 := x5'.alloc (.cells #[.int .i64 sg, .int .u8 (xc.toNat : Int)] 83)
  have hbw5 := hbw4.trans ((blo w4 (.cells #[.int .i64 sg, .int .u8 (xc.toNat : Int)] 83)).mono hbw4.size)
  have h9 : w.heap.size + 1 < w4.heap.size := hw5
  clear k5 k5' hcell hcell2 hbo hb3 hb4 hbw3 x4 x5 x5' hw5
  generalize w4.alloc (.cells _ 83) = w5 at *
  obtain ⟨g9, hg9⟩ : ∃ g9, g9 = w4.heap.size := ⟨_, rfl⟩
  rw [← hg9] at y9 h9 ⊢
  clear hg9
  have hcX : ∀ w', Below w5.heap.size w5 w' → w'.cell? ⟨g9, 0, none⟩ = some (.int .i64 sg) := fun w' h => (y9.under h).at_ rfl
  have hcC : ∀ w', Below w5.heap.size w5 w' → w'.cell? ⟨g9, 1, none⟩ = some (.int .u8 ((j : Int) + 48)) := fun w' h => by
   have := (y9.under h).at_ (j := 1) (u := .int .u8 (xc.toNat : Int)) rfl
   rw [this, HJ.out]; rfl
  have hcT : ∀ w', Below w5.heap.size w5 w' → w'.cell? ⟨w.heap.size, 2, none⟩ = some (.slice (some ⟨bd, od, none⟩) 10 cd) := fun w' h => (y4.under h).at_ rfl
  have hcD : ∀ w', Below w5.heap.size w5 w' → w'.cell? ⟨bd, od + j, none⟩ = some (.int .u8 (dj.toNat : Int)) := fun w' h => cell_below (cell_below HCD.out hbw5) h
  have k51 : w5.cell? ⟨w.heap.size + 1, 1, none⟩ = some (.bool true) := y5.at_ rfl
  go_wp2_with fail
  have ho6 := Own.nil w5 w5.heap.size 5 1
  have hb56 := Below.refl w5.heap.size w5
  have HNE : Hid (∀ b, w5.heap.size ≤ b → some b ≠ (none : Option Addr).map (·.block)) := hide (fun b hb h => by cases h)
  refine wp_region_mid 13 (Below w5.heap.size w5) (fun w' => Below w5.heap.size w5 w') ⟨12, 84, [84], fun vs w' => ∃ a' c', vs = [.slice a' (0 + 1) c'] ∧ Own w' w5.heap.size 5 1 a' (0 + 1) c' (([] : List UInt8).map B8 ++ [dj].map B8)⟩ [⟨11, 83, [83], fun vs w' => ∃ b, vs = [.slice (some ⟨b, 0, none⟩) 1 1] ∧ w5.heap.size ≤ b ∧ Sl w' 1 (some ⟨b, 0, none⟩) 1 1 ([dj].map B8)⟩] [⟨0, 72, [72], fun vs _ => vs = [.pointer (some ⟨g9, 0, none⟩)]⟩, ⟨1, 73, [73], fun vs _ => vs = [.int .i64 sg]⟩, ⟨2, 74, [74], fun vs _ => vs = [.agg #[.int .i64 sg, .bool true, .bool false]]⟩, ⟨3, 75, [75], fun vs _ => vs = [.slice none 0 0]⟩, ⟨4, 76, [76], fun vs _ => vs = [.pointer (some ⟨w.heap.size, 2, none⟩)]⟩, ⟨5, 77, [77], fun vs _ => vs = [.slice (some ⟨bd, od, none⟩) 10 cd]⟩, ⟨6, 78, [78], fun vs _ => vs = [.pointer (some ⟨g9, 1, none⟩)]⟩, ⟨7, 79, [79], fun vs _ => vs = [.int .u8 ((j : Int) + 48)]⟩, ⟨8, 80, [80], fun vs _ => vs = [.int .u8 (j : Int)]⟩, ⟨9, 81, [81], fun vs _ => vs = [.pointer (some ⟨bd, od + j, none⟩)]⟩, ⟨10, 82, [82], fun vs _ => vs = [.int .u8 (dj.toNat : Int)]⟩] (by kernel_rfl) (by kernel_rfl) ?_ ?_ ?_ ?_ ?_ ?_ ?_
  ·exact fun w' h => hb56.trans (h.mono hb56.size)
  ·exact fun w' h => h
  ·simp only [All, List.cons_append, List.nil_append]
   refine ⟨?_, fun _ _ _ _ h => h, fun _ _ _ _ h => h, fun _ _ _ _ h => h, fun _ _ _ _ h => h, fun _ _ _ _ h => h, fun _ _ _ _ h => h, fun _ _ _ _ h => h, fun _ _ _ _ h => h, fun _ _ _ _ h => h, fun _ _ _ _ h => h, fun _ _ _ _ h => h, trivial⟩
   ·rintro vs w w' hb ⟨b, h1, h2, h3⟩
    exact ⟨b, h1, h2, h3.below hb⟩
  ·intro o ho a' w' hb hfr hdep; obtain rfl := oj ho
   have g75 : a'.tmps[75]?.getD undef = .slice none 0 0 := by simpa using hdep 5 _ rfl (by kernel_rfl)
   obtain ⟨b8, g83, hb8, hs8⟩ := hdep 1 _ rfl (by kernel_rfl)
   simp at g83
   clear ho hfr hdep; have hb13 := hb56.trans (hb.mono hb56.size)
   refine app_bs rfl _ _ rfl w5 w5.heap.size none 0 0 _ (by show a'.tmps.getD 75 undef = _; simpa using g75) (ho6.below hb) (some ⟨b8, 0, none⟩) 1 1 [dj] (by show a'.tmps.getD 83 undef = _; simpa using g83) hs8 (by omega) hb13.size hb13 ?_
   intro a3 c3 w7 ho7 hgr7 hb7
   go_wp2
   refine ⟨rfl, _, rfl, ⟨a3, c3, rfl, ho7⟩, hb7, ?_⟩
   simp only [All]
   exact ⟨fun _ ⟨b, h1, h2, h3⟩ => ⟨b, h1, h2, h3.grown hgr7 (fun q hq => by cases hq; exact HNE.out _ h2)⟩, fun _ h => h, fun _ h => h, fun _ h => h, fun _ h => h, fun _ h => h, fun _ h => h, fun _ h => h, fun _ h => h, fun _ h => h, fun _ h => h, fun _ h => h, trivial⟩
  ·simp only [All]
   refine ⟨?_, trivial⟩
   ·intro o ho a' w' hb hfr hdep; obtain rfl := oj ho
    have g82 : a'.tmps[82]?.getD undef = .int .u8 (dj.toNat : Int) := by simpa using hdep 12 _ rfl (by kernel_rfl)
    clear ho hfr hdep; go_wp2_with fail
    exact ⟨rfl, _, rfl, blo _ _, _, rfl, hb.size, Sl.fresh _ _ 1 1 ([dj].map B8) rfl (by decide)⟩
  ·simp only [All]
   refine ⟨?_, ?_, ?_, ?_, ?_, ?_, ?_, ?_, ?_, ?_, ?_, trivial⟩
   ·intro o ho a' w' hb hfr hdep; obtain rfl := oj ho
    have g9 : a'.tmps[9]?.getD undef = .pointer (some ⟨g9, 0, none⟩) := by simpa using hfr 9 (by kernel_rfl)
    clear ho hfr hdep; go_wp2_with fail
    exact ⟨rfl, _, rfl, rfl, rfl⟩
   ·intro o ho a' w' hb hfr hdep; obtain rfl := oj ho
    have g72 : a'.tmps[72]?.getD undef = .pointer (some ⟨g9, 0, none⟩) := by simpa using hdep 2 _ rfl (by kernel_rfl)
    clear ho hfr hdep; have hcl := hcX _ hb
    go_wp2_with fail
    exact ⟨rfl, _, rfl, rfl, rfl⟩
   ·intro o ho a' w' hb hfr hdep; obtain rfl := oj ho
    have g73 : a'.tmps[73]?.getD undef = .int .i64 sg := by simpa using hdep 3 _ rfl (by kernel_rfl)
    clear ho hfr hdep; go_wp2_with fail
    exact ⟨rfl, _, rfl, rfl, rfl⟩
   ·intro o ho a' w' hb hfr hdep; obtain rfl := oj ho
    have g10 : a'.tmps[10]?.getD undef = .slice none 0 0 := by simpa using hfr 10 (by kernel_rfl)
    clear ho hfr hdep; go_wp2_with fail
    exact ⟨rfl, _, rfl, rfl, rfl⟩
   ·intro o ho a' w' hb hfr hdep; obtain rfl := oj ho
    have g4 : a'.tmps[4]?.getD undef = .pointer (some ⟨w.heap.size, 0, none⟩) := by simpa using hfr 4 (by kernel_rfl)
    clear ho hfr hdep; go_wp2_with fail
    exact ⟨rfl, _, rfl, rfl, rfl⟩
   ·intro o ho a' w' hb hfr hdep; obtain rfl := oj ho
    have g76 : a'.tmps[76]?.getD undef = .pointer (some ⟨w.heap.size, 2, none⟩) := by simpa using hdep 6 _ rfl (by kernel_rfl)
    clear ho hfr hdep; have hcl := hcT _ hb
    go_wp2_with fail
    exact ⟨rfl, _, rfl, rfl, rfl⟩
   ·intro o ho a' w' hb hfr hdep; obtain rfl := oj ho
    have g9 : a'.tmps[9]?.getD undef = .pointer (some ⟨g9, 0, none⟩) := by simpa using hfr 9 (by kernel_rfl)
    clear ho hfr hdep; go_wp2_with fail
    exact ⟨rfl, _, rfl, rfl, rfl⟩
   ·intro o ho a' w' hb hfr hdep; obtain rfl := oj ho
    have g78 : a'.tmps[78]?.getD undef = .pointer (some ⟨g9, 1, none⟩) := by simpa using hdep 8 _ rfl (by kernel_rfl)
    clear ho hfr hdep; have hcl := hcC _ hb
    go_wp2_with fail
    exact ⟨rfl, _, rfl, rfl, rfl⟩
   ·intro o ho a' w' hb hfr hdep; obtain rfl := oj ho
    have g79 : a'.tmps[79]?.getD undef = .int .u8 ((j : Int) + 48) := by simpa using hdep 9 _ rfl (by kernel_rfl)
    clear ho hfr hdep; go_wp2_with fail
    exact ⟨rfl, _, rfl, rfl, rfl⟩
   ·intro o ho a' w' hb hfr hdep; obtain rfl := oj ho
    have g77 : a'.tmps[77]?.getD undef = .slice (some ⟨bd, od, none⟩) 10 cd := by simpa using hdep 7 _ rfl (by kernel_rfl)
    have g80 : a'.tmps[80]?.getD undef = .int .u8 (j : Int) := by simpa using hdep 10 _ rfl (by kernel_rfl)
    clear ho hfr hdep; go_wp2_with fail
    exact ⟨rfl, _, rfl, rfl, rfl⟩
   ·intro o ho a' w' hb hfr hdep; obtain rfl := oj ho
    have g81 : a'.tmps[81]?.getD undef = .pointer (some ⟨bd, od + j, none⟩) := by simpa using hdep 11 _ rfl (by kernel_rfl)
    clear ho hfr hdep; have hcl := hcD _ hb
    go_wp2_with fail
    exact ⟨rfl, _, rfl, rfl, rfl⟩
  ·intro g w7 hG hp10
   obtain ⟨a7, c7, p84, ho7⟩ := hp10 0 _ rfl
   have p74 := hp10 4 _ rfl
   clear hp10
   simp at p74 p84
   simp only [List.drop_succ_cons, List.drop_zero, List.map_cons, List.map_nil, putAll, Act.put, List.setIfInBounds_toArray, List.set_cons_succ, List.set_cons_zero, List.cons_append, List.nil_append, p74, p84]
   have HF := hide (Sl.fresh w7 88 6 1 (stc (⟨⟨sg, true, false⟩, 1, ([] : List UInt8) ++ [dj], -1⟩, (a7, 0 + 1, c7))) rfl (by decide))
   have HFt := hide (TypAt.fresh w7 (stc (⟨⟨sg, true, false⟩, 1, ([] : List UInt8) ++ [dj], -1⟩, (a7, 0 + 1, c7))).toArray 88)
   have hbf := blo w7 (.cells (stc (⟨⟨sg, true, false⟩, 1, ([] : List UInt8) ++ [dj], -1⟩, (a7, 0 + 1, c7))).toArray 88)
   go_wp2_with fail
   go_ret
   refine ⟨_, 1, [(⟨⟨sg, true, false⟩, 1, ([] : List UInt8) ++ [dj], -1⟩, (a7, 0 + 1, c7))], rfl, ⟨HF.out, fun q hq => ?_, ?_⟩, hbw5.trans ((hG.trans (hbf.mono hG.size)).mono hbw5.size), HFt.out⟩
   ·rw [List.mem_singleton] at hq
    subst hq
    have := ho7.sl.below hbf
    rw [← List.map_append] at this
    exact this
   ·have hj1 := HDJ.out
    rw [List.getD_eq_getElem?_getD] at hj1
    simp [hj1]

end Go.Proofs.YtfagjaabladgpaaDoor
end

section
/- Chapter 06: the program's Steps. -/
namespace Go.Proofs.YtfagjaabladgpaaDoor
open Go.RowKit Go.Dx

set_option maxRecDepth 100000 in
set_option maxHeartbeats 8000000 in
theorem tab_Steps_ru (H : TH) (t : Ta) (s : St) (l : List Sy) (a : Option Addr) (n c : Nat) (p : Nat) (x : Sy) (hv : validE t = 0) (hsl : s.lang = 0 ∨ s.lang = 1) (hx : l[p]? = some x) (hgd : goodS l = true) (hll : l.length ≤ 1000000) (heq : x.lang = s.lang) (hd : isD x.c = false) (w : World) (hT : TaIs w H t) (hs : Sl w 2 a n c (l.flatMap sc)) :
  Calls Tryd.prog 19 #[H.v, .agg #[.int .i64 s.lang, .bool s.num, .bool s.wrd], .slice a n c, .int .i64 (p : Int)] w (StepsT 88 (ruleSteps t s x l p 0 (langOf t x.lang)) w) := by
 have hV := fun w' (hb : Below w.heap.size w w') => tab_Valid H t w' (hT.below hb)
 have hC := fun w' (hb : Below w.heap.size w w') => contains_y l a n c w' (hs.below hb)
 obtain rfl := hs.nf sc_len (by decide)
 obtain ⟨⟨a0, n0, c0⟩, ⟨a1, n1, c1⟩, ps0, ps1, ⟨ad, nd, cd⟩, ⟨ac, nc, cc⟩, ⟨an, nn, cn⟩, ⟨af, nf, cf⟩, ⟨aw, nw, cw⟩⟩ := H
 obtain ⟨sg, sn, si⟩ := s
 unfold TH.v at hV ⊢
 simp only [hdv] at hV ⊢
 have hbb : Below w.heap.size w ((w.alloc (.cells #[.slice a0 n0 c0, .slice a1 n1 c1, .slice ad nd cd, .slice ac nc cc, .slice an nn cn, .slice af nf cf, .slice aw nw cw] 29)).alloc (.cells #[.int .i64 sg, .bool sn, .bool si] 54)) := (blo w _).trans ((blo _ _).mono (by simp))
 have X4 : Box ((w.alloc (.cells #[.slice a0 n0 c0, .slice a1 n1 c1, .slice ad nd cd, .slice ac nc cc, .slice an nn cn, .slice af nf cf, .slice aw nw cw] 29)).alloc (.cells #[.int .i64 sg, .bool sn, .bool si] 54)) w.heap.size 29 #[.slice a0 n0 c0, .slice a1 n1 c1, .slice ad nd cd, .slice ac nc cc, .slice an nn cn, .slice af nf cf, .slice aw nw cw].toList := (Box.new w _ _).alloc _
 have X5 : Box ((w.alloc (.cells #[.slice a0 n0 c0, .slice a1 n1 c1, .slice ad nd cd, .slice ac nc cc, .slice an nn cn, .slice af nf cf, .slice aw nw cw] 29)).alloc (.cells #[.int .i64 sg, .bool sn, .bool si] 54)) (w.heap.size + 1) 54 [.int .i64 sg, .bool sn, .bool si] := by
  have := Box.new (w.alloc (.cells #[.slice a0 n0 c0, .slice a1 n1 c1, .slice ad nd cd, .slice ac nc cc, .slice an nn cn, .slice af nf cf, .slice aw nw cw] 29)) 54 #[.int .i64 sg, .bool sn, .bool si]
  rwa [show (w.alloc (.cells #[.slice a0 n0 c0, .slice a1 n1 c1, .slice ad nd cd, .slice ac nc cc, .slice an nn cn, .slice af nf cf, .slice aw nw cw] 29)).heap.size = w.heap.size + 1 by simp] at this
 have HBB := hide hbb
 have HX4 := hide X4
 have HX5 := hide X5
 clear hbb X4 X5
 have hsl : sg = 0 ∨ sg = 1 := hsl
 obtain ⟨xg, xc⟩ := x
 rw [hv] at hV
 rw [hgd] at hC
 have hp := (List.getElem?_eq_some_iff.1 hx).1
 have d1 : decide (sg < 0) = false := decide_eq_false (by omega)
 have d2 : decide (1 < sg) = false := decide_eq_false (by omega)
 have d4 : decide ((l.length : Int) ≤ (p : Int)) = false := decide_eq_false (by omega)
 have d4' : decide (l.length ≤ p) = false := decide_eq_false (by omega)
 have HXP := hide hx
 have hxg : xg = 0 ∨ xg = 1 := by
  have h1 : symOk ⟨xg, xc⟩ = true := by
   unfold goodS at hgd
   exact List.all_eq_true.1 hgd _ (List.mem_of_getElem? hx)
  unfold symOk at h1
  simp only [Bool.and_eq_true, Bool.or_eq_true, decide_eq_true_eq] at h1
  exact h1.1
 have HGD := hide hgd
 have HV0 := hide hv
 clear hv hgd hx
 have heq : sg = xg := heq.symm
 subst heq
 obtain ⟨kx, rfl, hkx⟩ : ∃ kx : Nat, sg = (kx : Int) ∧ kx < 2 := by
  rcases hxg with h | h
  ·exact ⟨0, h, by decide⟩
  ·exact ⟨1, h, by decide⟩
 have hd : isD xc = false := hd
 have hD := fun w' => tab_digit xc w'
 have hL := fun w' => tab_Letter xc w'
 unfold LetterR at hL
 rw [hd] at hD
 have HLOW : Hid (langOf t (kx : Int) = langK t kx) := hide (two_cases (p := fun k => langOf t (k : Int) = langK t k) (by simp [langOf, langK]) (by simp [langOf, langK]) kx hkx)
 have hgp := good_parts (valid_parts HV0.out).2.2.1
 have hlok := fun r (hr : r ∈ langK t kx) => lang_ok (valid_parts HV0.out).2.2.1 (kx : Int) r (by rw [HLOW.out]; exact hr)
 have HLOK := hide hlok
 have hnf : nf = t.fin.length := hT.f.n_eq
 have hnc : nc = t.cap.length := hT.c.n_eq
 have hf4 := indic_le hgp.2.2.2.1
 have hc4 := indic_le hgp.2.1
 have hnf4 : nf ≤ 4 := by omega
 have hnc4 : nc ≤ 4 := by omega
 have HTF : Hid (Sl w 1 af nf cf (t.fin.map B8)) := hide hT.f
 have HTC : Hid (Sl w 1 ac nc cc (t.cap.map B8)) := hide hT.c
 obtain ⟨ak, nk, ck, pk, hck, hRk, hek⟩ := sel_lang hT kx hkx
 simp only [hdv] at hck
 have HCK := hide hck
 have HEK := hide hek
 have HRK := hide hRk
 have hnk := hRk.n_eq
 have hm1 := Nat.le_trans hRk.top.le hRk.top.cap
 unfold maxLen at hm1
 have hpk96 : pk.length ≤ 96 := by
  have h1 := (valid_parts HV0.out).1
  have h2 := (valid_parts HV0.out).2.1
  have h3 : (rus pk).length = pk.length := by unfold rus; simp
  rw [← h3, hek]
  unfold langK
  split
  ·exact h1
  ·exact h2
 obtain ⟨il, hil⟩ : ∃ il, isL xc = il := ⟨_, rfl⟩
 obtain ⟨ic, hic⟩ : ∃ ic, isC xc = ic := ⟨_, rfl⟩
 obtain ⟨cbv, hcb⟩ : ∃ cbv, (sn && il) = cbv := ⟨_, rfl⟩
 rw [hil, hic] at hL
 have HIL := hide hil
 have HIC := hide hic
 have HCB := hide hcb
 obtain ⟨pre1, hp1⟩ : ∃ pre1 : List UInt8, pre1 = if cbv then t.fin else [] := ⟨_, rfl⟩
 obtain ⟨pre2, hp2⟩ : ∃ pre2 : List UInt8, pre2 = pre1 ++ if ic then t.cap else [] := ⟨_, rfl⟩
 have HHEAD : Hid (headC t ⟨(kx : Int), sn, si⟩ ⟨(kx : Int), xc⟩ = pre2) := hide (by
  unfold headC
  simp only [hil, hic]
  rw [hp2, hp1, ← hcb])
 have hl1 : pre1.length ≤ 4 := by rw [hp1]; cases cbv <;> simp <;> omega
 have hl2 : pre2.length ≤ 8 := by rw [hp2, List.length_append]; cases ic <;> simp <;> omega
 have HP1 := hide hp1
 have HP2 := hide hp2
 clear hd hil hic hcb hp1 hp2 hgp hnf hnc hf4 hc4 hT hck hRk hek hlok
 rw [HLOW.out]
 go_enter Tryd.func19, Tryd.ntmps19
 go_upto_region 13 with (first | (go_at_call 39; refine (hV _ HBB.out).mono ?_; rintro e w3 ⟨rfl, hb3⟩; have x5 := HX5.out.under hb3; have k5 : w3.cell? ⟨w.heap.size + 1, 0, none⟩ = some (.int .i64 (kx : Int)) := x5.at_ rfl; have hbw3 := HBB.out.trans (hb3.mono HBB.out.size)) | (go_at_call 40; refine (hC _ hbw3).mono ?_; rintro e w4 ⟨rfl, hb4⟩; have hbw4 := hbw3.trans (hb4.mono hbw3.size); have x4 := (HX4.out.under hb3).under hb4; have x5' := x5.under hb4; have k5' : w4.cell? ⟨w.heap.size + 1, 0, none⟩ = some (.int .i64 (kx : Int)) := x5'.at_ rfl; have hw5 : w.heap.size + 1 < w4.heap.size := x5'.lt) | (with_reducible refine idx_y 47 _ _ _ _ _ _ rfl (hs.below hbw4) _ _ p rfl rfl _ HXP.out ?_; intro b o hcell hcell2 hbo) | (go_at_call 44; refine (hD _).mono ?_; rintro e wd ⟨rfl, rfl⟩) | (go_at_call 45; refine (hL _).mono ?_; rintro e wl ⟨rfl, rfl⟩))
 have y9 := Box.new w4 83 #[.int .i64 (kx : Int), .int .u8 (xc.toNat : Int)]
 have y4 := x4.alloc (.cells #[.int .i64 (kx : Int), .int .u8 (xc.toNat : Int)] 83)
 have y5 := x5'.alloc (.cells #[.int .i64 (kx : Int), .int .u8 (xc.toNat : Int)] 83)
 have hbw5 := hbw4.trans ((blo w4 (.cells #[.int .i64 (kx : Int), .int .u8 (xc.toNat : Int)] 83)).mono hbw4.size)
 have h9 : w.heap.size + 1 < w4.heap.size := hw5
 clear k5 k5' hcell hcell2 hbo hb3 hb4 hbw3 x4 x5 x5' hw5
 generalize w4.alloc (.cells _ 83) = w5 at *
 obtain ⟨g9, hg9⟩ : ∃ g9, g9 = w4.heap.size := ⟨_, rfl⟩
 rw [← hg9] at y9 h9 ⊢
 clear hg9
 have k51 : w5.cell? ⟨w.heap.size + 1, 1, none⟩ = some (.bool sn) := y5.at_ rfl
 go_cut [98] from 94 to 98 (fun v w' => v = .bool cbv ∧ w5 = w')
 case first =>
  have hh := HCB.out
  cases sn
  ·have hz : cbv = false := hh.symm
   subst hz
   go_wp2_with fail
   go_meet
   exact ⟨rfl, rfl⟩
  ·have hz : cbv = il := hh.symm
   subst hz
   go_wp2_with fail
   go_meet
   exact ⟨rfl, rfl⟩
 case rest =>
  obtain ⟨rfl, rfl⟩ := hcut
  have kf : w5.cell? ⟨w.heap.size, 5, none⟩ = some (.slice af nf cf) := y4.at_ rfl
  have kc : w5.cell? ⟨w.heap.size, 3, none⟩ = some (.slice ac nc cc) := y4.at_ rfl
  have hTf5 := HTF.out.below hbw5
  have hTc5 := HTC.out.below hbw5
  go_upto_if 98 with fail
  go_cut [14] (fun v w' => ∃ a c, v = .slice a pre1.length c ∧ Own w' w5.heap.size 5 1 a pre1.length c (pre1.map B8) ∧ Below w5.heap.size w5 w')
  case first =>
   have hh := HP1.out
   cases cbv
   ·have hz : pre1 = [] := hh
    subst hz
    go_wp2_with fail
    go_meet
    exact ⟨none, 0, rfl, Own.nil _ _ _ _, Below.refl _ _⟩
   ·have hz : pre1 = t.fin := hh
    have hnf : nf = pre1.length := by rw [hz]; exact hTf5.n_eq
    rw [← hz] at hTf5
    subst hnf
    clear hz hh
    go_wp2_with (at_builtin; refine app_bs rfl _ _ rfl w5 w5.heap.size _ 0 0 _ rfl (Own.nil _ _ _ _) af _ cf pre1 rfl hTf5 (by omega) (Nat.le_refl _) (Below.refl _ _) ?_; intro a6 c6 w6 ho6 hgr6 hb6; rw [Nat.zero_add] at ho6 ⊢)
    go_meet
    exact ⟨a6, c6, rfl, ho6, hb6⟩
  case rest =>
   obtain ⟨a6, c6, rfl, ho6, hb6⟩ := hcut
   obtain ⟨w6, rfl⟩ : ∃ w6 : World, w6 = wc := ⟨_, rfl⟩
   go_upto_if 103 with fail
   go_cut [14] (fun v w' => ∃ a c, v = .slice a pre2.length c ∧ Own w' w5.heap.size 5 1 a pre2.length c (pre2.map B8) ∧ Below w5.heap.size w5 w')
   case first =>
    have hh := HP2.out
    cases ic
    ·have hz : pre2 = pre1 := by rw [hh]; simp
     clear hh
     subst hz
     go_wp2_with fail
     go_meet
     exact ⟨a6, c6, rfl, ho6, hb6⟩
    ·have hz : pre2 = pre1 ++ t.cap := hh
     have hnc : nc = t.cap.length := hTc5.n_eq
     have kc6 := cell_below kc hb6
     have hTc6 := hTc5.below hb6
     subst hnc
     have HZL : Hid (pre2.length = pre1.length + t.cap.length) := hide (by rw [hz, List.length_append])
     have HZ := hide hz
     clear hh hz
     go_wp2_with (at_builtin; refine app_bs rfl _ _ rfl w5 w5.heap.size a6 _ c6 _ rfl ho6 ac _ cc t.cap rfl hTc6 (by omega) hb6.size hb6 ?_; intro a8 c8 w8 ho8 hgr8 hb8)
     go_meet
     exact ⟨a8, c8, by rw [HZL.out], by rw [HZL.out, HZ.out, List.map_append]; exact ho8, hb8⟩
   case rest =>
    clear ho6 hb6
    obtain ⟨ab, cb, rfl, hob, hb57⟩ := hcut
    obtain ⟨w7, rfl⟩ : ∃ w7 : World, w7 = wc := ⟨_, rfl⟩
    have hbw7 := hbw5.trans (hb57.mono hbw5.size)
    have y97 := y9.under hb57
    have y47 := y4.under hb57
    have HRW := hide (HRK.out.below hbw7)
    have hs7 := hs.below hbw7
    have kr : w7.cell? ⟨w.heap.size, kx, none⟩ = some (.slice ak nk ck) := y47.at_ (by
     have h := HCK.out
     rcases kx with _ | _ | k
     ·exact h
     ·exact h
     ·omega)
    have kx9 : w7.cell? ⟨g9, 0, none⟩ = some (.int .i64 (kx : Int)) := y97.at_ rfl
    subst hnk
    clear hb57 y9 y4 y5 kf kc hTf5 hTc5 k51
    go_wp2_with fail
    go_loopg [15, 115] pk.length (fun gh o v w' => ∃ (k : Nat) (ps : List SH) (ao : Option Addr) (co : Nat), k ≤ pk.length ∧ gh = pk.length - k ∧ ps.length ≤ k ∧ o = .slice ao ps.length co ∧ v = .int .i64 (k : Int) ∧ Hid (ps.map (·.1) = ruleSteps t ⟨(kx : Int), sn, si⟩ ⟨(kx : Int), xc⟩ l p 0 ((rus pk).take k)) ∧ OSt w' 88 5 w7.heap.size ao co ps ∧ Below w7.heap.size w7 w')
    case atStart => exact ⟨0, [], none, 0, by omega, by omega, by simp, rfl, rfl, hide rfl, OSt.nil _ _ _ _, Below.refl _ _⟩
    case round =>
     obtain ⟨k, ps, ao, co, hk, hg, hpl, rfl, rfl, HPS, hOS, hbr⟩ := hrel
     have HG := hide hg
     clear hg
     by_cases hkl : k < pk.length
     ·obtain ⟨q, hq⟩ : ∃ q, pk[k]? = some q := ⟨pk[k], by simp [hkl]⟩
      have HQ := hide hq
      have hRr := HRW.out.below hbr
      obtain ⟨hrow, _⟩ := hRr.row q (List.mem_of_getElem? hq)
      have hrk := ru_parts (HLOK.out q.1 (by rw [← HEK.out]; exact List.mem_of_getElem? (rus_get hq)))
      have HRJ := hide (rus_get hq)
      clear hq
      obtain ⟨⟨sx, wh, cl⟩, h1, h2, h3⟩ := q
      have hs1 : 1 ≤ sx.size := hrk.1
      have hs8 : sx.size ≤ 8 := hrk.2.1
      have hcl4 : cl.length ≤ 4 := indic_le hrk.2.2.2.2.1
      have hrow : Sl wr 1 h1 h2 h3 (cl.map B8) := hrow
      obtain rfl := hrow.n_eq
      have hF := fun w' (hb : Below wr.heap.size wr w') => tab_fits sx wh cl h1 cl.length h3 l a _ c (p : Int) p rfl ⟨(kx : Int), xc⟩ HXP.out hs1 hs8 hll w' ((hs7.below hbr).below hb)
      have HSN := hide (ruleSteps_snoc t ⟨(kx : Int), sn, si⟩ ⟨(kx : Int), xc⟩ l p ⟨sx, wh, cl⟩ ((rus pk).take k) 0)
      have HTK : Hid ((rus pk).take (k + 1) = (rus pk).take k ++ [⟨sx, wh, cl⟩]) := hide (take_succ_get HRJ.out)
      have hrl : (rus pk).length = pk.length := by unfold rus; simp
      have HTL : Hid (((rus pk).take k).length = k) := hide (by rw [List.length_take, hrl]; omega)
      clear hrl
      clear hrk
      cases hfb : fitsB ⟨sx, wh, cl⟩ l p
      ·have HN : Hid (ps.map (·.1) = ruleSteps t ⟨(kx : Int), sn, si⟩ ⟨(kx : Int), xc⟩ l p 0 ((rus pk).take (k + 1))) := hide (by rw [HTK.out, HSN.out, hfb, HPS.out]; simp)
       rw [hfb] at hF
       clear hfb
       go_wp2_with (first
        | (with_reducible refine idx_r 118 _ _ _ _ _ _ rfl hRr.top _ _ k rfl rfl _ HQ.out ?_; intro b o hcell hcell2 hcell3 hbo)
        | (go_at_call 46; refine (hF _ (blo wr _)).mono ?_; rintro e w8 ⟨rfl, hb8⟩))
       have hbr8 := (blo wr _).trans (hb8.mono (blo wr _).size)
       have hb78 := hbr.trans (hbr8.mono hbr.size)
       have hOS8 := hOS.below hbr8
       go_roundg (pk.length - (k + 1))
       case measure => have := HG.out; omega
       case rel => exact ⟨k + 1, ps, ao, co, by omega, rfl, by omega, rfl, by go_num, HN, hOS8, hb78⟩
      ·obtain ⟨CT, hCT⟩ : ∃ CT, pre2 ++ cl = CT := ⟨_, rfl⟩
       obtain ⟨NN, hNN⟩ : ∃ NN, CT.length = NN := ⟨_, rfl⟩
       have HCT := hide hCT
       have HNN := hide hNN
       clear hCT hNN
       have HN : Hid (∀ q : (Option Addr × Nat × Nat), ((ps ++ [((⟨⟨(kx : Int), false, il⟩, (sx.size : Int), CT, (k : Int)⟩ : Stp), q)]) : List SH).map (·.1) = ruleSteps t ⟨(kx : Int), sn, si⟩ ⟨(kx : Int), xc⟩ l p 0 ((rus pk).take (k + 1))) := hide (fun q => by
        rw [HTK.out, HSN.out, hfb, List.map_append, HPS.out, HHEAD.out, HTL.out, HIL.out, HCT.out]; simp)
       have X17 := Box.new wr 45 #[.string sx, .int .i64 wh, .slice h1 cl.length h3]
       rw [hfb] at hF
       clear hfb
       go_wp2_with (first
        | (with_reducible refine idx_r 118 _ _ _ _ _ _ rfl hRr.top _ _ k rfl rfl _ HQ.out ?_; intro b o hcell hcell2 hcell3 hbo)
        | (go_at_call 46; refine (hF _ (blo wr _)).mono ?_; rintro e w8 ⟨rfl, hb8⟩))
       have hbr8 := (blo wr (.cells #[.string sx, .int .i64 wh, .slice h1 cl.length h3] 45)).trans (hb8.mono (blo wr _).size)
       have hb78 := hbr.trans (hbr8.mono hbr.size)
       have hsz8 := hb78.size
       have x17 := X17.under hb8
       have x9 := (y97.under hbr).under hbr8
       have hob8 := ((hob.below hbr).below hbr8).sl
       have hrow8 := hrow.below hbr8
       obtain ⟨g17, hg17⟩ : ∃ g17, g17 = wr.heap.size := ⟨_, rfl⟩
       rw [← hg17] at x17 ⊢
       clear hcell hcell2 hcell3 hbo hb8 X17 hg17 hF hrow HSN HTK HTL HPS HRJ
       have hcX : ∀ w', Below w8.heap.size w8 w' → w'.cell? ⟨g9, 0, none⟩ = some (.int .i64 (kx : Int)) := fun w' h => (x9.under h).at_ rfl
       have hcS : ∀ w', Below w8.heap.size w8 w' → w'.cell? ⟨g17, 0, none⟩ = some (.string sx) := fun w' h => (x17.under h).at_ rfl
       have hcR : ∀ w', Below w8.heap.size w8 w' → w'.cell? ⟨g17, 2, none⟩ = some (.slice h1 cl.length h3) := fun w' h => (x17.under h).at_ rfl
       have hCo : ∀ w', Below w8.heap.size w8 w' → ∀ b, Sl w' 1 (some ⟨b, 0, none⟩) 2 2 [.slice ab pre2.length cb, .slice h1 cl.length h3] → Calls Tryd.prog 47 #[.slice (some ⟨b, 0, none⟩) 2 2] w' fun e w'' => ∃ a' c', e = .returned (.slice a' NN c') ∧ Own w'' w'.heap.size 5 1 a' NN c' (CT.map B8) ∧ Below w'.heap.size w' w'' := by
        rw [← HNN.out, ← HCT.out]
        exact fun w' h b hsb => concat6 pre2 cl ab h1 cb h3 (some ⟨b, 0, none⟩) 2 w' hsb (hob8.below h) (hrow8.below h) (by omega) (by omega)
       refine wp_region_free 16 [⟨0, 124, [124], fun vs _ => vs = [.slice ao ps.length co]⟩, ⟨1, 125, [125], fun vs _ => vs = [.pointer (some ⟨g9, 0, none⟩)]⟩, ⟨2, 126, [126], fun vs _ => vs = [.int .i64 (kx : Int)]⟩, ⟨3, 127, [127], fun vs _ => vs = [.bool il]⟩, ⟨4, 128, [128], fun vs _ => vs = [.agg #[.int .i64 (kx : Int), .bool false, .bool il]]⟩, ⟨5, 129, [129], fun vs _ => vs = [.pointer (some ⟨g17, 0, none⟩)]⟩, ⟨6, 130, [130], fun vs _ => vs = [.string sx]⟩, ⟨7, 131, [131], fun vs _ => vs = [.int .i64 (sx.size : Int)]⟩, ⟨8, 132, [132], fun vs _ => vs = [.slice ab pre2.length cb]⟩, ⟨9, 133, [133], fun vs _ => vs = [.pointer (some ⟨g17, 2, none⟩)]⟩, ⟨10, 134, [134], fun vs _ => vs = [.slice h1 cl.length h3]⟩, ⟨11, 135, [135], fun vs w' => ∃ b, vs = [.slice (some ⟨b, 0, none⟩) 2 2] ∧ Sl w' 1 (some ⟨b, 0, none⟩) 2 2 [.slice ab pre2.length cb, .slice h1 cl.length h3]⟩, ⟨12, 136, [136], fun vs w' => ∃ a' c', vs = [.slice a' NN c'] ∧ Own w' w7.heap.size 5 1 a' NN c' (CT.map B8)⟩, ⟨13, 137, [137], fun vs _ => vs = [.int .i64 (k : Int)]⟩, ⟨14, 138, [138], fun vs w' => ∃ a' c', vs = [.agg #[.int .i64 (kx : Int), .bool false, .bool il, .int .i64 (sx.size : Int), .slice a' NN c', .int .i64 (k : Int)]] ∧ Own w' w7.heap.size 5 1 a' NN c' (CT.map B8)⟩, ⟨15, 139, [139], fun vs w' => ∃ b a' c', vs = [.slice (some ⟨b, 0, none⟩) 1 1] ∧ Sl w' 6 (some ⟨b, 0, none⟩) 1 1 (stc (⟨⟨(kx : Int), false, il⟩, (sx.size : Int), CT, (k : Int)⟩, (a', NN, c'))) ∧ Own w' w7.heap.size 5 1 a' NN c' (CT.map B8)⟩] (by kernel_rfl) (by kernel_rfl) ?_ ?_ ?_
       ·simp only [All]
        refine ⟨fun _ _ _ _ h => h, fun _ _ _ _ h => h, fun _ _ _ _ h => h, fun _ _ _ _ h => h, fun _ _ _ _ h => h, fun _ _ _ _ h => h, fun _ _ _ _ h => h, fun _ _ _ _ h => h, fun _ _ _ _ h => h, fun _ _ _ _ h => h, fun _ _ _ _ h => h, ?_, ?_, fun _ _ _ _ h => h, ?_, ?_, trivial⟩
        ·rintro vs w w' hb ⟨b, h1, h2⟩
         exact ⟨b, h1, h2.below hb⟩
        ·rintro vs w w' hb ⟨a', c', h1, h2⟩
         exact ⟨a', c', h1, h2.below hb⟩
        ·rintro vs w w' hb ⟨a', c', h1, h2⟩
         exact ⟨a', c', h1, h2.below hb⟩
        ·rintro vs w w' hb ⟨b, a', c', h1, h2, h3⟩
         exact ⟨b, a', c', h1, h2.below hb, h3.below hb⟩
       ·simp only [All]
        refine ⟨?_, ?_, ?_, ?_, ?_, ?_, ?_, ?_, ?_, ?_, ?_, ?_, ?_, ?_, ?_, ?_, trivial⟩
        ·intro o ho a' w' hb hfr hdep; obtain rfl := oj ho
         have g15 : a'.tmps[15]?.getD undef = .slice ao ps.length co := by simpa using hfr 15 (by kernel_rfl)
         clear ho hfr hdep; go_wp2_with fail; exact ⟨rfl, _, rfl, br, rfl⟩
        ·intro o ho a' w' hb hfr hdep; obtain rfl := oj ho
         have g9 : a'.tmps[9]?.getD undef = .pointer (some ⟨g9, 0, none⟩) := by simpa using hfr 9 (by kernel_rfl)
         clear ho hfr hdep; go_wp2_with fail; exact ⟨rfl, _, rfl, br, rfl⟩
        ·intro o ho a' w' hb hfr hdep; obtain rfl := oj ho
         have g125 : a'.tmps[125]?.getD undef = .pointer (some ⟨g9, 0, none⟩) := by simpa using hdep 1 _ rfl (by kernel_rfl)
         clear ho hfr hdep; have hcl := hcX _ hb
         go_wp2_with fail; exact ⟨rfl, _, rfl, br, rfl⟩
        ·intro o ho a' w' hb hfr hdep; obtain rfl := oj ho
         have g12 : a'.tmps[12]?.getD undef = .bool il := by simpa using hfr 12 (by kernel_rfl)
         clear ho hfr hdep; go_wp2_with fail; exact ⟨rfl, _, rfl, br, rfl⟩
        ·intro o ho a' w' hb hfr hdep; obtain rfl := oj ho
         have g126 : a'.tmps[126]?.getD undef = .int .i64 (kx : Int) := by simpa using hdep 2 _ rfl (by kernel_rfl)
         have g127 : a'.tmps[127]?.getD undef = .bool il := by simpa using hdep 3 _ rfl (by kernel_rfl)
         clear ho hfr hdep; go_wp2_with fail; exact ⟨rfl, _, rfl, br, rfl⟩
        ·intro o ho a' w' hb hfr hdep; obtain rfl := oj ho
         have g17 : a'.tmps[17]?.getD undef = .pointer (some ⟨g17, 0, none⟩) := by simpa using hfr 17 (by kernel_rfl)
         clear ho hfr hdep; go_wp2_with fail; exact ⟨rfl, _, rfl, br, rfl⟩
        ·intro o ho a' w' hb hfr hdep; obtain rfl := oj ho
         have g129 : a'.tmps[129]?.getD undef = .pointer (some ⟨g17, 0, none⟩) := by simpa using hdep 5 _ rfl (by kernel_rfl)
         clear ho hfr hdep; have hcl := hcS _ hb
         go_wp2_with fail; exact ⟨rfl, _, rfl, br, rfl⟩
        ·intro o ho a' w' hb hfr hdep; obtain rfl := oj ho
         have g130 : a'.tmps[130]?.getD undef = .string sx := by simpa using hdep 6 _ rfl (by kernel_rfl)
         clear ho hfr hdep; go_wp2_with fail; exact ⟨rfl, _, rfl, br, rfl⟩
        ·intro o ho a' w' hb hfr hdep; obtain rfl := oj ho
         have g14 : a'.tmps[14]?.getD undef = .slice ab pre2.length cb := by simpa using hfr 14 (by kernel_rfl)
         clear ho hfr hdep; go_wp2_with fail; exact ⟨rfl, _, rfl, br, rfl⟩
        ·intro o ho a' w' hb hfr hdep; obtain rfl := oj ho
         have g17 : a'.tmps[17]?.getD undef = .pointer (some ⟨g17, 0, none⟩) := by simpa using hfr 17 (by kernel_rfl)
         clear ho hfr hdep; go_wp2_with fail; exact ⟨rfl, _, rfl, br, rfl⟩
        ·intro o ho a' w' hb hfr hdep; obtain rfl := oj ho
         have g133 : a'.tmps[133]?.getD undef = .pointer (some ⟨g17, 2, none⟩) := by simpa using hdep 9 _ rfl (by kernel_rfl)
         clear ho hfr hdep; have hcl := hcR _ hb
         go_wp2_with fail; exact ⟨rfl, _, rfl, br, rfl⟩
        ·intro o ho a' w' hb hfr hdep; obtain rfl := oj ho
         have g132 : a'.tmps[132]?.getD undef = .slice ab pre2.length cb := by simpa using hdep 8 _ rfl (by kernel_rfl)
         have g134 : a'.tmps[134]?.getD undef = .slice h1 cl.length h3 := by simpa using hdep 10 _ rfl (by kernel_rfl)
         clear ho hfr hdep; go_wp2_with fail
         exact ⟨rfl, _, rfl, blo _ _, _, rfl, Sl.fresh _ _ 1 2 [.slice ab pre2.length cb, .slice h1 cl.length h3] rfl (by decide)⟩
        ·intro o ho a' w' hb hfr hdep; obtain rfl := oj ho
         obtain ⟨b8, g135, hs8⟩ := hdep 11 _ rfl (by kernel_rfl)
         simp at g135
         clear ho hfr hdep; go_wp2_with fail
         refine (hCo _ hb b8 hs8).mono ?_
         rintro e w9 ⟨a9, c9, rfl, ho9, hb9⟩
         go_wp2_with fail
         exact ⟨rfl, _, rfl, hb9, a9, c9, rfl, ho9.mono (Nat.le_trans hsz8 hb.size)⟩
        ·intro o ho a' w' hb hfr hdep; obtain rfl := oj ho
         have g16 : a'.tmps[16]?.getD undef = .int .i64 (k : Int) := by simpa using hfr 16 (by kernel_rfl)
         clear ho hfr hdep; go_wp2_with fail; exact ⟨rfl, _, rfl, br, rfl⟩
        ·intro o ho a' w' hb hfr hdep; obtain rfl := oj ho
         have g128 : a'.tmps[128]?.getD undef = .agg #[.int .i64 (kx : Int), .bool false, .bool il] := by simpa using hdep 4 _ rfl (by kernel_rfl)
         have g131 : a'.tmps[131]?.getD undef = .int .i64 (sx.size : Int) := by simpa using hdep 7 _ rfl (by kernel_rfl)
         obtain ⟨a9, c9, g136, ho'⟩ := hdep 12 _ rfl (by kernel_rfl)
         simp at g136
         have g137 : a'.tmps[137]?.getD undef = .int .i64 (k : Int) := by simpa using hdep 13 _ rfl (by kernel_rfl)
         clear ho hfr hdep; go_wp2_with fail; exact ⟨rfl, _, rfl, br, a9, c9, rfl, ho'⟩
        ·intro o ho a' w' hb hfr hdep; obtain rfl := oj ho
         obtain ⟨a9, c9, g138, ho'⟩ := hdep 14 _ rfl (by kernel_rfl)
         simp at g138
         clear ho hfr hdep; go_wp2_with fail
         exact ⟨rfl, _, rfl, blo _ _, _, a9, c9, rfl, Sl.fresh _ _ 6 1 (stc (⟨⟨(kx : Int), false, il⟩, (sx.size : Int), CT, (k : Int)⟩, (a9, NN, c9))) rfl (by decide), ho'.alloc _⟩
       ·intro g w9 hb9 hp22
        obtain ⟨b', a', c', p139, hs', ho'⟩ := hp22 15 _ rfl
        have p124 := hp22 0 _ rfl
        clear hp22
        simp at p139 p124
        simp only [List.drop_succ_cons, List.drop_zero, List.map_cons, List.map_nil, putAll, Act.put, List.setIfInBounds_toArray, List.set_cons_succ, List.set_cons_zero, List.cons_append, List.nil_append, p139, p124]
        have hb79 := hb78.trans (hb9.mono hb78.size)
        have host9 := (hOS.below hbr8).below hb9
        go_wp2_with (at_builtin; refine app_st2 rfl _ _ rfl w7 w7.heap.size ao co ps rfl host9 (⟨⟨(kx : Int), false, il⟩, (sx.size : Int), CT, (k : Int)⟩, (a', NN, c')) ho' _ _ rfl hs' (by omega) hb79.size hb79 ?_; intro a10 c10 w10 ho10 hb10)
        go_roundg (pk.length - (k + 1))
        case measure => have := HG.out; omega
        case rel => exact ⟨k + 1, ps ++ [(⟨⟨(kx : Int), false, il⟩, (sx.size : Int), CT, (k : Int)⟩, (a', NN, c'))], a10, c10, by omega, rfl, by rw [List.length_append]; simp; omega, by rw [List.length_append]; rfl, by go_num, hide (HN.out _), ho10, hb10⟩
     ·obtain rfl : k = pk.length := by omega
      have hps := HPS.out
      rw [List.take_of_length_le (by unfold rus; simp), HEK.out] at hps
      have HPN : Hid ((ruleSteps t ⟨(kx : Int), sn, si⟩ ⟨(kx : Int), xc⟩ l p 0 (langK t kx)).length = ps.length) := hide (by rw [← hps, List.length_map])
      go_wp2
      go_ret
      refine ⟨ao, co, ps, by rw [HPN.out]; rfl, ?_, hbw7.trans (hbr.mono hbw7.size), hOS.top.typ⟩
      rw [HPN.out, ← hps]
      exact hOS.stl
end Go.Proofs.YtfagjaabladgpaaDoor
end

section
/- Chapter 06: the program's Steps, whole. -/
namespace Go.Proofs.YtfagjaabladgpaaDoor
open Go.RowKit Go.Dx
def sv (s : St) : Value := .agg #[.int .i64 s.lang, .bool s.num, .bool s.wrd]
theorem tab_StepsT (H : TH) (t : Ta) (s : St) (l : List Sy) (a : Option Addr) (n c : Nat) (i : Int) (hll : l.length ≤ 1000000) (w : World) (hT : TaIs w H t) (hs : Sl w 2 a n c (l.flatMap sc)) :
  Calls Tryd.prog 19 #[H.v, sv s, .slice a n c, .int .i64 i] w (StepsT 88 (stepsL t s l i) w) := by
 by_cases hno : ¬ (validE t = 0 ∧ (s.lang = 0 ∨ s.lang = 1) ∧ 0 ≤ i ∧ goodS l = true) ∨ (l.length : Int) ≤ i
 ·rw [steps_none hno]
  exact tab_Steps_no H t s l a n c i hno w hT hs
 ·have h1 : ¬ (l.length : Int) ≤ i := fun h => hno (.inr h)
  have h2 : validE t = 0 ∧ (s.lang = 0 ∨ s.lang = 1) ∧ 0 ≤ i ∧ goodS l = true := Classical.byContradiction fun h => hno (.inl h)
  obtain ⟨hv, hsl, hi, hg⟩ := h2
  obtain ⟨p, rfl⟩ : ∃ p : Nat, i = (p : Int) := ⟨i.toNat, by omega⟩
  obtain ⟨x, hx⟩ : ∃ x, l[p]? = some x := ⟨l[p]'(by omega), List.getElem?_eq_getElem _⟩
  rw [steps_at hv hsl hg hx]
  unfold nextL
  by_cases hne : x.lang ≠ s.lang
  ·rw [if_pos hne]
   exact tab_Steps_sw H t s l a n c p x hv hsl hx hg hll hne w hT hs
  ·rw [if_neg hne]
   have heq : x.lang = s.lang := Classical.byContradiction hne
   cases hd : isD x.c
   ·rw [if_neg (by simp)]
    exact tab_Steps_ru H t s l a n c p x hv hsl hx hg hll heq hd w hT hs
   ·rw [if_pos rfl]
    exact tab_Steps_dg H t s l a n c p x hv hsl hx hg hll heq hd w hT hs
theorem tab_Steps (H : TH) (t : Ta) (s : St) (l : List Sy) (a : Option Addr) (n c : Nat) (i : Int) (hll : l.length ≤ 1000000) (w : World) (hT : TaIs w H t) (hs : Sl w 2 a n c (l.flatMap sc)) :
  Calls Tryd.prog 19 #[H.v, sv s, .slice a n c, .int .i64 i] w (StepsR (stepsL t s l i) w) := (tab_StepsT H t s l a n c i hll w hT hs).mono fun _ _ h => h.out
end Go.Proofs.YtfagjaabladgpaaDoor
end

section
/- Chapter 06: text and are, of the law. -/
namespace Go.Dx
open Go.RowKit
structure BB (w : World) (a : Option Addr) (n c : Nat) (hs : List (Option Addr × Nat × Nat)) (rows : List (List UInt8)) : Prop where
 top : Sl w 1 a n c (hs.map hdv)
 len : hs.length = rows.length
 row : ∀ (i : Nat) (h : Option Addr × Nat × Nat) (r : List UInt8), hs[i]? = some h → rows[i]? = some r → Sl w 1 h.1 h.2.1 h.2.2 (r.map B8)
theorem BB.below {w w' : World} {a : Option Addr} {n c : Nat} {hs : List (Option Addr × Nat × Nat)} {rows : List (List UInt8)} (h : BB w a n c hs rows) (hb : Below w.heap.size w w') : BB w' a n c hs rows :=
 ⟨h.top.below hb, h.len, fun i x r h1 h2 => (h.row i x r h1 h2).below hb⟩
theorem BB.n_eq {w : World} {a : Option Addr} {n c : Nat} {hs : List (Option Addr × Nat × Nat)} {rows : List (List UInt8)} (h : BB w a n c hs rows) : n = rows.length := by rw [← h.len, ← h.top.n_eq]
def symsOf (s : ByteArray) : List Sy := (chars s).map fun c => ⟨0, c⟩
theorem symsOf_step {s : ByteArray} {k : Nat} {c : UInt8} (h : (chars s)[k]? = some c) : (symsOf s).take (k + 1) = (symsOf s).take k ++ [⟨0, c⟩] := by
 have : (symsOf s)[k]? = some ⟨0, c⟩ := by unfold symsOf; rw [List.getElem?_map, h]; rfl
 exact take_succ_get this
end Go.Dx
namespace Go.Proofs.YtfagjaabladgpaaDoor
open Go.RowKit Go.Dx
def zeroSym : Value := .agg #[.int .i64 0, .int .u8 0]
theorem info_sym : (Tryd.prog.info? 83).map (fun i => (i.zero, i.size, i.bytes)) = some (some zeroSym, 2, 16) := by kernel_rfl
section
variable {w : World} {ops : Array Oper} {rest : List Oper} {o : Oper} {act : Act} {Q : Exit → Act → World → Prop}
theorem app_sy (hg : o.guard = none) (s x : Operand) (hop : o.op = Op.call { callee := Callee.builtin Builtin.append, args := #[s, x], argTypes := #[46, 46] })
  (w0 : World) (B : Nat) (a : Option Addr) (n c : Nat) (xs : List Value) (hs : act.eval s = .slice a n c) (hown : Own w B 83 2 a n c xs)
  (p : Sy) (hx : act.eval x = .slice (some ⟨w.heap.size, 0, none⟩) 1 1)
  (hn : n ≤ 1000000) (hB : B ≤ w.heap.size) (hbel : Below B w0 w)
  (hK : ∀ a' c' w', Own w' B 83 2 a' (n + 1) c' (xs ++ sc p) → w.grownBy w' (a.map (·.block)) → Below B w0 w' → wpList Tryd.prog ops Q rest (act.put o.dst (.slice a' (n + 1) c')) w') :
  wpList Tryd.prog ops Q (o :: rest) act (w.alloc (.cells (sc p).toArray 83)) :=
 append_lit hg s x 46 hop 83 zeroSym 2 16 Tryd.underlying46 info_sym rfl w0 B a n c xs hs hown 1 (sc p) hx rfl (sc_one p) (by omega) (by unfold maxLen; omega) hB hbel hK
end
set_option maxHeartbeats 1000000 in
theorem law_text (s : ByteArray) (hsz : s.size ≤ 1000) (w : World) :
  Calls Tryd.prog 50 #[.string s] w fun e w' => ∃ a c, e = .returned (.slice a (symsOf s).length c) ∧ Own w' w.heap.size 83 2 a (symsOf s).length c ((symsOf s).flatMap sc) ∧ Below w.heap.size w w' := by
 have hlen : (symsOf s).length = s.size := by unfold symsOf; rw [List.length_map]; exact (size_chars s).symm
 have HLEN := hide hlen
 clear hlen
 rw [HLEN.out]
 go_enter Tryd.func50, Tryd.ntmps50
 go_wp2_with fail
 go_loopg [3, 4] s.size (fun gh o v w' => ∃ (k : Nat) (a : Option Addr) (c : Nat), k ≤ s.size ∧ gh = s.size - k ∧ o = .slice a k c ∧ v = .int .i64 (k : Int) ∧ Own w' w.heap.size 83 2 a k c (((symsOf s).take k).flatMap sc) ∧ Below w.heap.size w w')
 case atStart => exact ⟨0, none, 0, by omega, by omega, rfl, rfl, Own.nil _ _ _ _, Below.refl _ _⟩
 case round =>
  obtain ⟨k, a, c, hk, hg, rfl, rfl, ho, hb⟩ := hrel
  have HG := hide hg
  clear hg
  by_cases hkl : k < s.size
  ·have HST := hide (symsOf_step (chars_get hkl))
   go_wp2_with (at_builtin; refine app_sy rfl _ _ rfl w w.heap.size _ _ _ _ rfl ho ⟨0, s[k]⟩ rfl (by omega) hb.size hb ?_; intro a' c' w' ho' _ hb')
   go_roundg (s.size - (k + 1))
   case measure => have := HG.out; omega
   case rel => exact ⟨k + 1, a', c', by omega, rfl, rfl, by go_num, by rw [HST.out, List.flatMap_append, List.flatMap_singleton]; exact ho', hb'⟩
  ·obtain rfl : k = s.size := by omega
   go_wp2
   go_ret
   rw [List.take_of_length_le (by rw [HLEN.out]; exact Nat.le_refl _)] at ho
   exact ⟨a, c, rfl, ho, hb⟩
theorem st_cells {w : World} {a : Option Addr} {n c : Nat} {ps : List SH} {L : List Stp} (hs : Stl w a n c ps L) {k : Nat} {p : SH} (hx : ps[k]? = some p) :
  ∃ b o, a = some ⟨b, o, none⟩ ∧ b < w.heap.size ∧ w.cell? ⟨b, o + k * 6, none⟩ = some (.int .i64 p.1.dst.lang) ∧ w.cell? ⟨b, o + k * 6 + 1, none⟩ = some (.bool p.1.dst.num) ∧ w.cell? ⟨b, o + k * 6 + 2, none⟩ = some (.bool p.1.dst.wrd) ∧ w.cell? ⟨b, o + k * 6 + 3, none⟩ = some (.int .i64 p.1.len) ∧ w.cell? ⟨b, o + k * 6 + 4, none⟩ = some (.slice p.2.1 p.2.2.1 p.2.2.2) ∧ w.cell? ⟨b, o + k * 6 + 5, none⟩ = some (.int .i64 p.1.rule) := by
 have hk := (List.getElem?_eq_some_iff.1 hx).1
 obtain ⟨b, o, hab, hb, hc⟩ := hs.top.ex (by rw [flat_len stc_len]; omega)
 refine ⟨b, o, hab, hb, ?_, ?_, ?_, ?_, ?_, ?_⟩
 ·exact hc (k * 6) _ (flat_get stc_len hx (j := 0) (by decide))
 ·exact hc (k * 6 + 1) _ (flat_get stc_len hx (j := 1) (by decide))
 ·exact hc (k * 6 + 2) _ (flat_get stc_len hx (j := 2) (by decide))
 ·exact hc (k * 6 + 3) _ (flat_get stc_len hx (j := 3) (by decide))
 ·exact hc (k * 6 + 4) _ (flat_get stc_len hx (j := 4) (by decide))
 ·exact hc (k * 6 + 5) _ (flat_get stc_len hx (j := 5) (by decide))
theorem quiet_same {x y : List UInt8} {a1 a2 : Option Addr} {n1 n2 c1 c2 : Nat} {w : World} (hxy : x = y) (h1 : Sl w 1 a1 n1 c1 (x.map B8)) (h2 : Sl w 1 a2 n2 c2 (y.map B8)) (n : Nat) :
  Calls Tryd.prog 7 #[.slice a1 n1 c1, .slice a2 n2 c2] (w.drewN n) fun e w'' => e = .returned (.bool true) ∧ ∃ m, w'' = w.drewN m := by
 refine (ref_Same x y a1 a2 n1 n2 c1 c2 (w.drewN n) ⟨h1.len, h1.le, h1.cap, h1.nil, h1.cell⟩ ⟨h2.len, h2.le, h2.cap, h2.nil, h2.cell⟩).mono ?_
 rintro e w' ⟨rfl, m, hm⟩
 exact ⟨by rw [decide_eq_true hxy], n + m, by rw [hm, World.drewN_drewN]⟩
set_option maxHeartbeats 1000000 in
theorem law_are (L : List Stp) (ps : List SH) (a : Option Addr) (n c : Nat) (lens : List Int) (la : Option Addr) (ln lc : Nat) (rows : List (List UInt8)) (hs : List (Option Addr × Nat × Nat)) (ra : Option Addr) (rn rc' : Nat) (w : World)
  (hS : Stl w a n c ps L) (hl : Sl w 1 la ln lc (lens.map I64)) (hr : BB w ra rn rc' hs rows) (h1 : L.map (·.len) = lens) (h2 : L.map (·.cells) = rows) :
  Calls Tryd.prog 49 #[.slice a n c, .slice la ln lc, .slice ra rn rc'] w fun e w' => e = .returned (.bool true) ∧ Below w.heap.size w w' := by
 have hpl : ps.length = L.length := by rw [← hS.eq, List.length_map]
 have hll : lens.length = L.length := by rw [← h1, List.length_map]
 have hrl : rows.length = L.length := by rw [← h2, List.length_map]
 have hne := hS.n_eq
 have hle := hl.n_eq
 have hre := hr.n_eq
 obtain ⟨N, hN⟩ : ∃ N, N = L.length := ⟨_, rfl⟩
 have e1 : n = N := by omega
 have e2 : ln = N := by omega
 have e3 : rn = N := by omega
 subst e1; subst e2; subst e3
 have hm1 := Nat.le_trans hl.le hl.cap
 unfold maxLen at hm1
 have HF : Hid (∀ k, k < rn → ∃ p l r h, ps[k]? = some p ∧ lens[k]? = some l ∧ rows[k]? = some r ∧ hs[k]? = some h ∧ p.1.len = l ∧ p.1.cells = r) := hide (fun k hk => by
  have g1 : L[k]? = some (L[k]'(by omega)) := List.getElem?_eq_getElem _
  have g2 : ps[k]? = some (ps[k]'(by omega)) := List.getElem?_eq_getElem _
  have g3 : hs[k]? = some (hs[k]'(by rw [hr.len]; omega)) := List.getElem?_eq_getElem _
  have g4 : L[k]'(by omega) = (ps[k]'(by omega)).1 := by
   have := hS.eq
   have h5 : (ps.map (·.1))[k]? = L[k]? := by rw [this]
   rw [List.getElem?_map, g2, g1] at h5
   simpa using h5.symm
  have q1 : (L.map (·.len))[k]? = some (ps[k]'(by omega)).1.len := by rw [List.getElem?_map, g1, g4]; rfl
  have q2 : (L.map (·.cells))[k]? = some (ps[k]'(by omega)).1.cells := by rw [List.getElem?_map, g1, g4]; rfl
  rw [h1] at q1
  rw [h2] at q2
  exact ⟨_, _, _, _, g2, q1, q2, g3, rfl, rfl⟩)
 clear hpl hll hrl hne hle hre hN h1 h2
 go_enter Tryd.func49, Tryd.ntmps49
 go_wp2_with fail
 go_loopg [7] rn (fun gh v w' => ∃ k : Nat, k ≤ rn ∧ gh = rn - k ∧ v = .int .i64 (k : Int) ∧ Below w.heap.size w w')
 case atStart => exact ⟨0, by omega, by omega, rfl, Below.refl _ _⟩
 case round =>
  obtain ⟨k, hk, hg, rfl, hb⟩ := hrel
  have HG := hide hg
  clear hg
  by_cases hkl : k < rn
  ·obtain ⟨p, l, r, h, hp, hlk, hrk, hhk, e1, e2⟩ := HF.out k hkl
   have hSr := hS.below hb
   have hlr := hl.below hb
   have hrr := hr.below hb
   obtain ⟨b1, o1, hab, hb1, _, _, _, x3, x4, _⟩ := st_cells hSr hp
   obtain ⟨b2, o2, hab2, hb2, hc2⟩ := hlr.ex (by rw [List.length_map]; have := (List.getElem?_eq_some_iff.1 hlk).1; omega)
   obtain ⟨b3, o3, hab3, hb3, hc3⟩ := hrr.top.ex (by rw [List.length_map]; have := (List.getElem?_eq_some_iff.1 hhk).1; omega)
   have y : wr.cell? ⟨b2, o2 + k, none⟩ = some (.int .i64 l) := hc2 k _ (by rw [List.getElem?_map, hlk]; rfl)
   have z : wr.cell? ⟨b3, o3 + k, none⟩ = some (.slice h.1 h.2.1 h.2.2) := hc3 k _ (by rw [List.getElem?_map, hhk]; rfl)
   have hpS := hSr.row p (List.mem_of_getElem? hp)
   have hrS := hrr.row k h r hhk hrk
   have hq := fun m => quiet_same e2 hpS hrS m
   subst hab; subst hab2; subst hab3
   rw [e1] at x3
   have hd : (l != l) = false := by simp
   have hb4 : ∀ m, Below w.heap.size w (wr.drewN m) := fun m => belowN hb m
   clear hc2 hc3 hp hlk hrk hhk e1 e2 hpS hrS
   go_wp2
   go_quiet ((go_at_call 7; exact hq _))
   go_wp2
   go_roundg (rn - (k + 1))
   case measure => have := HG.out; omega
   case rel => exact ⟨k + 1, by omega, rfl, by go_num, hb4 _⟩
  ·obtain rfl : k = rn := by omega
   go_wp2
   go_ret
   exact ⟨rfl, hb⟩
end Go.Proofs.YtfagjaabladgpaaDoor
end

section
/- Chapter 06: the example's tables in plain Lean; more laws on rules that a call owns. -/
namespace Go.Dx
open Go.RowKit
def letters (n : Nat) : List Ru := (List.range n).map fun i => ⟨⟨#[UInt8.ofNat (97 + i)]⟩, 0, [UInt8.ofNat (1 + i)]⟩
theorem letters_step (i : Nat) : letters (i + 1) = letters i ++ [⟨⟨#[UInt8.ofNat (97 + i)]⟩, 0, [UInt8.ofNat (1 + i)]⟩] := by
 unfold letters; rw [List.range_succ, List.map_append]; rfl
def more4 : List Ru := [⟨⟨#[97, 110]⟩, 0, [30]⟩, ⟨⟨#[97, 110]⟩, 1, [31]⟩, ⟨⟨#[110]⟩, 3, [32]⟩, ⟨⟨#[46]⟩, 0, [33]⟩]
def exTa : Ta := { l0 := letters 26 ++ more4, l1 := letters 26, dig := [41, 42, 43, 44, 45, 46, 47, 48, 49, 50], cap := [60], num := [61], fin := [62], sw := [63] }
theorem ex_valid : validE exTa = 0 := by decide +kernel
def exSt : St := ⟨0, false, false⟩
def exNum : St := ⟨0, true, false⟩
theorem ex_1 : (stepsL exTa exSt (symsOf ⟨#[65, 110]⟩) 0).map (fun s => (s.len, s.cells)) = [(1, [60, 1]), (2, [60, 30]), (2, [60, 31])] := by decide +kernel
theorem ex_2 : (stepsL exTa exSt (symsOf ⟨#[98, 97, 110]⟩) 1).map (fun s => (s.len, s.cells)) = [(1, [1]), (2, [30])] := by decide +kernel
theorem ex_3 : (stepsL exTa exSt (symsOf ⟨#[98, 97, 110]⟩) 2).map (fun s => (s.len, s.cells)) = [(1, [14]), (1, [32])] := by decide +kernel
theorem ex_4 : (stepsL exTa exSt (symsOf ⟨#[55, 46]⟩) 0).map (fun s => (s.len, s.cells)) = [(1, [61, 48])] := by decide +kernel
theorem ex_5 : (stepsL exTa exNum (symsOf ⟨#[55, 97]⟩) 1).map (fun s => (s.len, s.cells)) = [(1, [62, 1])] := by decide +kernel
theorem ex_6 : (stepsL exTa exNum (symsOf ⟨#[55, 46]⟩) 1).map (fun s => (s.len, s.cells)) = [(1, [33])] := by decide +kernel
theorem ex_7 : (stepsL exTa exSt [⟨1, 97⟩] 0).map (fun s => (s.len, s.cells)) = [(0, [63])] := by decide +kernel

theorem grown_below {a b c : World} {row : Option Nat} (h : a.grownBy b row) (hb : Below a.heap.size b c) : a.grownBy c row :=
 ⟨hb.os.trans h.os, hb.tape.trans h.tape, hb.output.trans h.output, Nat.le_trans h.size hb.size, fun i hi hr => (hb.block i hi).trans (h.block i hi hr)⟩
theorem far_map {w : World} {B B' : Nat} {e e' : TypeId} {sz sz' : Nat} {p : Addr} {a : Option Addr} {n n' c c' : Nat} {cs cs' : List Value} (h : Own w B e sz (some p) n c cs) (h' : Own w B' e' sz' a n' c' cs') (he : e ≠ e') : some p.block ≠ a.map (·.block) := by
 cases a with
 | none => simp
 | some q => have := own_far h h' he; simpa using this
theorem own_map {w : World} {B : Nat} {e : TypeId} {sz : Nat} {a : Option Addr} {n c : Nat} {cs : List Value} (h : Own w B e sz a n c cs) {b : Nat} (hb : w.heap.size ≤ b) : some b ≠ a.map (·.block) := by
 cases a with
 | none => simp
 | some q => have := h.base.2; simp; omega
theorem box_far {w : World} {g B : Nat} {t e : TypeId} {us : List Value} {sz : Nat} {p : Addr} {n c : Nat} {cs : List Value} (h : Box w g t us) (h' : Own w B e sz (some p) n c cs) (he : t ≠ e) : p.block ≠ g := by
 rcases h'.2 with ⟨k1, _⟩ | ⟨q, cap, cur, k1, _, k2, _⟩
 ·cases k1
 ·injection k1 with k1
  injection k1 with k1
  subst k1
  intro e2
  have e2 : q = g := e2
  unfold Box at h
  rw [← e2, k2] at h
  injection h with h
  injection h with _ h
  exact he h.symm
theorem ORu.kept {w w' : World} {E U : TypeId} {B : Nat} {a : Option Addr} {c : Nat} {ps : List RH} {g : Nat} {t : TypeId} {us : List Value} (h : ORu w E U B a c ps) (hg : w.grownBy w' (some g)) (hx : Box w g t us) (hE : t ≠ E) (hU : t ≠ U) : ORu w' E U B a c ps := by
 refine ⟨?_, fun p hp => ⟨?_, (h.row p hp).2⟩⟩
 ·refine h.top.kept hg fun q hq => ?_
  have ho := h.top
  rw [hq] at ho
  have := box_far hx ho hE
  simpa using this
 ·have ho := (h.row p hp).1
  refine ho.kept hg fun q hq => ?_
  rw [hq] at ho
  have := box_far hx ho hU
  simpa using this
theorem ORu.mono {w : World} {E U : TypeId} {B B' : Nat} {a : Option Addr} {c : Nat} {ps : List RH} (h : ORu w E U B a c ps) (hB : B' ≤ B) : ORu w E U B' a c ps := ⟨h.top.mono hB, h.row⟩
theorem set_same {α : Type} {l : List α} {k : Nat} {v : α} (h : l[k]? = some v) : l.set k v = l := by
 apply List.ext_getElem?
 intro i
 rw [List.getElem?_set]
 split
 ·rename_i e
  subst e
  rw [h]
  have := (List.getElem?_eq_some_iff.1 h).1
  simp [this]
 ·rfl
end Go.Dx
end

section
/- Chapter 06: the law's example. -/
namespace Go.Dx
open Go.RowKit
def GEx (wr wo : World) (TT TR U : TypeId) (g1 g0 : Nat) (VC Z : List Value) (n : Nat) (ps : List RH) (ru : Ru) : Nat → List Value → World → Prop
 | 0, _, w => Below wr.heap.size wr w
 | _ + 1, vs, w => (∃ a' c', vs = [.slice a' n c'] ∧ ∃ b, ORu w TR U wo.heap.size a' c' (ps ++ [(ru, (some ⟨b, 0, none⟩, 1, 1))])) ∧ Box w g1 TT VC ∧ Box w g0 TT Z ∧ wo.grownBy w (some g1) ∧ wr.heap.size ≤ w.heap.size
section
variable {wr wo w w' : World} {TT TR U : TypeId} {g1 g0 : Nat} {VC Z : List Value} {n : Nat} {ps : List RH} {ru : Ru}
theorem GEx.mono : ∀ (j : Nat) (vs : List Value) (w w' : World), Below w.heap.size w w' → GEx wr wo TT TR U g1 g0 VC Z n ps ru j vs w → GEx wr wo TT TR U g1 g0 VC Z n ps ru j vs w'
 | 0, _, w, w', hb, h => Below.trans h (hb.mono (Below.size h))
 | _ + 1, vs, w, w', hb, ⟨⟨a', c', h1, b, h2⟩, h3, h4, h5, h6⟩ => ⟨⟨a', c', h1, b, h2.below hb⟩, h3.under hb, h4.under hb, grown_below h5 (hb.mono h5.size), Nat.le_trans h6 hb.size⟩
theorem GEx.box {j : Nat} {vs : List Value} (h : GEx wr wo TT TR U g1 g0 VC Z n ps ru j vs w) (hB : Box wr g1 TT VC) : Box w g1 TT VC := by
 cases j with
 | zero => exact hB.under h
 | succ j => exact h.2.1
theorem GEx.size {j : Nat} {vs : List Value} (h : GEx wr wo TT TR U g1 g0 VC Z n ps ru j vs w) : wr.heap.size ≤ w.heap.size := by
 cases j with
 | zero => exact Below.size h
 | succ j => exact h.2.2.2.2
end
end Go.Dx
namespace Go.Proofs.YtfagjaabladgpaaDoor
open Go.RowKit Go.Dx
theorem size_rules : (Tryd.prog.info? 24).map (·.size) = some 1 := by kernel_rfl
theorem agg_tables : IsAgg Tryd.prog 29 := .inr ⟨_, Tryd.underlying29⟩
theorem size_tables : (Tryd.prog.info? 29).map (·.size) = some 7 := by kernel_rfl
theorem size7 (v0 v1 v2 v3 v4 v5 v6 : Value) : (Tryd.prog.info? 29).map (·.size) = some ([v0, v1, v2, v3, v4, v5, v6] : List Value).length := size_tables
section
variable {w : World} {ops : Array Oper} {rest : List Oper} {o : Oper} {act : Act} {Q : Exit → Act → World → Prop}
theorem app_rus (hg : o.guard = none) (s x : Operand) (hop : o.op = Op.call { callee := Callee.builtin Builtin.append, args := #[s, x], argTypes := #[24, 24] })
  (w0 : World) (B : Nat) (a : Option Addr) (c : Nat) (ps qs : List RH) (hs : act.eval s = .slice a ps.length c) (hown : ORu w 45 5 B a c ps)
  (hq : ∀ p ∈ qs, Own w 0 5 1 p.2.1 p.2.2.1 p.2.2.2 (p.1.cells.map B8) ∧ p.1.text.size ≤ 1000) (a2 : Option Addr) (c2 : Nat) (hx : act.eval x = .slice a2 qs.length c2) (hy : Sl w 3 a2 qs.length c2 (qs.flatMap rc))
  (hn : ps.length ≤ 1000000) (hn2 : qs.length ≤ 1000000) (hB : B ≤ w.heap.size) (hbel : Below B w0 w)
  (hK : ∀ a' c' w', ORu w' 45 5 B a' c' (ps ++ qs) → Below B w0 w' → w.grownBy w' (a.map (·.block)) → wpList Tryd.prog ops Q rest (act.put o.dst (.slice a' (ps.length + qs.length) c')) w') :
  wpList Tryd.prog ops Q (o :: rest) act w := by
 refine append_own hg s x 24 hop 45 zeroRule 3 48 Tryd.underlying24 info_rule rfl w0 B a _ c _ hs hown.top a2 qs.length c2 (qs.flatMap rc) hx hy (one_flat rc_one qs) (by omega) (by unfold maxLen; omega) hB hbel ?_
 intro a' c' w' ho hgr hb
 refine hK a' c' w' ⟨by rw [List.length_append, List.flatMap_append]; exact ho, ?_⟩ hb hgr
 intro p hp
 have key : ∀ {q : RH}, Own w 0 5 1 q.2.1 q.2.2.1 q.2.2.2 (q.1.cells.map B8) → Own w' 0 5 1 q.2.1 q.2.2.1 q.2.2.2 (q.1.cells.map B8) := fun {q} h => h.kept hgr (fun r hr => by
  rw [hr] at h; exact far_map h hown.top (by decide))
 rcases List.mem_append.1 hp with hp | hp
 ·exact ⟨key (hown.row p hp).1, (hown.row p hp).2⟩
 ·exact ⟨key (hq p hp).1, (hq p hp).2⟩
end
def RO (w : World) (B : Nat) (v : Value) (L : List Ru) : Prop := ∃ a c ps, v = .slice a ps.length c ∧ ORu w 45 5 B a c ps ∧ rus ps = L
theorem RO.kept {w w' : World} {B : Nat} {v : Value} {L : List Ru} {g : Nat} {us : List Value} (h : RO w B v L) (hg : w.grownBy w' (some g)) (hx : Box w g 29 us) : RO w' B v L := by
 obtain ⟨a, c, ps, h1, h2, h3⟩ := h
 exact ⟨a, c, ps, h1, h2.kept hg hx (by decide) (by decide), h3⟩
theorem RO.below {w w' : World} {B : Nat} {v : Value} {L : List Ru} (h : RO w B v L) (hb : Below w.heap.size w w') : RO w' B v L := by
 obtain ⟨a, c, ps, h1, h2, h3⟩ := h
 exact ⟨a, c, ps, h1, h2.below hb, h3⟩
def blk : Value → Option Nat
 | .slice a _ _ => a.map (·.block)
 | _ => none
def apt (v0 v1 : Value) : Prop := ∀ b, blk v0 = some b → blk v1 ≠ some b
theorem apt_of {w w' : World} {B : Nat} {v : Value} {L : List Ru} (h : RO w B v L) {e : TypeId} {sz n c : Nat} {a : Option Addr} {cs : List Value} (h' : Own w' w.heap.size e sz a n c cs) : apt v (.slice a n c) := by
 obtain ⟨a0, c0, ps, rfl, ho, _⟩ := h
 intro b hb hb2
 have ht := ho.top
 cases a0 with
 | none => cases hb
 | some p =>
  cases a with
  | none => cases hb2
  | some q =>
   have h1 := ht.base.2
   have h2 := h'.base.1
   have e1 : p.block = b := by simpa [blk] using hb
   have e2 : q.block = b := by simpa [blk] using hb2
   omega
theorem RO.far {w w' : World} {B B' : Nat} {v : Value} {L : List Ru} {a : Option Addr} {n c sz : Nat} {cs : List Value} (h : RO w B v L) (hA : Own w B' 45 sz a n c cs) (hg : w.grownBy w' (a.map (·.block))) (hne : ∀ b, a.map (·.block) = some b → blk v ≠ some b) : RO w' B v L := by
 obtain ⟨a0, c0, ps, rfl, ho, hl⟩ := h
 refine ⟨a0, c0, ps, rfl, ⟨ho.top.kept hg fun q hq => ?_, fun p hp => ⟨?_, (ho.row p hp).2⟩⟩, hl⟩
 ·intro e
  exact hne q.block e.symm (by rw [hq]; rfl)
 ·have h1 := (ho.row p hp).1
  refine h1.kept hg fun q hq => ?_
  rw [hq] at h1
  exact far_map h1 hA (by decide)
theorem box_map {w : World} {g B : Nat} {t e : TypeId} {us : List Value} {sz : Nat} {a : Option Addr} {n c : Nat} {cs : List Value} (h : Box w g t us) (h' : Own w B e sz a n c cs) (he : t ≠ e) : some g ≠ a.map (·.block) := by
 cases a with
 | none => simp
 | some q => have := box_far h h' he; simp; omega
def UB (w : World) (v : Value) (l : List UInt8) : Prop := ∃ a n c, v = .slice a n c ∧ Own w 0 5 1 a n c (l.map B8)
theorem UB.kept {w w' : World} {v : Value} {l : List UInt8} {g : Nat} {us : List Value} (h : UB w v l) (hg : w.grownBy w' (some g)) (hx : Box w g 29 us) : UB w' v l := by
 obtain ⟨a, n, c, h1, h2⟩ := h
 refine ⟨a, n, c, h1, h2.kept hg fun q hq => ?_⟩
 rw [hq] at h2
 have := box_far hx h2 (by decide)
 simpa using this
theorem UB.below {w w' : World} {v : Value} {l : List UInt8} (h : UB w v l) (hb : Below w.heap.size w w') : UB w' v l := by
 obtain ⟨a, n, c, h1, h2⟩ := h
 exact ⟨a, n, c, h1, h2.below hb⟩
theorem UB.new (w : World) (l : List UInt8) (n : Nat) (hn : l.length = n) (hm : n ≤ 100) : UB (w.alloc (.cells (l.map B8).toArray 5)) (.slice (some ⟨w.heap.size, 0, none⟩) n n) l := by
 refine ⟨_, _, _, rfl, ?_⟩
 have := Own.built w 0 5 1 n (l.map B8).toArray (Nat.zero_le _) (by simp [hn]) (by unfold maxLen; omega)
 simpa using this

set_option maxRecDepth 100000 in
set_option maxHeartbeats 8000000 in
theorem law_example (w : World) : Calls Tryd.prog 48 #[] w fun e w' => ∃ H, e = .returned (TH.v H) ∧ TaIs w' H exTa ∧ Below w.heap.size w w' := by
 have X0 := (Box.new w 29 #[.slice none 0 0, .slice none 0 0, .slice none 0 0, .slice none 0 0, .slice none 0 0, .slice none 0 0, .slice none 0 0]).alloc (.cells #[.slice none 0 0, .slice none 0 0, .slice none 0 0, .slice none 0 0, .slice none 0 0, .slice none 0 0, .slice none 0 0] 29)
 have X1 := Box.new (w.alloc (.cells #[.slice none 0 0, .slice none 0 0, .slice none 0 0, .slice none 0 0, .slice none 0 0, .slice none 0 0, .slice none 0 0] 29)) 29 #[.slice none 0 0, .slice none 0 0, .slice none 0 0, .slice none 0 0, .slice none 0 0, .slice none 0 0, .slice none 0 0]
 rw [show (w.alloc (.cells #[.slice none 0 0, .slice none 0 0, .slice none 0 0, .slice none 0 0, .slice none 0 0, .slice none 0 0, .slice none 0 0] 29)).heap.size = w.heap.size + 1 by simp] at X1
 have hb0 : Below w.heap.size w ((w.alloc (.cells #[.slice none 0 0, .slice none 0 0, .slice none 0 0, .slice none 0 0, .slice none 0 0, .slice none 0 0, .slice none 0 0] 29)).alloc (.cells #[.slice none 0 0, .slice none 0 0, .slice none 0 0, .slice none 0 0, .slice none 0 0, .slice none 0 0, .slice none 0 0] 29)) := (blo w _).trans ((blo _ _).mono (by simp))
 obtain ⟨g1, hg1⟩ : ∃ g1, g1 = w.heap.size + 1 := ⟨_, rfl⟩
 have hg1w : w.heap.size ≤ g1 := by omega
 have hg01 : some w.heap.size ≠ some g1 := by simp; omega
 go_enter Tryd.func48, Tryd.ntmps48
 go_wp2_with fail
 rw [← hg1] at X1 ⊢
 clear hg1
 generalize (w.alloc (.cells _ 29)).alloc (.cells _ 29) = w2 at *
 go_loopg [2] 2 (fun gh v w' => ∃ (k : Nat) (v0 v1 : Value), k ≤ 2 ∧ gh = 2 - k ∧ v = .int .i64 (k : Int) ∧ Box w' g1 29 [v0, v1, .slice none 0 0, .slice none 0 0, .slice none 0 0, .slice none 0 0, .slice none 0 0] ∧ Box w' w.heap.size 29 [.slice none 0 0, .slice none 0 0, .slice none 0 0, .slice none 0 0, .slice none 0 0, .slice none 0 0, .slice none 0 0] ∧ (k ≤ 0 → v0 = .slice none 0 0) ∧ (k ≤ 1 → v1 = .slice none 0 0) ∧ (1 ≤ k → RO w' w.heap.size v0 (letters 26)) ∧ (2 ≤ k → RO w' w.heap.size v1 (letters 26)) ∧ (2 ≤ k → apt v0 v1) ∧ Below w.heap.size w w')
 case atStart => exact ⟨0, _, _, by omega, by omega, rfl, X1, X0, fun _ => rfl, fun _ => rfl, fun h => by omega, fun h => by omega, fun h => by omega, hb0⟩
 case round =>
  clear X0 X1 hb0
  obtain ⟨k, v0, v1, hk, hg, rfl, hX1, hX0, hn0, hn1, hr0, hr1, hap, hb⟩ := hrel
  have HG := hide hg
  clear hg
  by_cases hkl : k < 2
  ·obtain ⟨wo, rfl⟩ : ∃ wo : World, wo = wr := ⟨_, rfl⟩
   obtain ⟨V, hV⟩ : ∃ V : List Value, V = [v0, v1, .slice none 0 0, .slice none 0 0, .slice none 0 0, .slice none 0 0, .slice none 0 0] := ⟨_, rfl⟩
   have hVk : V[k]? = some (.slice none 0 0) := by
    rw [hV]
    rcases k with _ | _ | k
    ·rw [hn0 (by omega)]; rfl
    ·rw [hn1 (by omega)]; rfl
    ·omega
   have hVl : V.length = 7 := by rw [hV]; rfl
   have hkV7 : k < V.length := by omega
   rw [← hV] at hX1
   have HV := hide hV
   have hg1o : g1 < wo.heap.size := hX1.lt
   have hg0o : w.heap.size < wo.heap.size := hX0.lt
   have d0 : decide (k < 2) = true := decide_eq_true hkl
   have d0' : decide ((k : Int) < 2) = true := decide_eq_true (by omega)
   have hbx0 : Box wo g1 29 (V.set k (.slice none 0 0)) := by rw [set_same hVk]; exact hX1
   have HN1 := hide hn1
   have HBO := hide hbx0
   clear hV hVk hX1 hn0 hn1 hVl
   go_wp2_with fail
   go_loopg [3] 26 (fun gh v w' => ∃ (i : Nat) (ps : List RH) (a : Option Addr) (c : Nat), i ≤ 26 ∧ gh = 26 - i ∧ ps.length = i ∧ v = .int .i64 (i : Int) ∧ Hid (rus ps = letters i) ∧ Box w' g1 29 (V.set k (.slice a ps.length c)) ∧ Box w' w.heap.size 29 [.slice none 0 0, .slice none 0 0, .slice none 0 0, .slice none 0 0, .slice none 0 0, .slice none 0 0, .slice none 0 0] ∧ ORu w' 45 5 wo.heap.size a c ps ∧ wo.grownBy w' (some g1))
   case atStart => exact ⟨0, [], none, 0, by omega, by omega, rfl, rfl, hide rfl, hbx0, hX0, ORu.nil _ _ _ _, grown_of_below (Below.refl _ _) _⟩
   case round =>
    clear hbx0
    obtain ⟨i, ps, a, c, hi, hgi, hpl, rfl, HPS, hBx, hB0, hOR, hgo⟩ := hrel
    have HGI := hide hgi
    have HPL := hide hpl
    have hple : ps.length ≤ 26 := by omega
    clear hgi hpl
    have hkV : k < (V.set k (.slice a ps.length c)).length := by rw [List.length_set]; exact hkV7
    by_cases hil : i < 26
    ·have HVC : Hid ((V.set k (.slice a ps.length c))[k]? = some (.slice a ps.length c)) := hide (by rw [List.getElem?_set_self hkV7])
     obtain ⟨cu, hcu⟩ : ∃ cu, cu = UInt8.ofNat (97 + i) := ⟨_, rfl⟩
     obtain ⟨cv, hcv⟩ : ∃ cv, cv = UInt8.ofNat (1 + i) := ⟨_, rfl⟩
     have HU97 : Hid (([.int .u8 (97 + (i : Int))] : List Value) = [cu].map B8) := hide (by
      have : (cu.toNat : Int) = 97 + (i : Int) := by rw [hcu, UInt8.toNat_ofNat']; omega
      show _ = [Value.int .u8 (cu.toNat : Int)]
      rw [this])
     have HU1 : Hid (([.int .u8 (1 + (i : Int))] : List Value) = [cv].map B8) := hide (by
      have : (cv.toNat : Int) = 1 + (i : Int) := by rw [hcv, UInt8.toNat_ofNat']; omega
      show _ = [Value.int .u8 (cv.toNat : Int)]
      rw [this])
     have HPS2 : Hid (∀ h, Hid (rus (ps ++ [((⟨⟨#[cu]⟩, 0, [cv]⟩ : Ru), h)]) = letters (i + 1))) := hide (fun h => hide (by rw [letters_step, ← HPS.out, hcu, hcv]; unfold rus; simp))
     clear hcu hcv
     have HNE : Hid (∀ b, wr.heap.size ≤ b → some b ≠ a.map (·.block)) := hide (fun b hb => own_map hOR.top hb)
     go_wp2_with fail
     refine wp_region_chain4 21 (fun w w' => w.grownBy w' (a.map (·.block))) (GEx wr wo 29 45 5 g1 w.heap.size (V.set k (.slice a ps.length c)) [.slice none 0 0, .slice none 0 0, .slice none 0 0, .slice none 0 0, .slice none 0 0, .slice none 0 0, .slice none 0 0] (ps.length + 1) ps (⟨⟨#[cu]⟩, 0, [cv]⟩ : Ru)) [⟨17, 30, [], fun _ _ => True⟩] [⟨0, 13, [13], fun vs _ => vs = [.int .i64 (k : Int)]⟩, ⟨1, 14, [14], fun vs _ => vs = [.int .i64 (k : Int)]⟩, ⟨2, 15, [15], fun vs _ => vs = [.pointer (some ⟨g1, 0, none⟩)]⟩, ⟨3, 16, [16], fun vs _ => vs = [.pointer (some ⟨g1, k, none⟩)]⟩, ⟨4, 17, [17], fun vs _ => vs = [.pointer (some ⟨g1, k, none⟩)]⟩, ⟨5, 18, [18], fun vs _ => vs = [.slice a ps.length c]⟩, ⟨6, 19, [19], fun vs _ => vs = [.int .i64 (i : Int)]⟩, ⟨7, 20, [20], fun vs _ => vs = [.int .i64 (97 + (i : Int))]⟩, ⟨8, 21, [21], fun vs _ => vs = [.int .u8 (97 + (i : Int))]⟩, ⟨9, 22, [22], fun vs w' => ∃ b, vs = [.slice (some ⟨b, 0, none⟩) 1 1] ∧ wr.heap.size ≤ b ∧ Own w' 0 5 1 (some ⟨b, 0, none⟩) 1 1 [.int .u8 (97 + (i : Int))]⟩, ⟨10, 23, [23], fun vs _ => vs = [.string ⟨#[cu]⟩]⟩, ⟨11, 24, [24], fun vs _ => vs = [.int .i64 (i : Int)]⟩, ⟨12, 25, [25], fun vs _ => vs = [.int .i64 (1 + (i : Int))]⟩, ⟨13, 26, [26], fun vs _ => vs = [.int .u8 (1 + (i : Int))]⟩, ⟨14, 27, [27], fun vs w' => ∃ b, vs = [.slice (some ⟨b, 0, none⟩) 1 1] ∧ wr.heap.size ≤ b ∧ Own w' 0 5 1 (some ⟨b, 0, none⟩) 1 1 ([cv].map B8)⟩, ⟨15, 28, [28], fun vs w' => ∃ b, vs = [.agg #[.string ⟨#[cu]⟩, .int .i64 0, .slice (some ⟨b, 0, none⟩) 1 1]] ∧ wr.heap.size ≤ b ∧ Own w' 0 5 1 (some ⟨b, 0, none⟩) 1 1 ([cv].map B8)⟩, ⟨16, 29, [29], fun vs w' => ∃ b2, vs = [.slice (some ⟨b2, 0, none⟩) 1 1] ∧ wr.heap.size ≤ b2 ∧ ∃ b, wr.heap.size ≤ b ∧ Sl w' 3 (some ⟨b2, 0, none⟩) 1 1 (rc ((⟨⟨#[cu]⟩, 0, [cv]⟩ : Ru), (some ⟨b, 0, none⟩, 1, 1))) ∧ Own w' 0 5 1 (some ⟨b, 0, none⟩) 1 1 ([cv].map B8)⟩, ⟨18, 31, [31], fun vs _ => vs = [.pointer (some ⟨g1, 0, none⟩)]⟩, ⟨19, 32, [32], fun vs _ => vs = [.pointer (some ⟨g1, k, none⟩)]⟩, ⟨20, 33, [33], fun vs _ => vs = [.pointer (some ⟨g1, k, none⟩)]⟩] (by kernel_rfl) (by kernel_rfl) ?_ (fun _ _ h => grown_of_below h _) GEx.mono ?_ ?_ ?_ ?_
     ·exact (Still.below 1 : Below wr.heap.size wr (wr.drewN 1))
     ·simp only [All]
      refine ⟨(fun _ _ _ _ h => h), (fun _ _ _ _ h => h), (fun _ _ _ _ h => h), (fun _ _ _ _ h => h), (fun _ _ _ _ h => h), (fun _ _ _ _ h => h), (fun _ _ _ _ h => h), (fun _ _ _ _ h => h), (fun _ _ _ _ h => h), (fun vs w1 w2 hr ⟨b, h1, h0, h2⟩ => ⟨b, h1, h0, h2.kept hr (fun q hq => by cases hq; exact HNE.out b h0)⟩), (fun _ _ _ _ h => h), (fun _ _ _ _ h => h), (fun _ _ _ _ h => h), (fun _ _ _ _ h => h), (fun vs w1 w2 hr ⟨b, h1, h0, h2⟩ => ⟨b, h1, h0, h2.kept hr (fun q hq => by cases hq; exact HNE.out b h0)⟩), (fun vs w1 w2 hr ⟨b, h1, h0, h2⟩ => ⟨b, h1, h0, h2.kept hr (fun q hq => by cases hq; exact HNE.out b h0)⟩), (fun vs w1 w2 hr ⟨b2, h1, h2, b, h0, h3, h4⟩ => ⟨b2, h1, h2, b, h0, h3.grown hr (fun q hq => by cases hq; exact HNE.out b2 h2), h4.kept hr (fun q hq => by cases hq; exact HNE.out b h0)⟩), (fun _ _ _ _ h => h), (fun _ _ _ _ h => h), (fun _ _ _ _ h => h), trivial⟩
     ·intro m c hc o ho a' w' hG hfr hdep
      rcases m with _ | m
      ·cases hc
       obtain rfl := oj ho
       have hb : Below wr.heap.size wr w' := hG
       have g18 : a'.tmps[18]?.getD undef = .slice a ps.length c := by simpa using hdep 5 _ rfl (by kernel_rfl)
       obtain ⟨b2, g29, hb2, b8, _, hs2, ho8⟩ := hdep 16 _ rfl (by kernel_rfl)
       simp at g29
       clear hfr hdep hG
       have hOw := hOR.below hb
       have hsz9 := Nat.le_trans hgo.size hb.size
       refine app_ru2 rfl _ _ rfl w' wo.heap.size a c ps (by show a'.tmps.getD 18 undef = _; simpa using g18) hOw ((⟨⟨#[cu]⟩, 0, [cv]⟩ : Ru), (some ⟨b8, 0, none⟩, 1, 1)) ho8 (by show (1 : Nat) ≤ 1000; decide) (some ⟨b2, 0, none⟩) 1 (by show a'.tmps.getD 29 undef = _; simpa using g29) hs2 (by omega) hsz9 (Below.refl _ _) ?_
       intro a3 c3 w7 ho7 hb7 hgr7
       go_wp2
       exact ⟨rfl, _, rfl, hgr7, ⟨a3, c3, rfl, b8, ho7⟩, (hBx.under hb).below hb7 hg1o, (hB0.under hb).below hb7 hg0o, grown_below (grown_below hgo (hb.mono hgo.size)) hb7, Nat.le_trans hb.size hb7.size⟩
      ·cases hc
     ·simp only [All]
      refine ⟨?_, ?_, ?_, ?_, ?_, ?_, ?_, ?_, ?_, ?_, ?_, ?_, ?_, ?_, ?_, ?_, ?_, ?_, ?_, ?_, trivial⟩
      ·intro o ho a' w' hfr hdep hst; obtain rfl := oj ho
       have g2 : a'.tmps[2]?.getD undef = .int .i64 (k : Int) := by simpa using hfr 2 (by kernel_rfl)
       clear ho hfr hdep hst; go_wp2_with fail; exact ⟨rfl, _, rfl, br, rfl⟩
      ·intro o ho a' w' hfr hdep hst; obtain rfl := oj ho
       have g2 : a'.tmps[2]?.getD undef = .int .i64 (k : Int) := by simpa using hfr 2 (by kernel_rfl)
       clear ho hfr hdep hst; go_wp2_with fail; exact ⟨rfl, _, rfl, br, rfl⟩
      ·intro o ho a' w' hfr hdep hst; obtain rfl := oj ho
       have g1 : a'.tmps[1]?.getD undef = .pointer (some ⟨g1, 0, none⟩) := by simpa using hfr 1 (by kernel_rfl)
       clear ho hfr hdep hst; go_wp2_with fail; exact ⟨rfl, _, rfl, br, rfl⟩
      ·intro o ho a' w' hfr hdep hst; obtain rfl := oj ho
       have g15 : a'.tmps[15]?.getD undef = .pointer (some ⟨g1, 0, none⟩) := by simpa using hdep 2 _ rfl (by kernel_rfl)
       have g14 : a'.tmps[14]?.getD undef = .int .i64 (k : Int) := by simpa using hdep 1 _ rfl (by kernel_rfl)
       clear ho hfr hdep hst; go_wp2_with fail; exact ⟨rfl, _, rfl, br, rfl⟩
      ·intro o ho a' w' hfr hdep hst; obtain rfl := oj ho
       have g16 : a'.tmps[16]?.getD undef = .pointer (some ⟨g1, k, none⟩) := by simpa using hdep 3 _ rfl (by kernel_rfl)
       clear ho hfr hdep hst; go_wp2_with fail; exact ⟨rfl, _, rfl, br, rfl⟩
      ·intro o ho a' w' hfr hdep hst; obtain rfl := oj ho
       have g17 : a'.tmps[17]?.getD undef = .pointer (some ⟨g1, k, none⟩) := by simpa using hdep 4 _ rfl (by kernel_rfl)
       obtain ⟨j, _, _, hG⟩ := hst
       clear ho hfr hdep; have hcl := (hG.box hBx).at_ HVC.out
       clear hG
       go_wp2_with fail; exact ⟨rfl, _, rfl, br, rfl⟩
      ·intro o ho a' w' hfr hdep hst; obtain rfl := oj ho
       have g3 : a'.tmps[3]?.getD undef = .int .i64 (i : Int) := by simpa using hfr 3 (by kernel_rfl)
       clear ho hfr hdep hst; go_wp2_with fail; exact ⟨rfl, _, rfl, br, rfl⟩
      ·intro o ho a' w' hfr hdep hst; obtain rfl := oj ho
       have g19 : a'.tmps[19]?.getD undef = .int .i64 (i : Int) := by simpa using hdep 6 _ rfl (by kernel_rfl)
       clear ho hfr hdep hst; go_wp2_with fail; exact ⟨rfl, _, rfl, br, rfl⟩
      ·intro o ho a' w' hfr hdep hst; obtain rfl := oj ho
       have g20 : a'.tmps[20]?.getD undef = .int .i64 (97 + (i : Int)) := by simpa using hdep 7 _ rfl (by kernel_rfl)
       clear ho hfr hdep hst; go_wp2_with fail; exact ⟨rfl, _, rfl, br, rfl⟩
      ·intro o ho a' w' hfr hdep hst; obtain rfl := oj ho
       have g21 : a'.tmps[21]?.getD undef = .int .u8 (97 + (i : Int)) := by simpa using hdep 8 _ rfl (by kernel_rfl)
       obtain ⟨j, _, _, hG⟩ := hst
       clear ho hfr hdep; have hsz := hG.size
       clear hG
       go_wp2_with fail
       exact ⟨rfl, _, rfl, blo _ _, _, rfl, hsz, Own.built w' 0 5 1 1 #[.int .u8 (97 + (i : Int))] (Nat.zero_le _) rfl (by decide)⟩
      ·intro o ho a' w' hfr hdep hst; obtain rfl := oj ho
       obtain ⟨b8, g22, hb8, ho8⟩ := hdep 9 _ rfl (by kernel_rfl)
       simp at g22
       clear ho hfr hdep hst; have hs8 := ho8.sl
       rw [HU97.out] at hs8
       refine to_str 23 _ (some ⟨b8, 0, none⟩) 1 1 [cu] (by show a'.tmps.getD 22 undef = _; simpa using g22) hs8 ?_
       go_wp2_with fail; exact ⟨rfl, _, rfl, br, rfl⟩
      ·intro o ho a' w' hfr hdep hst; obtain rfl := oj ho
       have g3 : a'.tmps[3]?.getD undef = .int .i64 (i : Int) := by simpa using hfr 3 (by kernel_rfl)
       clear ho hfr hdep hst; go_wp2_with fail; exact ⟨rfl, _, rfl, br, rfl⟩
      ·intro o ho a' w' hfr hdep hst; obtain rfl := oj ho
       have g24 : a'.tmps[24]?.getD undef = .int .i64 (i : Int) := by simpa using hdep 11 _ rfl (by kernel_rfl)
       clear ho hfr hdep hst; go_wp2_with fail; exact ⟨rfl, _, rfl, br, rfl⟩
      ·intro o ho a' w' hfr hdep hst; obtain rfl := oj ho
       have g25 : a'.tmps[25]?.getD undef = .int .i64 (1 + (i : Int)) := by simpa using hdep 12 _ rfl (by kernel_rfl)
       clear ho hfr hdep hst; go_wp2_with fail; exact ⟨rfl, _, rfl, br, rfl⟩
      ·intro o ho a' w' hfr hdep hst; obtain rfl := oj ho
       have g26 : a'.tmps[26]?.getD undef = .int .u8 (1 + (i : Int)) := by simpa using hdep 13 _ rfl (by kernel_rfl)
       obtain ⟨j, _, _, hG⟩ := hst
       clear ho hfr hdep; have hsz := hG.size
       clear hG
       go_wp2_with fail
       refine ⟨rfl, _, rfl, blo _ _, _, rfl, hsz, ?_⟩
       rw [← HU1.out]
       exact Own.built w' 0 5 1 1 #[.int .u8 (1 + (i : Int))] (Nat.zero_le _) rfl (by decide)
      ·intro o ho a' w' hfr hdep hst; obtain rfl := oj ho
       have g23 : a'.tmps[23]?.getD undef = .string ⟨#[cu]⟩ := by simpa using hdep 10 _ rfl (by kernel_rfl)
       obtain ⟨b8, g27, hb8, ho8⟩ := hdep 14 _ rfl (by kernel_rfl)
       simp at g27
       clear ho hfr hdep hst; go_wp2_with fail; exact ⟨rfl, _, rfl, br, b8, rfl, hb8, ho8⟩
      ·intro o ho a' w' hfr hdep hst; obtain rfl := oj ho
       obtain ⟨b8, g28, hb8, ho8⟩ := hdep 15 _ rfl (by kernel_rfl)
       simp at g28
       obtain ⟨j, _, _, hG⟩ := hst
       clear ho hfr hdep; have hsz := hG.size
       clear hG
       go_wp2_with fail
       exact ⟨rfl, _, rfl, blo _ _, _, rfl, hsz, b8, hb8, Sl.fresh _ _ 3 1 (rc ((⟨⟨#[cu]⟩, 0, [cv]⟩ : Ru), (some ⟨b8, 0, none⟩, 1, 1))) rfl (by decide), ho8.alloc _⟩
      ·intro o ho a' w' hfr hdep hst; obtain rfl := oj ho
       have g1 : a'.tmps[1]?.getD undef = .pointer (some ⟨g1, 0, none⟩) := by simpa using hfr 1 (by kernel_rfl)
       clear ho hfr hdep hst; go_wp2_with fail; exact ⟨rfl, _, rfl, br, rfl⟩
      ·intro o ho a' w' hfr hdep hst; obtain rfl := oj ho
       have g31 : a'.tmps[31]?.getD undef = .pointer (some ⟨g1, 0, none⟩) := by simpa using hdep 17 _ rfl (by kernel_rfl)
       have g13 : a'.tmps[13]?.getD undef = .int .i64 (k : Int) := by simpa using hdep 0 _ rfl (by kernel_rfl)
       clear ho hfr hdep hst; go_wp2_with fail; exact ⟨rfl, _, rfl, br, rfl⟩
      ·intro o ho a' w' hfr hdep hst; obtain rfl := oj ho
       have g32 : a'.tmps[32]?.getD undef = .pointer (some ⟨g1, k, none⟩) := by simpa using hdep 18 _ rfl (by kernel_rfl)
       clear ho hfr hdep hst; go_wp2_with fail; exact ⟨rfl, _, rfl, br, rfl⟩
     ·intro g w7 hG hp
      obtain ⟨⟨a7, c7, p30, b7, ho7⟩, gB, gZ, gG, _⟩ := hG
      have p33 := hp 19 _ rfl
      clear hp
      simp at p30 p33
      simp only [List.drop_succ_cons, List.drop_zero, List.map_cons, List.map_nil, putAll, Act.put, List.setIfInBounds_toArray, List.set_cons_succ, List.set_cons_zero, List.cons_append, List.nil_append, p30, p33]
      go_wp2_with (with_reducible refine store_cell 24 _ _ 29 g1 k (V.set k (.slice a ps.length c)) (.slice a7 (ps.length + 1) c7) size_rules gB rfl rfl rfl rfl hkV ?_; intro w8 hx8 hg8 hs8)
      rw [List.set_set] at hx8
      have ho8 := ho7.kept hg8 gB (by decide) (by decide)
      have hz8 := gZ.grown hg8 hg01
      have hgo8 := grown_trans gG hg8
      go_roundg (26 - (i + 1))
      case measure => have := HGI.out; omega
      case rel => exact ⟨i + 1, ps ++ [((⟨⟨#[cu]⟩, 0, [cv]⟩ : Ru), (some ⟨b7, 0, none⟩, 1, 1))], a7, c7, by omega, rfl, by rw [List.length_append, HPL.out]; rfl, by go_num, HPS2.out _, by rw [List.length_append]; exact hx8, hz8, ho8, hgo8⟩
    ·obtain rfl : i = 26 := by omega
     have HKN : Hid (∃ v0' v1', Box wr g1 29 [v0', v1', .slice none 0 0, .slice none 0 0, .slice none 0 0, .slice none 0 0, .slice none 0 0] ∧ (k + 1 ≤ 0 → v0' = .slice none 0 0) ∧ (k + 1 ≤ 1 → v1' = .slice none 0 0) ∧ (1 ≤ k + 1 → RO wr w.heap.size v0' (letters 26)) ∧ (2 ≤ k + 1 → RO wr w.heap.size v1' (letters 26)) ∧ (2 ≤ k + 1 → apt v0' v1')) := by
      have hl := HV.out
      have hro : RO wr w.heap.size (.slice a ps.length c) (letters 26) := ⟨a, c, ps, rfl, hOR.mono (Nat.le_of_lt hg0o), HPS.out⟩
      rw [hl] at hBx
      rcases k with _ | _ | k
      ·exact hide ⟨_, v1, hBx, fun h => by omega, fun _ => HN1.out (by omega), fun _ => hro, fun h => by omega, fun h => by omega⟩
      ·exact hide ⟨v0, _, hBx, fun h => by omega, fun h => by omega, fun _ => (hr0 (by omega)).kept hgo HBO.out, fun _ => hro, fun _ => apt_of (hr0 (by omega)) hOR.top⟩
      ·omega
     have hbw := hb.grown hgo hb.size (fun q hq => by cases hq; exact hg1w)
     clear hBx hOR hr0 hr1
     go_wp2
     obtain ⟨v0', v1', z1, z2, z3, z4, z5, z6⟩ := HKN.out
     go_roundg (2 - (k + 1))
     case measure => have := HG.out; omega
     case rel => exact ⟨k + 1, v0', v1', by omega, rfl, by go_num, z1, hB0, z2, z3, z4, z5, z6, hbw⟩
  ·obtain rfl : k = 2 := by omega
   have r0 := hr0 (by omega)
   have r1 := hr1 (by omega)
   have hapt := hap (by omega)
   clear hn0 hn1 hr0 hr1 hap hkl hk HG
   obtain ⟨a, c, ps, rfl, hO, hps⟩ := r0
   have HPS := hide hps
   have hpl26 : ps.length = 26 := by
    have : (rus ps).length = ps.length := by unfold rus; simp
    rw [← this, hps]; rfl
   have HPL := hide hpl26
   have hple : ps.length ≤ 26 := by omega
   clear hps hpl26
   obtain ⟨wa, hwa⟩ : ∃ wa, wa = ((((wr.alloc (.cells #[.int .u8 30] 5)).alloc (.cells #[.int .u8 31] 5)).alloc (.cells #[.int .u8 32] 5)).alloc (.cells #[.int .u8 33] 5)) := ⟨_, rfl⟩
   obtain ⟨qs, hqs⟩ : ∃ qs : List RH, qs = [(⟨⟨#[97, 110]⟩, 0, [30]⟩, (some ⟨wr.heap.size, 0, none⟩, 1, 1)), (⟨⟨#[97, 110]⟩, 1, [31]⟩, (some ⟨wr.heap.size + 1, 0, none⟩, 1, 1)), (⟨⟨#[110]⟩, 3, [32]⟩, (some ⟨wr.heap.size + 1 + 1, 0, none⟩, 1, 1)), (⟨⟨#[46]⟩, 0, [33]⟩, (some ⟨wr.heap.size + 1 + 1 + 1, 0, none⟩, 1, 1))] := ⟨_, rfl⟩
   have hs1 : (wr.alloc (.cells #[.int .u8 30] 5)).heap.size = wr.heap.size + 1 := by simp
   have hs2 : ((wr.alloc (.cells #[.int .u8 30] 5)).alloc (.cells #[.int .u8 31] 5)).heap.size = wr.heap.size + 1 + 1 := by simp
   have hs3 : (((wr.alloc (.cells #[.int .u8 30] 5)).alloc (.cells #[.int .u8 31] 5)).alloc (.cells #[.int .u8 32] 5)).heap.size = wr.heap.size + 1 + 1 + 1 := by simp
   have o1 : Own wa 0 5 1 (some ⟨wr.heap.size, 0, none⟩) 1 1 [.int .u8 30] := by rw [hwa]; exact (((Own.built wr 0 5 1 1 #[.int .u8 30] (Nat.zero_le _) rfl (by decide)).alloc _).alloc _).alloc _
   have o2 : Own wa 0 5 1 (some ⟨wr.heap.size + 1, 0, none⟩) 1 1 [.int .u8 31] := by
    rw [hwa, ← hs1]; exact (((Own.built _ 0 5 1 1 #[.int .u8 31] (Nat.zero_le _) rfl (by decide)).alloc _).alloc _)
   have o3 : Own wa 0 5 1 (some ⟨wr.heap.size + 1 + 1, 0, none⟩) 1 1 [.int .u8 32] := by
    rw [hwa, ← hs2]; exact ((Own.built _ 0 5 1 1 #[.int .u8 32] (Nat.zero_le _) rfl (by decide)).alloc _)
   have o4 : Own wa 0 5 1 (some ⟨wr.heap.size + 1 + 1 + 1, 0, none⟩) 1 1 [.int .u8 33] := by
    rw [hwa, ← hs3]; exact (Own.built _ 0 5 1 1 #[.int .u8 33] (Nat.zero_le _) rfl (by decide))
   have hrows : ∀ p ∈ qs, Own wa 0 5 1 p.2.1 p.2.2.1 p.2.2.2 (p.1.cells.map B8) ∧ p.1.text.size ≤ 1000 := by
    rw [hqs]
    intro p hp
    simp only [List.mem_cons, List.not_mem_nil, or_false] at hp
    rcases hp with rfl | rfl | rfl | rfl
    ·exact ⟨o1, show (2 : Nat) ≤ 1000 by decide⟩
    ·exact ⟨o2, show (2 : Nat) ≤ 1000 by decide⟩
    ·exact ⟨o3, show (1 : Nat) ≤ 1000 by decide⟩
    ·exact ⟨o4, show (1 : Nat) ≤ 1000 by decide⟩
   have hba : Below wr.heap.size wr wa := by
    rw [hwa]
    exact (((blo wr _).trans ((blo _ _).mono (by rw [hs1]; omega))).trans ((blo _ _).mono (by rw [hs2]; omega))).trans ((blo _ _).mono (by rw [hs3]; omega))
   have hsa : wa.heap.size = wr.heap.size + 1 + 1 + 1 + 1 := by rw [hwa]; simp
   have HQS := hide hqs
   have HWA := hide hwa
   have hql : qs.length = 4 := by rw [hqs]; rfl
   have HQL := hide hql
   have hrq : rus qs = more4 := by rw [hqs]; rfl
   have HRQ := hide hrq
   have HSA := hide hsa
   clear hqs hwa hs1 hs2 hs3 o1 o2 o3 o4 hql hrq hsa
   have hxa := hX1.under hba
   have hza := hX0.under hba
   have hOa := hO.below hba
   have r1a := r1.below hba
   have hbwa := hb.trans (hba.mono hb.size)
   have HSQ : Hid (Sl (wa.alloc (.cells (qs.flatMap rc).toArray 45)) 3 (some ⟨wa.heap.size, 0, none⟩) 4 4 (qs.flatMap rc)) := hide (Sl.fresh wa _ 3 4 _ (by rw [HQS.out]; rfl) (by decide))
   have hx0c : wa.cell? ⟨g1, 0, none⟩ = some (.slice a ps.length c) := hxa.at_ rfl
   have hg1l : g1 < wa.heap.size := hxa.lt
   have hbe := blo wa (.cells (qs.flatMap rc).toArray 45)
   rw [HQS.out] at HSQ hbe
   clear hX1 hX0 hO r1 hb hba
   go_upto_region 10 with fail
   rw [← HWA.out]
   generalize hwb : wa.alloc (.cells _ 45) = wb
   have hbeb : Below wa.heap.size wa wb := by rw [← hwb]; exact blo _ _
   have hyq : Sl wb 3 (some ⟨wr.heap.size + 1 + 1 + 1 + 1, 0, none⟩) qs.length 4 (qs.flatMap rc) := by
    have := HSQ.out
    rw [HSA.out] at this
    rw [HQL.out, HQS.out, ← hwb]
    exact this
   have HYQ := hide hyq
   clear hwb hbe hyq
   have hxb := hxa.under hbeb
   have hzb := hza.under hbeb
   have hOb := hOa.below hbeb
   have r1b := r1a.below hbeb
   have hbwb := hbwa.trans (hbeb.mono hbwa.size)
   have hrowb : ∀ p ∈ qs, Own wb 0 5 1 p.2.1 p.2.2.1 p.2.2.2 (p.1.cells.map B8) ∧ p.1.text.size ≤ 1000 := fun p hp => ⟨(hrows p hp).1.below hbeb, (hrows p hp).2⟩
   have HROWB := hide hrowb
   have hcb : wb.cell? ⟨g1, 0, none⟩ = some (.slice a ps.length c) := hxb.at_ rfl
   clear hxa hza hOa r1a hbwa hbeb hrows hrowb hx0c HSQ hg1l
   have hxx : Value.slice (some ⟨wr.heap.size + 1 + 1 + 1 + 1, 0, none⟩) 4 4 = Value.slice (some ⟨wr.heap.size + 1 + 1 + 1 + 1, 0, none⟩) qs.length 4 := by rw [HQL.out]
   go_wp2_with (at_builtin; refine app_rus rfl _ _ rfl wb w.heap.size a c ps qs rfl hOb HROWB.out (some ⟨wr.heap.size + 1 + 1 + 1 + 1, 0, none⟩) 4 hxx HYQ.out (by omega) (by rw [HQL.out]; decide) hbwb.size (Below.refl _ _) ?_; intro a5 c5 w5 ho5 hb5 hgr5; refine hold ?_)
   refine hide ?_
   have hx5 := hxb.grown hgr5 (box_map hxb hOb.top (by decide))
   have hz5 := hzb.grown hgr5 (box_map hzb hOb.top (by decide))
   have r15 := r1b.far hOb.top hgr5 (fun b hb => hapt b hb)
   have hbw5 := hbwb.trans hb5
   have r05 : RO w5 w.heap.size (.slice a5 (ps.length + qs.length) c5) (letters 26 ++ more4) := ⟨a5, c5, ps ++ qs, by rw [List.length_append], ho5, by rw [← HPS.out, ← HRQ.out]; unfold rus; simp⟩
   obtain ⟨L0, hL0⟩ : ∃ L0, L0 = ps.length + qs.length := ⟨_, rfl⟩
   rw [← hL0] at r05 ⊢
   clear hxb hzb r1b hbwb ho5 hgr5 hb5 hcb hOb HYQ HROWB hL0 hxx
   have hlen0 : 0 < ([.slice a ps.length c, v1, .slice none 0 0, .slice none 0 0, .slice none 0 0, .slice none 0 0, .slice none 0 0] : List Value).length := by simp
   go_wp2_with (with_reducible refine store_cell 24 _ _ 29 g1 0 [.slice a ps.length c, v1, .slice none 0 0, .slice none 0 0, .slice none 0 0, .slice none 0 0, .slice none 0 0] (.slice a5 L0 c5) size_rules hx5 rfl rfl rfl rfl hlen0 ?_; intro w6 hx6 hg6 hs6; refine hold ?_)
   refine hide ?_
   have r06 := r05.kept hg6 hx5
   have r16 := r15.kept hg6 hx5
   have hz6 := hz5.grown hg6 hg01
   have hbw6 := hbw5.grown hg6 hbw5.size (fun q hq => by cases hq; exact hg1w)
   have hx6 : Box w6 g1 29 [.slice a5 L0 c5, v1, .slice none 0 0, .slice none 0 0, .slice none 0 0, .slice none 0 0, .slice none 0 0] := hx6
   clear hx5 hz5 r05 r15 hbw5 hg6 hs6
   have al := blo w6 (.cells #[.int .u8 41, .int .u8 42, .int .u8 43, .int .u8 44, .int .u8 45, .int .u8 46, .int .u8 47, .int .u8 48, .int .u8 49, .int .u8 50] 5)
   have ub2 : UB (w6.alloc (.cells #[.int .u8 41, .int .u8 42, .int .u8 43, .int .u8 44, .int .u8 45, .int .u8 46, .int .u8 47, .int .u8 48, .int .u8 49, .int .u8 50] 5)) (.slice (some ⟨w6.heap.size, 0, none⟩) 10 10) [41, 42, 43, 44, 45, 46, 47, 48, 49, 50] := UB.new w6 [41, 42, 43, 44, 45, 46, 47, 48, 49, 50] 10 rfl (by decide)
   have hxl := hx6.alloc (.cells #[.int .u8 41, .int .u8 42, .int .u8 43, .int .u8 44, .int .u8 45, .int .u8 46, .int .u8 47, .int .u8 48, .int .u8 49, .int .u8 50] 5)
   have hln : 2 < ([.slice a5 L0 c5, v1, .slice none 0 0, .slice none 0 0, .slice none 0 0, .slice none 0 0, .slice none 0 0] : List Value).length := by simp
   go_wp2_with (with_reducible refine store_cell 23 _ _ 29 g1 2 [.slice a5 L0 c5, v1, .slice none 0 0, .slice none 0 0, .slice none 0 0, .slice none 0 0, .slice none 0 0] (.slice (some ⟨w6.heap.size, 0, none⟩) 10 10) size_row hxl rfl rfl rfl rfl hln ?_; intro w7 hx7 hg7 hs7; refine hold ?_)
   refine hide ?_
   have ub2 := ub2.kept hg7 hxl
   have r07 := (r06.below al).kept hg7 hxl
   have r17 := (r16.below al).kept hg7 hxl
   have hz7 := (hz6.under al).grown hg7 hg01
   have hbw7 := (hbw6.trans (al.mono hbw6.size)).grown hg7 (by have := hbw6.size; have := al.size; omega) (fun q hq => by cases hq; exact hg1w)
   obtain ⟨s2, hs2⟩ : ∃ s : Value, s = .slice (some ⟨w6.heap.size, 0, none⟩) 10 10 := ⟨_, rfl⟩
   rw [← hs2] at ub2 hx7 ⊢
   have hx7 : Box w7 g1 29 [.slice a5 L0 c5, v1, s2, .slice none 0 0, .slice none 0 0, .slice none 0 0, .slice none 0 0] := hx7
   clear hs2 al hxl hln hg7 hs7 hx6 r06 r16 hz6 hbw6
   have al := blo w7 (.cells #[.int .u8 60] 5)
   have ub3 : UB (w7.alloc (.cells #[.int .u8 60] 5)) (.slice (some ⟨w7.heap.size, 0, none⟩) 1 1) [60] := UB.new w7 [60] 1 rfl (by decide)
   have hxl := hx7.alloc (.cells #[.int .u8 60] 5)
   have hln : 3 < ([.slice a5 L0 c5, v1, s2, .slice none 0 0, .slice none 0 0, .slice none 0 0, .slice none 0 0] : List Value).length := by simp
   go_wp2_with (with_reducible refine store_cell 23 _ _ 29 g1 3 [.slice a5 L0 c5, v1, s2, .slice none 0 0, .slice none 0 0, .slice none 0 0, .slice none 0 0] (.slice (some ⟨w7.heap.size, 0, none⟩) 1 1) size_row hxl rfl rfl rfl rfl hln ?_; intro w8 hx8 hg8 hs8; refine hold ?_)
   refine hide ?_
   have ub2 := (ub2.below al).kept hg8 hxl
   have ub3 := ub3.kept hg8 hxl
   have r08 := (r07.below al).kept hg8 hxl
   have r18 := (r17.below al).kept hg8 hxl
   have hz8 := (hz7.under al).grown hg8 hg01
   have hbw8 := (hbw7.trans (al.mono hbw7.size)).grown hg8 (by have := hbw7.size; have := al.size; omega) (fun q hq => by cases hq; exact hg1w)
   obtain ⟨s3, hs3⟩ : ∃ s : Value, s = .slice (some ⟨w7.heap.size, 0, none⟩) 1 1 := ⟨_, rfl⟩
   rw [← hs3] at ub3 hx8 ⊢
   have hx8 : Box w8 g1 29 [.slice a5 L0 c5, v1, s2, s3, .slice none 0 0, .slice none 0 0, .slice none 0 0] := hx8
   clear hs3 al hxl hln hg8 hs8 hx7 r07 r17 hz7 hbw7
   have al := blo w8 (.cells #[.int .u8 61] 5)
   have ub4 : UB (w8.alloc (.cells #[.int .u8 61] 5)) (.slice (some ⟨w8.heap.size, 0, none⟩) 1 1) [61] := UB.new w8 [61] 1 rfl (by decide)
   have hxl := hx8.alloc (.cells #[.int .u8 61] 5)
   have hln : 4 < ([.slice a5 L0 c5, v1, s2, s3, .slice none 0 0, .slice none 0 0, .slice none 0 0] : List Value).length := by simp
   go_wp2_with (with_reducible refine store_cell 23 _ _ 29 g1 4 [.slice a5 L0 c5, v1, s2, s3, .slice none 0 0, .slice none 0 0, .slice none 0 0] (.slice (some ⟨w8.heap.size, 0, none⟩) 1 1) size_row hxl rfl rfl rfl rfl hln ?_; intro w9 hx9 hg9 hs9; refine hold ?_)
   refine hide ?_
   have ub2 := (ub2.below al).kept hg9 hxl
   have ub3 := (ub3.below al).kept hg9 hxl
   have ub4 := ub4.kept hg9 hxl
   have r09 := (r08.below al).kept hg9 hxl
   have r19 := (r18.below al).kept hg9 hxl
   have hz9 := (hz8.under al).grown hg9 hg01
   have hbw9 := (hbw8.trans (al.mono hbw8.size)).grown hg9 (by have := hbw8.size; have := al.size; omega) (fun q hq => by cases hq; exact hg1w)
   obtain ⟨s4, hs4⟩ : ∃ s : Value, s = .slice (some ⟨w8.heap.size, 0, none⟩) 1 1 := ⟨_, rfl⟩
   rw [← hs4] at ub4 hx9 ⊢
   have hx9 : Box w9 g1 29 [.slice a5 L0 c5, v1, s2, s3, s4, .slice none 0 0, .slice none 0 0] := hx9
   clear hs4 al hxl hln hg9 hs9 hx8 r08 r18 hz8 hbw8
   have al := blo w9 (.cells #[.int .u8 62] 5)
   have ub5 : UB (w9.alloc (.cells #[.int .u8 62] 5)) (.slice (some ⟨w9.heap.size, 0, none⟩) 1 1) [62] := UB.new w9 [62] 1 rfl (by decide)
   have hxl := hx9.alloc (.cells #[.int .u8 62] 5)
   have hln : 5 < ([.slice a5 L0 c5, v1, s2, s3, s4, .slice none 0 0, .slice none 0 0] : List Value).length := by simp
   go_wp2_with (with_reducible refine store_cell 23 _ _ 29 g1 5 [.slice a5 L0 c5, v1, s2, s3, s4, .slice none 0 0, .slice none 0 0] (.slice (some ⟨w9.heap.size, 0, none⟩) 1 1) size_row hxl rfl rfl rfl rfl hln ?_; intro w10 hx10 hg10 hs10; refine hold ?_)
   refine hide ?_
   have ub2 := (ub2.below al).kept hg10 hxl
   have ub3 := (ub3.below al).kept hg10 hxl
   have ub4 := (ub4.below al).kept hg10 hxl
   have ub5 := ub5.kept hg10 hxl
   have r010 := (r09.below al).kept hg10 hxl
   have r110 := (r19.below al).kept hg10 hxl
   have hz10 := (hz9.under al).grown hg10 hg01
   have hbw10 := (hbw9.trans (al.mono hbw9.size)).grown hg10 (by have := hbw9.size; have := al.size; omega) (fun q hq => by cases hq; exact hg1w)
   obtain ⟨s5, hs5⟩ : ∃ s : Value, s = .slice (some ⟨w9.heap.size, 0, none⟩) 1 1 := ⟨_, rfl⟩
   rw [← hs5] at ub5 hx10 ⊢
   have hx10 : Box w10 g1 29 [.slice a5 L0 c5, v1, s2, s3, s4, s5, .slice none 0 0] := hx10
   clear hs5 al hxl hln hg10 hs10 hx9 r09 r19 hz9 hbw9
   have al := blo w10 (.cells #[.int .u8 63] 5)
   have ub6 : UB (w10.alloc (.cells #[.int .u8 63] 5)) (.slice (some ⟨w10.heap.size, 0, none⟩) 1 1) [63] := UB.new w10 [63] 1 rfl (by decide)
   have hxl := hx10.alloc (.cells #[.int .u8 63] 5)
   have hln : 6 < ([.slice a5 L0 c5, v1, s2, s3, s4, s5, .slice none 0 0] : List Value).length := by simp
   go_wp2_with (with_reducible refine store_cell 23 _ _ 29 g1 6 [.slice a5 L0 c5, v1, s2, s3, s4, s5, .slice none 0 0] (.slice (some ⟨w10.heap.size, 0, none⟩) 1 1) size_row hxl rfl rfl rfl rfl hln ?_; intro w11 hx11 hg11 hs11; refine hold ?_)
   refine hide ?_
   have ub2 := (ub2.below al).kept hg11 hxl
   have ub3 := (ub3.below al).kept hg11 hxl
   have ub4 := (ub4.below al).kept hg11 hxl
   have ub5 := (ub5.below al).kept hg11 hxl
   have ub6 := ub6.kept hg11 hxl
   have r011 := (r010.below al).kept hg11 hxl
   have r111 := (r110.below al).kept hg11 hxl
   have hz11 := (hz10.under al).grown hg11 hg01
   have hbw11 := (hbw10.trans (al.mono hbw10.size)).grown hg11 (by have := hbw10.size; have := al.size; omega) (fun q hq => by cases hq; exact hg1w)
   obtain ⟨s6, hs6⟩ : ∃ s : Value, s = .slice (some ⟨w10.heap.size, 0, none⟩) 1 1 := ⟨_, rfl⟩
   rw [← hs6] at ub6 hx11 ⊢
   have hx11 : Box w11 g1 29 [.slice a5 L0 c5, v1, s2, s3, s4, s5, s6] := hx11
   clear hs6 al hxl hln hg11 hs11 hx10 r010 r110 hz10 hbw10
   obtain ⟨x1, y1, p1, rfl, hR1, hp1⟩ := r111
   obtain ⟨x0, y0, p0, hv0, hR0, hp0⟩ := r011
   injection hv0 with e1 e2 e3
   subst e1; subst e2; subst e3
   obtain ⟨x2, n2, y2, rfl, ho2⟩ := ub2
   obtain ⟨x3, n3, y3, rfl, ho3⟩ := ub3
   obtain ⟨x4, n4, y4, rfl, ho4⟩ := ub4
   obtain ⟨x5, n5, y5, rfl, ho5⟩ := ub5
   obtain ⟨x6, n6, y6, rfl, ho6⟩ := ub6
   have q0 : w11.cell? ⟨g1, 0, none⟩ = some (.slice a5 p0.length c5) := hx11.at_ rfl
   have q1 : w11.cell? ⟨g1, 1, none⟩ = some (.slice x1 p1.length y1) := hx11.at_ rfl
   have q2 : w11.cell? ⟨g1, 2, none⟩ = some (.slice x2 n2 y2) := hx11.at_ rfl
   have q3 : w11.cell? ⟨g1, 3, none⟩ = some (.slice x3 n3 y3) := hx11.at_ rfl
   have q4 : w11.cell? ⟨g1, 4, none⟩ = some (.slice x4 n4 y4) := hx11.at_ rfl
   have q5 : w11.cell? ⟨g1, 5, none⟩ = some (.slice x5 n5 y5) := hx11.at_ rfl
   have q6 : w11.cell? ⟨g1, 6, none⟩ = some (.slice x6 n6 y6) := hx11.at_ rfl
   have hone : ∀ u ∈ ([.slice a5 p0.length c5, .slice x1 p1.length y1, .slice x2 n2 y2, .slice x3 n3 y3, .slice x4 n4 y4, .slice x5 n5 y5, .slice x6 n6 y6] : List Value), u.oneCell' = true := by simp [Value.oneCell']
   go_wp2_with (with_reducible refine store_all 29 _ _ 29 w.heap.size [.slice none 0 0, .slice none 0 0, .slice none 0 0, .slice none 0 0, .slice none 0 0, .slice none 0 0, .slice none 0 0] [.slice a5 p0.length c5, .slice x1 p1.length y1, .slice x2 n2 y2, .slice x3 n3 y3, .slice x4 n4 y4, .slice x5 n5 y5, .slice x6 n6 y6] _ (size7 _ _ _ _ _ _ _) hz11 rfl rfl rfl (Eq.refl 7) hone ?_; intro w12 hx12 hg12 hs12)
   have hbw12 := hbw11.grown hg12 hbw11.size (fun q hq => by cases hq; exact Nat.le_refl _)
   have hR0' := (hR0.kept hg12 hz11 (by decide) (by decide)).rul
   have hR1' := (hR1.kept hg12 hz11 (by decide) (by decide)).rul
   have ho2b := (UB.kept ⟨x2, n2, y2, rfl, ho2⟩ hg12 hz11)
   obtain ⟨_, _, _, hh2, ho2c⟩ := ho2b
   injection hh2 with e1 e2 e3
   subst e1; subst e2; subst e3
   have ho3b := (UB.kept ⟨x3, n3, y3, rfl, ho3⟩ hg12 hz11)
   obtain ⟨_, _, _, hh3, ho3c⟩ := ho3b
   injection hh3 with e1 e2 e3
   subst e1; subst e2; subst e3
   have ho4b := (UB.kept ⟨x4, n4, y4, rfl, ho4⟩ hg12 hz11)
   obtain ⟨_, _, _, hh4, ho4c⟩ := ho4b
   injection hh4 with e1 e2 e3
   subst e1; subst e2; subst e3
   have ho5b := (UB.kept ⟨x5, n5, y5, rfl, ho5⟩ hg12 hz11)
   obtain ⟨_, _, _, hh5, ho5c⟩ := ho5b
   injection hh5 with e1 e2 e3
   subst e1; subst e2; subst e3
   have ho6b := (UB.kept ⟨x6, n6, y6, rfl, ho6⟩ hg12 hz11)
   obtain ⟨_, _, _, hh6, ho6c⟩ := ho6b
   injection hh6 with e1 e2 e3
   subst e1; subst e2; subst e3
   refine bodyPost_ret (run_results_cell rfl rfl agg_tables (size7 _ _ _ _ _ _ _) hx12) rfl ⟨⟨(a5, p0.length, c5), (x1, p1.length, y1), p0, p1, (x2, n2, y2), (x3, n3, y3), (x4, n4, y4), (x5, n5, y5), (x6, n6, y6)⟩, rfl, ⟨hR0', hR1', hp0, hp1, ho2c.sl, ho3c.sl, ho4c.sl, ho5c.sl, ho6c.sl⟩, hbw12⟩
end Go.Proofs.YtfagjaabladgpaaDoor
end

section
/- Chapter 06: the section's examples hold. -/
namespace Go.Dx
open Go.RowKit
def FTx (l : List Sy) (vs : List Value) (w : World) : Prop := ∃ a n c, vs = [.slice a n c] ∧ Sl w 2 a n c (l.flatMap sc)
def FSt (L : List Stp) (vs : List Value) (w : World) : Prop := ∃ a n c ps, vs = [.slice a n c] ∧ Stl w a n c ps L
def FIn (l : List Int) (vs : List Value) (w : World) : Prop := ∃ a n c, vs = [.slice a n c] ∧ Sl w 1 a n c (l.map I64)
def FBy (l : List UInt8) (vs : List Value) (w : World) : Prop := ∃ a n c, vs = [.slice a n c] ∧ Sl w 1 a n c (l.map B8)
def FBB (l : List (List UInt8)) (vs : List Value) (w : World) : Prop := ∃ a n c hs, vs = [.slice a n c] ∧ BB w a n c hs l
theorem FTx.below {l : List Sy} {vs : List Value} {w w' : World} (h : FTx l vs w) (hb : Below w.heap.size w w') : FTx l vs w' := by obtain ⟨a, n, c, h1, h2⟩ := h; exact ⟨a, n, c, h1, h2.below hb⟩
theorem FSt.below {l : List Stp} {vs : List Value} {w w' : World} (h : FSt l vs w) (hb : Below w.heap.size w w') : FSt l vs w' := by obtain ⟨a, n, c, ps, h1, h2⟩ := h; exact ⟨a, n, c, ps, h1, h2.below hb⟩
theorem FIn.below {l : List Int} {vs : List Value} {w w' : World} (h : FIn l vs w) (hb : Below w.heap.size w w') : FIn l vs w' := by obtain ⟨a, n, c, h1, h2⟩ := h; exact ⟨a, n, c, h1, h2.below hb⟩
theorem FBy.below {l : List UInt8} {vs : List Value} {w w' : World} (h : FBy l vs w) (hb : Below w.heap.size w w') : FBy l vs w' := by obtain ⟨a, n, c, h1, h2⟩ := h; exact ⟨a, n, c, h1, h2.below hb⟩
theorem FBB.below {l : List (List UInt8)} {vs : List Value} {w w' : World} (h : FBB l vs w) (hb : Below w.heap.size w w') : FBB l vs w' := by obtain ⟨a, n, c, hs, h1, h2⟩ := h; exact ⟨a, n, c, hs, h1, h2.below hb⟩
theorem bb1 {w : World} {a : Option Addr} {n c : Nat} {x : Option Addr × Nat × Nat} {r : List UInt8} (ht : Sl w 1 a n c ([x].map hdv)) (h1 : Sl w 1 x.1 x.2.1 x.2.2 (r.map B8)) : BB w a n c [x] [r] :=
 ⟨ht, rfl, fun i h q hi hq => by
  match i with
  | 0 => simp at hi hq; subst hi hq; exact h1
  | i + 1 => simp at hi⟩
theorem bb2 {w : World} {a : Option Addr} {n c : Nat} {x y : Option Addr × Nat × Nat} {r s : List UInt8} (ht : Sl w 1 a n c ([x, y].map hdv)) (h1 : Sl w 1 x.1 x.2.1 x.2.2 (r.map B8)) (h2 : Sl w 1 y.1 y.2.1 y.2.2 (s.map B8)) : BB w a n c [x, y] [r, s] :=
 ⟨ht, rfl, fun i h q hi hq => by
  match i with
  | 0 => simp at hi hq; subst hi hq; exact h1
  | 1 => simp at hi hq; subst hi hq; exact h2
  | i + 2 => simp at hi⟩
theorem bb3 {w : World} {a : Option Addr} {n c : Nat} {x y z : Option Addr × Nat × Nat} {r s t : List UInt8} (ht : Sl w 1 a n c ([x, y, z].map hdv)) (h1 : Sl w 1 x.1 x.2.1 x.2.2 (r.map B8)) (h2 : Sl w 1 y.1 y.2.1 y.2.2 (s.map B8)) (h3 : Sl w 1 z.1 z.2.1 z.2.2 (t.map B8)) : BB w a n c [x, y, z] [r, s, t] :=
 ⟨ht, rfl, fun i h q hi hq => by
  match i with
  | 0 => simp at hi hq; subst hi hq; exact h1
  | 1 => simp at hi hq; subst hi hq; exact h2
  | 2 => simp at hi hq; subst hi hq; exact h3
  | i + 3 => simp at hi⟩
theorem lens_of {L : List Stp} {R : List (Int × List UInt8)} {lens : List Int} (h : L.map (fun s => (s.len, s.cells)) = R) (h2 : R.map (·.1) = lens) : L.map (·.len) = lens := by
 rw [← h2, ← h, List.map_map]; rfl
theorem rows_of {L : List Stp} {R : List (Int × List UInt8)} {rows : List (List UInt8)} (h : L.map (fun s => (s.len, s.cells)) = R) (h2 : R.map (·.2) = rows) : L.map (·.cells) = rows := by
 rw [← h2, ← h, List.map_map]; rfl
def scells (s : St) : List Value := [.int .i64 s.lang, .bool s.num, .bool s.wrd]
end Go.Dx
namespace Go.Proofs.YtfagjaabladgpaaDoor
open Go.RowKit Go.Dx
theorem size_state : (Tryd.prog.info? 54).map (·.size) = some 3 := by kernel_rfl
theorem steps_at (H : TH) (s : St) (l : List Sy) (i : Int) {L : List Stp} (hL : Hid (stepsL exTa s l i = L)) (a : Option Addr) (n c : Nat) (hll : l.length ≤ 1000000) (w : World) (hT : TaIs w H exTa) (hs : Sl w 2 a n c (l.flatMap sc)) :
  Calls Tryd.prog 19 #[H.v, sv s, .slice a n c, .int .i64 i] w (StepsR L w) := by
 have := tab_Steps H exTa s l a n c i hll w hT hs
 rw [hL.out] at this
 exact this
theorem valid_at (H : TH) (w : World) (hT : TaIs w H exTa) : Calls Tryd.prog 39 #[H.v] w fun e w' => e = .returned (.int .i64 0) ∧ Below w.heap.size w w' := by
 have := tab_Valid H exTa w hT
 rw [ex_valid] at this
 exact this

set_option maxRecDepth 100000 in
set_option maxHeartbeats 8000000 in
theorem law06_lives (w : World) : Calls Tryd.prog 20 #[] w fun e w' => e = .returned (.bool true) ∧ Below w.heap.size w w' := by
 obtain ⟨L1, HS1⟩ : ∃ L, Hid (stepsL exTa exSt (symsOf ⟨#[65, 110]⟩) 0 = L) := ⟨_, hide rfl⟩
 have HE1 := hide ex_1
 rw [HS1.out] at HE1
 obtain ⟨L2, HS2⟩ : ∃ L, Hid (stepsL exTa exSt (symsOf ⟨#[98, 97, 110]⟩) 1 = L) := ⟨_, hide rfl⟩
 have HE2 := hide ex_2
 rw [HS2.out] at HE2
 obtain ⟨L3, HS3⟩ : ∃ L, Hid (stepsL exTa exSt (symsOf ⟨#[98, 97, 110]⟩) 2 = L) := ⟨_, hide rfl⟩
 have HE3 := hide ex_3
 rw [HS3.out] at HE3
 obtain ⟨L4, HS4⟩ : ∃ L, Hid (stepsL exTa exSt (symsOf ⟨#[55, 46]⟩) 0 = L) := ⟨_, hide rfl⟩
 have HE4 := hide ex_4
 rw [HS4.out] at HE4
 obtain ⟨L5, HS5⟩ : ∃ L, Hid (stepsL exTa exNum (symsOf ⟨#[55, 97]⟩) 1 = L) := ⟨_, hide rfl⟩
 have HE5 := hide ex_5
 rw [HS5.out] at HE5
 obtain ⟨L6, HS6⟩ : ∃ L, Hid (stepsL exTa exNum (symsOf ⟨#[55, 46]⟩) 1 = L) := ⟨_, hide rfl⟩
 have HE6 := hide ex_6
 rw [HS6.out] at HE6
 obtain ⟨L7, HS7⟩ : ∃ L, Hid (stepsL exTa exSt [⟨1, 97⟩] 0 = L) := ⟨_, hide rfl⟩
 have HE7 := hide ex_7
 rw [HS7.out] at HE7
 go_enter Tryd.func20, Tryd.ntmps20
 go_wp2_with fail
 refine (law_example w).mono ?_
 rintro e w1 ⟨H, rfl, hT1, hb1⟩
 have Hm := hide hT1
 clear hT1
 obtain ⟨⟨a0, n0, c0⟩, ⟨a1, n1, c1⟩, ps0, ps1, ⟨ad, nd, cd⟩, ⟨ac, nc, cc⟩, ⟨an, nn, cn⟩, ⟨af, nf, cf⟩, ⟨aw, nw, cw⟩⟩ := H
 unfold TH.v
 simp only [hdv]
 have Y1 := Box.new w1 29 #[.slice a0 n0 c0, .slice a1 n1 c1, .slice ad nd cd, .slice ac nc cc, .slice an nn cn, .slice af nf cf, .slice aw nw cw]
 have Y2 := Box.new (w1.alloc (.cells #[.slice a0 n0 c0, .slice a1 n1 c1, .slice ad nd cd, .slice ac nc cc, .slice an nn cn, .slice af nf cf, .slice aw nw cw] 29)) 54 #[.int .i64 0, .bool false, .bool false]
 have Y3 := Box.new ((w1.alloc (.cells #[.slice a0 n0 c0, .slice a1 n1 c1, .slice ad nd cd, .slice ac nc cc, .slice an nn cn, .slice af nf cf, .slice aw nw cw] 29)).alloc (.cells #[.int .i64 0, .bool false, .bool false] 54)) 54 #[.int .i64 0, .bool true, .bool false]
 have hX1 := (Y1.alloc (.cells #[.int .i64 0, .bool false, .bool false] 54)).alloc (.cells #[.int .i64 0, .bool true, .bool false] 54)
 have hX2 := Y2.alloc (.cells #[.int .i64 0, .bool true, .bool false] 54)
 have hX3 := Y3
 have hbw := (blo w1 (.cells #[.slice a0 n0 c0, .slice a1 n1 c1, .slice ad nd cd, .slice ac nc cc, .slice an nn cn, .slice af nf cf, .slice aw nw cw] 29)).trans (((blo _ (.cells #[.int .i64 0, .bool false, .bool false] 54)).trans ((blo _ (.cells #[.int .i64 0, .bool true, .bool false] 54)).mono (blo _ _).size)).mono (blo _ _).size)
 have z2 : (w1.alloc (.cells #[.slice a0 n0 c0, .slice a1 n1 c1, .slice ad nd cd, .slice ac nc cc, .slice an nn cn, .slice af nf cf, .slice aw nw cw] 29)).heap.size = w1.heap.size + 1 := by simp
 have z3 : ((w1.alloc (.cells #[.slice a0 n0 c0, .slice a1 n1 c1, .slice ad nd cd, .slice ac nc cc, .slice an nn cn, .slice af nf cf, .slice aw nw cw] 29)).alloc (.cells #[.int .i64 0, .bool false, .bool false] 54)).heap.size = w1.heap.size + 1 + 1 := by simp
 rw [z2] at hX2
 rw [z3] at hX3
 clear Y1 Y2 Y3 z2 z3
 go_wp2_with fail
 generalize ((w1.alloc (.cells _ 29)).alloc (.cells _ 54)).alloc (.cells _ 54) = w3 at *
 obtain ⟨H, hH⟩ : ∃ H : TH, H = ⟨(a0, n0, c0), (a1, n1, c1), ps0, ps1, (ad, nd, cd), (ac, nc, cc), (an, nn, cn), (af, nf, cf), (aw, nw, cw)⟩ := ⟨_, rfl⟩
 have hX1 : Box w3 w1.heap.size 29 (tcells H) := by rw [hH]; exact hX1
 have hTa : TaIs w3 H exTa := by rw [hH]; exact Hm.out.below hbw
 have hX2 : Box w3 (w1.heap.size + 1) 54 (scells exSt) := hX2
 have hX3 : Box w3 (w1.heap.size + 1 + 1) 54 (scells exNum) := hX3
 have hB := hb1.trans (hbw.mono hb1.size)
 clear hH Hm hbw hb1
 generalize w1.heap.size = ga at *
 obtain ⟨gb, hg2⟩ : ∃ gb, gb = ga + 1 := ⟨_, rfl⟩
 rw [← hg2] at hX2 hX3 ⊢
 clear hg2
 obtain ⟨gc, hg3⟩ : ∃ gc, gc = gb + 1 := ⟨_, rfl⟩
 rw [← hg3] at hX3 ⊢
 clear hg3
 go_cut [4] from 10 to 30 (fun v w' => v = .bool true ∧ Below w3.heap.size w3 w')
 case first =>
  refine wp_region_free 21 [⟨0, 10, [10], fun vs _ => vs = [H.v]⟩, ⟨1, 11, [11], fun vs _ => vs = [sv exSt]⟩, ⟨2, 12, [12], FTx (symsOf ⟨#[65, 110]⟩)⟩, ⟨3, 13, [13], FSt L1⟩, ⟨4, 14, [14], FIn [1, 2, 2]⟩, ⟨5, 15, [15], FBy [60, 1]⟩, ⟨6, 16, [16], FBy [60, 30]⟩, ⟨7, 17, [17], FBy [60, 31]⟩, ⟨8, 18, [18], FBB [[60, 1], [60, 30], [60, 31]]⟩, ⟨9, 19, [19], fun vs _ => vs = [.bool true]⟩, ⟨10, 20, [20], fun vs _ => vs = [.bool true]⟩, ⟨11, 21, [21], fun vs _ => vs = [H.v]⟩, ⟨12, 22, [22], fun vs _ => vs = [sv exSt]⟩, ⟨13, 23, [23], FTx (symsOf ⟨#[98, 97, 110]⟩)⟩, ⟨14, 24, [24], FSt L2⟩, ⟨15, 25, [25], FIn [1, 2]⟩, ⟨16, 26, [26], FBy [1]⟩, ⟨17, 27, [27], FBy [30]⟩, ⟨18, 28, [28], FBB [[1], [30]]⟩, ⟨19, 29, [29], fun vs _ => vs = [.bool true]⟩, ⟨20, 30, [30], fun vs _ => vs = [.bool true]⟩] (by kernel_rfl) (by kernel_rfl) ?_ ?_ ?_
  ·simp only [All]
   refine ⟨fun _ _ _ _ h => h, fun _ _ _ _ h => h, ?_, ?_, ?_, ?_, ?_, ?_, ?_, fun _ _ _ _ h => h, fun _ _ _ _ h => h, fun _ _ _ _ h => h, fun _ _ _ _ h => h, ?_, ?_, ?_, ?_, ?_, ?_, fun _ _ _ _ h => h, fun _ _ _ _ h => h, trivial⟩
   ·exact fun _ _ _ hb h => h.below hb
   ·exact fun _ _ _ hb h => h.below hb
   ·exact fun _ _ _ hb h => h.below hb
   ·exact fun _ _ _ hb h => h.below hb
   ·exact fun _ _ _ hb h => h.below hb
   ·exact fun _ _ _ hb h => h.below hb
   ·exact fun _ _ _ hb h => h.below hb
   ·exact fun _ _ _ hb h => h.below hb
   ·exact fun _ _ _ hb h => h.below hb
   ·exact fun _ _ _ hb h => h.below hb
   ·exact fun _ _ _ hb h => h.below hb
   ·exact fun _ _ _ hb h => h.below hb
   ·exact fun _ _ _ hb h => h.below hb
  ·simp only [All]
   refine ⟨?_, ?_, ?_, ?_, ?_, ?_, ?_, ?_, ?_, ?_, ?_, ?_, ?_, ?_, ?_, ?_, ?_, ?_, ?_, ?_, ?_, trivial⟩
   ·intro o ho a' w' hb hfr hdep; obtain rfl := oj ho
    have g1 : a'.tmps[1]?.getD undef = .pointer (some ⟨ga, 0, none⟩) := by simpa using hfr 1 (by kernel_rfl)
    clear ho hfr hdep; refine load_struct 10 29 _ 7 size_tables _ Tryd.underlying29 ⟨ga, 0, none⟩ (by show a'.tmps.getD 1 undef = _; simpa using g1) (tcells H) rfl (fun j u hj => by rw [Addr.add_lit, Nat.zero_add]; exact (hX1.under hb).at_ hj) ?_
    exact ⟨rfl, _, rfl, br, rfl⟩
   ·intro o ho a' w' hb hfr hdep; obtain rfl := oj ho
    have g2 : a'.tmps[2]?.getD undef = .pointer (some ⟨gb, 0, none⟩) := by simpa using hfr 2 (by kernel_rfl)
    clear ho hfr hdep; refine load_struct 11 54 _ 3 size_state _ Tryd.underlying54 ⟨gb, 0, none⟩ (by show a'.tmps.getD 2 undef = _; simpa using g2) (scells exSt) rfl (fun j u hj => by rw [Addr.add_lit, Nat.zero_add]; exact (hX2.under hb).at_ hj) ?_
    exact ⟨rfl, _, rfl, br, rfl⟩
   ·intro o ho a' w' hb hfr hdep; obtain rfl := oj ho
    clear ho hfr hdep; go_wp2_with fail
    refine (law_text ⟨#[65, 110]⟩ (by decide) _).mono ?_
    rintro e w2 ⟨a, c, rfl, h1, h2⟩
    go_wp2_with fail
    exact ⟨rfl, _, rfl, h2, a, _, c, rfl, h1.sl⟩
   ·intro o ho a' w' hb hfr hdep; obtain rfl := oj ho
    have g10 : a'.tmps[10]?.getD undef = H.v := by simpa using hdep 0 _ rfl (by kernel_rfl)
    have g11 : a'.tmps[11]?.getD undef = sv exSt := by simpa using hdep 1 _ rfl (by kernel_rfl)
    obtain ⟨aX, nX, cX, g12, hsX⟩ := hdep 2 _ rfl (by kernel_rfl)
    replace g12 : a'.tmps[12]?.getD undef = .slice aX nX cX := by simpa using g12
    clear ho hfr hdep; go_wp2_with fail
    refine (steps_at H exSt (symsOf ⟨#[65, 110]⟩) 0 HS1 aX nX cX (by decide) _ (hTa.below hb) hsX).mono ?_
    rintro e w2 ⟨a, c, ps, rfl, h1, h2⟩
    go_wp2_with fail
    exact ⟨rfl, _, rfl, h2, a, _, c, ps, rfl, h1⟩
   ·intro o ho a' w' hb hfr hdep; obtain rfl := oj ho
    clear ho hfr hdep; go_wp2_with fail
    exact ⟨rfl, _, rfl, blo _ _, _, _, _, rfl, Sl.fresh _ _ 1 3 (([1, 2, 2] : List Int).map I64) rfl (by decide)⟩
   ·intro o ho a' w' hb hfr hdep; obtain rfl := oj ho
    clear ho hfr hdep; go_wp2_with fail
    exact ⟨rfl, _, rfl, blo _ _, _, _, _, rfl, Sl.fresh _ _ 1 2 (([60, 1] : List UInt8).map B8) rfl (by decide)⟩
   ·intro o ho a' w' hb hfr hdep; obtain rfl := oj ho
    clear ho hfr hdep; go_wp2_with fail
    exact ⟨rfl, _, rfl, blo _ _, _, _, _, rfl, Sl.fresh _ _ 1 2 (([60, 30] : List UInt8).map B8) rfl (by decide)⟩
   ·intro o ho a' w' hb hfr hdep; obtain rfl := oj ho
    clear ho hfr hdep; go_wp2_with fail
    exact ⟨rfl, _, rfl, blo _ _, _, _, _, rfl, Sl.fresh _ _ 1 2 (([60, 31] : List UInt8).map B8) rfl (by decide)⟩
   ·intro o ho a' w' hb hfr hdep; obtain rfl := oj ho
    obtain ⟨a10, n10, c10, g15, hs10⟩ := hdep 5 _ rfl (by kernel_rfl)
    replace g15 : a'.tmps[15]?.getD undef = .slice a10 n10 c10 := by simpa using g15
    obtain ⟨a11, n11, c11, g16, hs11⟩ := hdep 6 _ rfl (by kernel_rfl)
    replace g16 : a'.tmps[16]?.getD undef = .slice a11 n11 c11 := by simpa using g16
    obtain ⟨a12, n12, c12, g17, hs12⟩ := hdep 7 _ rfl (by kernel_rfl)
    replace g17 : a'.tmps[17]?.getD undef = .slice a12 n12 c12 := by simpa using g17
    clear ho hfr hdep; go_wp2_with fail
    exact ⟨rfl, _, rfl, blo _ _, _, _, _, [(a10, n10, c10), (a11, n11, c11), (a12, n12, c12)], rfl, bb3 (Sl.fresh _ _ 1 3 ([(a10, n10, c10), (a11, n11, c11), (a12, n12, c12)].map hdv) rfl (by decide)) (hs10.below (blo _ _)) (hs11.below (blo _ _)) (hs12.below (blo _ _))⟩
   ·intro o ho a' w' hb hfr hdep; obtain rfl := oj ho
    obtain ⟨aP, nP, cP, psP, g13, hsP⟩ := hdep 3 _ rfl (by kernel_rfl)
    replace g13 : a'.tmps[13]?.getD undef = .slice aP nP cP := by simpa using g13
    obtain ⟨aI, nI, cI, g14, hsI⟩ := hdep 4 _ rfl (by kernel_rfl)
    replace g14 : a'.tmps[14]?.getD undef = .slice aI nI cI := by simpa using g14
    obtain ⟨aB, nB, cB, hsB', g18, hsB⟩ := hdep 8 _ rfl (by kernel_rfl)
    replace g18 : a'.tmps[18]?.getD undef = .slice aB nB cB := by simpa using g18
    clear ho hfr hdep; go_wp2_with fail
    refine (law_are L1 psP aP nP cP _ aI nI cI _ hsB' aB nB cB _ hsP hsI hsB (lens_of HE1.out rfl) (rows_of HE1.out rfl)).mono ?_
    rintro e w2 ⟨rfl, h2⟩
    go_wp2_with fail
    exact ⟨rfl, _, rfl, h2, rfl⟩
   ·intro o ho a' w' hb hfr hdep; obtain rfl := oj ho
    have g19 : a'.tmps[19]?.getD undef = .bool true := by simpa using hdep 9 _ rfl (by kernel_rfl)
    clear ho hfr hdep; go_wp2_with fail; exact ⟨rfl, _, rfl, br, rfl⟩
   ·intro o ho a' w' hb hfr hdep; obtain rfl := oj ho
    have g1 : a'.tmps[1]?.getD undef = .pointer (some ⟨ga, 0, none⟩) := by simpa using hfr 1 (by kernel_rfl)
    have g20 : a'.tmps[20]?.getD undef = .bool true := by simpa using hdep 10 _ rfl (by kernel_rfl)
    have q20 := opt_bool g20
    clear ho hfr hdep; refine unguard_any (by simp [Region.wanted, yielded, q20]) ?_
    refine load_struct 21 29 _ 7 size_tables _ Tryd.underlying29 ⟨ga, 0, none⟩ (by show a'.tmps.getD 1 undef = _; simpa using g1) (tcells H) rfl (fun j u hj => by rw [Addr.add_lit, Nat.zero_add]; exact (hX1.under hb).at_ hj) ?_
    exact ⟨rfl, _, rfl, br, rfl⟩
   ·intro o ho a' w' hb hfr hdep; obtain rfl := oj ho
    have g2 : a'.tmps[2]?.getD undef = .pointer (some ⟨gb, 0, none⟩) := by simpa using hfr 2 (by kernel_rfl)
    have g20 : a'.tmps[20]?.getD undef = .bool true := by simpa using hdep 10 _ rfl (by kernel_rfl)
    have q20 := opt_bool g20
    clear ho hfr hdep; refine unguard_any (by simp [Region.wanted, yielded, q20]) ?_
    refine load_struct 22 54 _ 3 size_state _ Tryd.underlying54 ⟨gb, 0, none⟩ (by show a'.tmps.getD 2 undef = _; simpa using g2) (scells exSt) rfl (fun j u hj => by rw [Addr.add_lit, Nat.zero_add]; exact (hX2.under hb).at_ hj) ?_
    exact ⟨rfl, _, rfl, br, rfl⟩
   ·intro o ho a' w' hb hfr hdep; obtain rfl := oj ho
    have g20 : a'.tmps[20]?.getD undef = .bool true := by simpa using hdep 10 _ rfl (by kernel_rfl)
    have q20 := opt_bool g20
    clear ho hfr hdep; go_wp2_with fail
    refine (law_text ⟨#[98, 97, 110]⟩ (by decide) _).mono ?_
    rintro e w2 ⟨a, c, rfl, h1, h2⟩
    go_wp2_with fail
    exact ⟨rfl, _, rfl, h2, a, _, c, rfl, h1.sl⟩
   ·intro o ho a' w' hb hfr hdep; obtain rfl := oj ho
    have g21 : a'.tmps[21]?.getD undef = H.v := by simpa using hdep 11 _ rfl (by kernel_rfl)
    have g22 : a'.tmps[22]?.getD undef = sv exSt := by simpa using hdep 12 _ rfl (by kernel_rfl)
    obtain ⟨aX, nX, cX, g23, hsX⟩ := hdep 13 _ rfl (by kernel_rfl)
    replace g23 : a'.tmps[23]?.getD undef = .slice aX nX cX := by simpa using g23
    have g20 : a'.tmps[20]?.getD undef = .bool true := by simpa using hdep 10 _ rfl (by kernel_rfl)
    have q20 := opt_bool g20
    clear ho hfr hdep; go_wp2_with fail
    refine (steps_at H exSt (symsOf ⟨#[98, 97, 110]⟩) 1 HS2 aX nX cX (by decide) _ (hTa.below hb) hsX).mono ?_
    rintro e w2 ⟨a, c, ps, rfl, h1, h2⟩
    go_wp2_with fail
    exact ⟨rfl, _, rfl, h2, a, _, c, ps, rfl, h1⟩
   ·intro o ho a' w' hb hfr hdep; obtain rfl := oj ho
    have g20 : a'.tmps[20]?.getD undef = .bool true := by simpa using hdep 10 _ rfl (by kernel_rfl)
    have q20 := opt_bool g20
    clear ho hfr hdep; go_wp2_with fail
    exact ⟨rfl, _, rfl, blo _ _, _, _, _, rfl, Sl.fresh _ _ 1 2 (([1, 2] : List Int).map I64) rfl (by decide)⟩
   ·intro o ho a' w' hb hfr hdep; obtain rfl := oj ho
    have g20 : a'.tmps[20]?.getD undef = .bool true := by simpa using hdep 10 _ rfl (by kernel_rfl)
    have q20 := opt_bool g20
    clear ho hfr hdep; go_wp2_with fail
    exact ⟨rfl, _, rfl, blo _ _, _, _, _, rfl, Sl.fresh _ _ 1 1 (([1] : List UInt8).map B8) rfl (by decide)⟩
   ·intro o ho a' w' hb hfr hdep; obtain rfl := oj ho
    have g20 : a'.tmps[20]?.getD undef = .bool true := by simpa using hdep 10 _ rfl (by kernel_rfl)
    have q20 := opt_bool g20
    clear ho hfr hdep; go_wp2_with fail
    exact ⟨rfl, _, rfl, blo _ _, _, _, _, rfl, Sl.fresh _ _ 1 1 (([30] : List UInt8).map B8) rfl (by decide)⟩
   ·intro o ho a' w' hb hfr hdep; obtain rfl := oj ho
    obtain ⟨a10, n10, c10, g26, hs10⟩ := hdep 16 _ rfl (by kernel_rfl)
    replace g26 : a'.tmps[26]?.getD undef = .slice a10 n10 c10 := by simpa using g26
    obtain ⟨a11, n11, c11, g27, hs11⟩ := hdep 17 _ rfl (by kernel_rfl)
    replace g27 : a'.tmps[27]?.getD undef = .slice a11 n11 c11 := by simpa using g27
    have g20 : a'.tmps[20]?.getD undef = .bool true := by simpa using hdep 10 _ rfl (by kernel_rfl)
    have q20 := opt_bool g20
    clear ho hfr hdep; go_wp2_with fail
    exact ⟨rfl, _, rfl, blo _ _, _, _, _, [(a10, n10, c10), (a11, n11, c11)], rfl, bb2 (Sl.fresh _ _ 1 2 ([(a10, n10, c10), (a11, n11, c11)].map hdv) rfl (by decide)) (hs10.below (blo _ _)) (hs11.below (blo _ _))⟩
   ·intro o ho a' w' hb hfr hdep; obtain rfl := oj ho
    obtain ⟨aP, nP, cP, psP, g24, hsP⟩ := hdep 14 _ rfl (by kernel_rfl)
    replace g24 : a'.tmps[24]?.getD undef = .slice aP nP cP := by simpa using g24
    obtain ⟨aI, nI, cI, g25, hsI⟩ := hdep 15 _ rfl (by kernel_rfl)
    replace g25 : a'.tmps[25]?.getD undef = .slice aI nI cI := by simpa using g25
    obtain ⟨aB, nB, cB, hsB', g28, hsB⟩ := hdep 18 _ rfl (by kernel_rfl)
    replace g28 : a'.tmps[28]?.getD undef = .slice aB nB cB := by simpa using g28
    have g20 : a'.tmps[20]?.getD undef = .bool true := by simpa using hdep 10 _ rfl (by kernel_rfl)
    have q20 := opt_bool g20
    clear ho hfr hdep; go_wp2_with fail
    refine (law_are L2 psP aP nP cP _ aI nI cI _ hsB' aB nB cB _ hsP hsI hsB (lens_of HE2.out rfl) (rows_of HE2.out rfl)).mono ?_
    rintro e w2 ⟨rfl, h2⟩
    go_wp2_with fail
    exact ⟨rfl, _, rfl, h2, rfl⟩
   ·intro o ho a' w' hb hfr hdep; obtain rfl := oj ho
    have g20 : a'.tmps[20]?.getD undef = .bool true := by simpa using hdep 10 _ rfl (by kernel_rfl)
    have g29 : a'.tmps[29]?.getD undef = .bool true := by simpa using hdep 19 _ rfl (by kernel_rfl)
    clear ho hfr hdep; go_wp2_with fail; exact ⟨rfl, _, rfl, br, rfl⟩
  ·intro g w9 hb9 hp9
   have p30 := hp9 20 _ rfl
   clear hp9
   simp at p30
   simp only [List.drop_succ_cons, List.drop_zero, List.map_cons, List.map_nil, putAll, Act.put, List.setIfInBounds_toArray, List.set_cons_succ, List.set_cons_zero, p30]
   clear p30
   go_wp2_with fail
   go_meet
   exact ⟨rfl, hb9⟩
 case rest =>
 obtain ⟨rfl, hb4⟩ := hcut
 have hTa := hTa.below hb4
 have hX1 := hX1.under hb4
 have hX2 := hX2.under hb4
 have hX3 := hX3.under hb4
 have hB := hB.trans (hb4.mono hB.size)
 clear hb4
 obtain ⟨w4, rfl⟩ : ∃ w4 : World, w4 = wc := ⟨_, rfl⟩
 go_wp2_with fail
 go_cut [5] from 31 to 49 (fun v w' => v = .bool true ∧ Below w4.heap.size w4 w')
 case first =>
  refine wp_region_free 19 [⟨0, 31, [31], fun vs _ => vs = [H.v]⟩, ⟨1, 32, [32], fun vs _ => vs = [sv exSt]⟩, ⟨2, 33, [33], FTx (symsOf ⟨#[98, 97, 110]⟩)⟩, ⟨3, 34, [34], FSt L3⟩, ⟨4, 35, [35], FIn [1, 1]⟩, ⟨5, 36, [36], FBy [14]⟩, ⟨6, 37, [37], FBy [32]⟩, ⟨7, 38, [38], FBB [[14], [32]]⟩, ⟨8, 39, [39], fun vs _ => vs = [.bool true]⟩, ⟨9, 40, [40], fun vs _ => vs = [.bool true]⟩, ⟨10, 41, [41], fun vs _ => vs = [H.v]⟩, ⟨11, 42, [42], fun vs _ => vs = [sv exSt]⟩, ⟨12, 43, [43], FTx (symsOf ⟨#[55, 46]⟩)⟩, ⟨13, 44, [44], FSt L4⟩, ⟨14, 45, [45], FIn [1]⟩, ⟨15, 46, [46], FBy [61, 48]⟩, ⟨16, 47, [47], FBB [[61, 48]]⟩, ⟨17, 48, [48], fun vs _ => vs = [.bool true]⟩, ⟨18, 49, [49], fun vs _ => vs = [.bool true]⟩] (by kernel_rfl) (by kernel_rfl) ?_ ?_ ?_
  ·simp only [All]
   refine ⟨fun _ _ _ _ h => h, fun _ _ _ _ h => h, ?_, ?_, ?_, ?_, ?_, ?_, fun _ _ _ _ h => h, fun _ _ _ _ h => h, fun _ _ _ _ h => h, fun _ _ _ _ h => h, ?_, ?_, ?_, ?_, ?_, fun _ _ _ _ h => h, fun _ _ _ _ h => h, trivial⟩
   ·exact fun _ _ _ hb h => h.below hb
   ·exact fun _ _ _ hb h => h.below hb
   ·exact fun _ _ _ hb h => h.below hb
   ·exact fun _ _ _ hb h => h.below hb
   ·exact fun _ _ _ hb h => h.below hb
   ·exact fun _ _ _ hb h => h.below hb
   ·exact fun _ _ _ hb h => h.below hb
   ·exact fun _ _ _ hb h => h.below hb
   ·exact fun _ _ _ hb h => h.below hb
   ·exact fun _ _ _ hb h => h.below hb
   ·exact fun _ _ _ hb h => h.below hb
  ·simp only [All]
   refine ⟨?_, ?_, ?_, ?_, ?_, ?_, ?_, ?_, ?_, ?_, ?_, ?_, ?_, ?_, ?_, ?_, ?_, ?_, ?_, trivial⟩
   ·intro o ho a' w' hb hfr hdep; obtain rfl := oj ho
    have g1 : a'.tmps[1]?.getD undef = .pointer (some ⟨ga, 0, none⟩) := by simpa using hfr 1 (by kernel_rfl)
    clear ho hfr hdep; refine load_struct 31 29 _ 7 size_tables _ Tryd.underlying29 ⟨ga, 0, none⟩ (by show a'.tmps.getD 1 undef = _; simpa using g1) (tcells H) rfl (fun j u hj => by rw [Addr.add_lit, Nat.zero_add]; exact (hX1.under hb).at_ hj) ?_
    exact ⟨rfl, _, rfl, br, rfl⟩
   ·intro o ho a' w' hb hfr hdep; obtain rfl := oj ho
    have g2 : a'.tmps[2]?.getD undef = .pointer (some ⟨gb, 0, none⟩) := by simpa using hfr 2 (by kernel_rfl)
    clear ho hfr hdep; refine load_struct 32 54 _ 3 size_state _ Tryd.underlying54 ⟨gb, 0, none⟩ (by show a'.tmps.getD 2 undef = _; simpa using g2) (scells exSt) rfl (fun j u hj => by rw [Addr.add_lit, Nat.zero_add]; exact (hX2.under hb).at_ hj) ?_
    exact ⟨rfl, _, rfl, br, rfl⟩
   ·intro o ho a' w' hb hfr hdep; obtain rfl := oj ho
    clear ho hfr hdep; go_wp2_with fail
    refine (law_text ⟨#[98, 97, 110]⟩ (by decide) _).mono ?_
    rintro e w2 ⟨a, c, rfl, h1, h2⟩
    go_wp2_with fail
    exact ⟨rfl, _, rfl, h2, a, _, c, rfl, h1.sl⟩
   ·intro o ho a' w' hb hfr hdep; obtain rfl := oj ho
    have g31 : a'.tmps[31]?.getD undef = H.v := by simpa using hdep 0 _ rfl (by kernel_rfl)
    have g32 : a'.tmps[32]?.getD undef = sv exSt := by simpa using hdep 1 _ rfl (by kernel_rfl)
    obtain ⟨aX, nX, cX, g33, hsX⟩ := hdep 2 _ rfl (by kernel_rfl)
    replace g33 : a'.tmps[33]?.getD undef = .slice aX nX cX := by simpa using g33
    clear ho hfr hdep; go_wp2_with fail
    refine (steps_at H exSt (symsOf ⟨#[98, 97, 110]⟩) 2 HS3 aX nX cX (by decide) _ (hTa.below hb) hsX).mono ?_
    rintro e w2 ⟨a, c, ps, rfl, h1, h2⟩
    go_wp2_with fail
    exact ⟨rfl, _, rfl, h2, a, _, c, ps, rfl, h1⟩
   ·intro o ho a' w' hb hfr hdep; obtain rfl := oj ho
    clear ho hfr hdep; go_wp2_with fail
    exact ⟨rfl, _, rfl, blo _ _, _, _, _, rfl, Sl.fresh _ _ 1 2 (([1, 1] : List Int).map I64) rfl (by decide)⟩
   ·intro o ho a' w' hb hfr hdep; obtain rfl := oj ho
    clear ho hfr hdep; go_wp2_with fail
    exact ⟨rfl, _, rfl, blo _ _, _, _, _, rfl, Sl.fresh _ _ 1 1 (([14] : List UInt8).map B8) rfl (by decide)⟩
   ·intro o ho a' w' hb hfr hdep; obtain rfl := oj ho
    clear ho hfr hdep; go_wp2_with fail
    exact ⟨rfl, _, rfl, blo _ _, _, _, _, rfl, Sl.fresh _ _ 1 1 (([32] : List UInt8).map B8) rfl (by decide)⟩
   ·intro o ho a' w' hb hfr hdep; obtain rfl := oj ho
    obtain ⟨a10, n10, c10, g36, hs10⟩ := hdep 5 _ rfl (by kernel_rfl)
    replace g36 : a'.tmps[36]?.getD undef = .slice a10 n10 c10 := by simpa using g36
    obtain ⟨a11, n11, c11, g37, hs11⟩ := hdep 6 _ rfl (by kernel_rfl)
    replace g37 : a'.tmps[37]?.getD undef = .slice a11 n11 c11 := by simpa using g37
    clear ho hfr hdep; go_wp2_with fail
    exact ⟨rfl, _, rfl, blo _ _, _, _, _, [(a10, n10, c10), (a11, n11, c11)], rfl, bb2 (Sl.fresh _ _ 1 2 ([(a10, n10, c10), (a11, n11, c11)].map hdv) rfl (by decide)) (hs10.below (blo _ _)) (hs11.below (blo _ _))⟩
   ·intro o ho a' w' hb hfr hdep; obtain rfl := oj ho
    obtain ⟨aP, nP, cP, psP, g34, hsP⟩ := hdep 3 _ rfl (by kernel_rfl)
    replace g34 : a'.tmps[34]?.getD undef = .slice aP nP cP := by simpa using g34
    obtain ⟨aI, nI, cI, g35, hsI⟩ := hdep 4 _ rfl (by kernel_rfl)
    replace g35 : a'.tmps[35]?.getD undef = .slice aI nI cI := by simpa using g35
    obtain ⟨aB, nB, cB, hsB', g38, hsB⟩ := hdep 7 _ rfl (by kernel_rfl)
    replace g38 : a'.tmps[38]?.getD undef = .slice aB nB cB := by simpa using g38
    clear ho hfr hdep; go_wp2_with fail
    refine (law_are L3 psP aP nP cP _ aI nI cI _ hsB' aB nB cB _ hsP hsI hsB (lens_of HE3.out rfl) (rows_of HE3.out rfl)).mono ?_
    rintro e w2 ⟨rfl, h2⟩
    go_wp2_with fail
    exact ⟨rfl, _, rfl, h2, rfl⟩
   ·intro o ho a' w' hb hfr hdep; obtain rfl := oj ho
    have g39 : a'.tmps[39]?.getD undef = .bool true := by simpa using hdep 8 _ rfl (by kernel_rfl)
    clear ho hfr hdep; go_wp2_with fail; exact ⟨rfl, _, rfl, br, rfl⟩
   ·intro o ho a' w' hb hfr hdep; obtain rfl := oj ho
    have g1 : a'.tmps[1]?.getD undef = .pointer (some ⟨ga, 0, none⟩) := by simpa using hfr 1 (by kernel_rfl)
    have g40 : a'.tmps[40]?.getD undef = .bool true := by simpa using hdep 9 _ rfl (by kernel_rfl)
    have q40 := opt_bool g40
    clear ho hfr hdep; refine unguard_any (by simp [Region.wanted, yielded, q40]) ?_
    refine load_struct 41 29 _ 7 size_tables _ Tryd.underlying29 ⟨ga, 0, none⟩ (by show a'.tmps.getD 1 undef = _; simpa using g1) (tcells H) rfl (fun j u hj => by rw [Addr.add_lit, Nat.zero_add]; exact (hX1.under hb).at_ hj) ?_
    exact ⟨rfl, _, rfl, br, rfl⟩
   ·intro o ho a' w' hb hfr hdep; obtain rfl := oj ho
    have g2 : a'.tmps[2]?.getD undef = .pointer (some ⟨gb, 0, none⟩) := by simpa using hfr 2 (by kernel_rfl)
    have g40 : a'.tmps[40]?.getD undef = .bool true := by simpa using hdep 9 _ rfl (by kernel_rfl)
    have q40 := opt_bool g40
    clear ho hfr hdep; refine unguard_any (by simp [Region.wanted, yielded, q40]) ?_
    refine load_struct 42 54 _ 3 size_state _ Tryd.underlying54 ⟨gb, 0, none⟩ (by show a'.tmps.getD 2 undef = _; simpa using g2) (scells exSt) rfl (fun j u hj => by rw [Addr.add_lit, Nat.zero_add]; exact (hX2.under hb).at_ hj) ?_
    exact ⟨rfl, _, rfl, br, rfl⟩
   ·intro o ho a' w' hb hfr hdep; obtain rfl := oj ho
    have g40 : a'.tmps[40]?.getD undef = .bool true := by simpa using hdep 9 _ rfl (by kernel_rfl)
    have q40 := opt_bool g40
    clear ho hfr hdep; go_wp2_with fail
    refine (law_text ⟨#[55, 46]⟩ (by decide) _).mono ?_
    rintro e w2 ⟨a, c, rfl, h1, h2⟩
    go_wp2_with fail
    exact ⟨rfl, _, rfl, h2, a, _, c, rfl, h1.sl⟩
   ·intro o ho a' w' hb hfr hdep; obtain rfl := oj ho
    have g41 : a'.tmps[41]?.getD undef = H.v := by simpa using hdep 10 _ rfl (by kernel_rfl)
    have g42 : a'.tmps[42]?.getD undef = sv exSt := by simpa using hdep 11 _ rfl (by kernel_rfl)
    obtain ⟨aX, nX, cX, g43, hsX⟩ := hdep 12 _ rfl (by kernel_rfl)
    replace g43 : a'.tmps[43]?.getD undef = .slice aX nX cX := by simpa using g43
    have g40 : a'.tmps[40]?.getD undef = .bool true := by simpa using hdep 9 _ rfl (by kernel_rfl)
    have q40 := opt_bool g40
    clear ho hfr hdep; go_wp2_with fail
    refine (steps_at H exSt (symsOf ⟨#[55, 46]⟩) 0 HS4 aX nX cX (by decide) _ (hTa.below hb) hsX).mono ?_
    rintro e w2 ⟨a, c, ps, rfl, h1, h2⟩
    go_wp2_with fail
    exact ⟨rfl, _, rfl, h2, a, _, c, ps, rfl, h1⟩
   ·intro o ho a' w' hb hfr hdep; obtain rfl := oj ho
    have g40 : a'.tmps[40]?.getD undef = .bool true := by simpa using hdep 9 _ rfl (by kernel_rfl)
    have q40 := opt_bool g40
    clear ho hfr hdep; go_wp2_with fail
    exact ⟨rfl, _, rfl, blo _ _, _, _, _, rfl, Sl.fresh _ _ 1 1 (([1] : List Int).map I64) rfl (by decide)⟩
   ·intro o ho a' w' hb hfr hdep; obtain rfl := oj ho
    have g40 : a'.tmps[40]?.getD undef = .bool true := by simpa using hdep 9 _ rfl (by kernel_rfl)
    have q40 := opt_bool g40
    clear ho hfr hdep; go_wp2_with fail
    exact ⟨rfl, _, rfl, blo _ _, _, _, _, rfl, Sl.fresh _ _ 1 2 (([61, 48] : List UInt8).map B8) rfl (by decide)⟩
   ·intro o ho a' w' hb hfr hdep; obtain rfl := oj ho
    obtain ⟨a10, n10, c10, g46, hs10⟩ := hdep 15 _ rfl (by kernel_rfl)
    replace g46 : a'.tmps[46]?.getD undef = .slice a10 n10 c10 := by simpa using g46
    have g40 : a'.tmps[40]?.getD undef = .bool true := by simpa using hdep 9 _ rfl (by kernel_rfl)
    have q40 := opt_bool g40
    clear ho hfr hdep; go_wp2_with fail
    exact ⟨rfl, _, rfl, blo _ _, _, _, _, [(a10, n10, c10)], rfl, bb1 (Sl.fresh _ _ 1 1 ([(a10, n10, c10)].map hdv) rfl (by decide)) (hs10.below (blo _ _))⟩
   ·intro o ho a' w' hb hfr hdep; obtain rfl := oj ho
    obtain ⟨aP, nP, cP, psP, g44, hsP⟩ := hdep 13 _ rfl (by kernel_rfl)
    replace g44 : a'.tmps[44]?.getD undef = .slice aP nP cP := by simpa using g44
    obtain ⟨aI, nI, cI, g45, hsI⟩ := hdep 14 _ rfl (by kernel_rfl)
    replace g45 : a'.tmps[45]?.getD undef = .slice aI nI cI := by simpa using g45
    obtain ⟨aB, nB, cB, hsB', g47, hsB⟩ := hdep 16 _ rfl (by kernel_rfl)
    replace g47 : a'.tmps[47]?.getD undef = .slice aB nB cB := by simpa using g47
    have g40 : a'.tmps[40]?.getD undef = .bool true := by simpa using hdep 9 _ rfl (by kernel_rfl)
    have q40 := opt_bool g40
    clear ho hfr hdep; go_wp2_with fail
    refine (law_are L4 psP aP nP cP _ aI nI cI _ hsB' aB nB cB _ hsP hsI hsB (lens_of HE4.out rfl) (rows_of HE4.out rfl)).mono ?_
    rintro e w2 ⟨rfl, h2⟩
    go_wp2_with fail
    exact ⟨rfl, _, rfl, h2, rfl⟩
   ·intro o ho a' w' hb hfr hdep; obtain rfl := oj ho
    have g40 : a'.tmps[40]?.getD undef = .bool true := by simpa using hdep 9 _ rfl (by kernel_rfl)
    have g48 : a'.tmps[48]?.getD undef = .bool true := by simpa using hdep 17 _ rfl (by kernel_rfl)
    clear ho hfr hdep; go_wp2_with fail; exact ⟨rfl, _, rfl, br, rfl⟩
  ·intro g w9 hb9 hp9
   have p49 := hp9 18 _ rfl
   clear hp9
   simp at p49
   simp only [List.drop_succ_cons, List.drop_zero, List.map_cons, List.map_nil, putAll, Act.put, List.setIfInBounds_toArray, List.set_cons_succ, List.set_cons_zero, p49]
   clear p49
   go_wp2_with fail
   go_meet
   exact ⟨rfl, hb9⟩
 case rest =>
 obtain ⟨rfl, hb5⟩ := hcut
 obtain ⟨w5, rfl⟩ : ∃ w5 : World, w5 = wc := ⟨_, rfl⟩
 have hTa := hTa.below hb5
 have hX1 := hX1.under hb5
 have hX2 := hX2.under hb5
 have hX3 := hX3.under hb5
 have hB := hB.trans (hb5.mono hB.size)
 clear hb5
 go_wp2_with fail
 go_cut [6] from 50 to 67 (fun v w' => v = .bool true ∧ Below w5.heap.size w5 w')
 case first =>
  refine wp_region_free 18 [⟨0, 50, [50], fun vs _ => vs = [H.v]⟩, ⟨1, 51, [51], fun vs _ => vs = [sv exNum]⟩, ⟨2, 52, [52], FTx (symsOf ⟨#[55, 97]⟩)⟩, ⟨3, 53, [53], FSt L5⟩, ⟨4, 54, [54], FIn [1]⟩, ⟨5, 55, [55], FBy [62, 1]⟩, ⟨6, 56, [56], FBB [[62, 1]]⟩, ⟨7, 57, [57], fun vs _ => vs = [.bool true]⟩, ⟨8, 58, [58], fun vs _ => vs = [.bool true]⟩, ⟨9, 59, [59], fun vs _ => vs = [H.v]⟩, ⟨10, 60, [60], fun vs _ => vs = [sv exNum]⟩, ⟨11, 61, [61], FTx (symsOf ⟨#[55, 46]⟩)⟩, ⟨12, 62, [62], FSt L6⟩, ⟨13, 63, [63], FIn [1]⟩, ⟨14, 64, [64], FBy [33]⟩, ⟨15, 65, [65], FBB [[33]]⟩, ⟨16, 66, [66], fun vs _ => vs = [.bool true]⟩, ⟨17, 67, [67], fun vs _ => vs = [.bool true]⟩] (by kernel_rfl) (by kernel_rfl) ?_ ?_ ?_
  ·simp only [All]
   refine ⟨fun _ _ _ _ h => h, fun _ _ _ _ h => h, ?_, ?_, ?_, ?_, ?_, fun _ _ _ _ h => h, fun _ _ _ _ h => h, fun _ _ _ _ h => h, fun _ _ _ _ h => h, ?_, ?_, ?_, ?_, ?_, fun _ _ _ _ h => h, fun _ _ _ _ h => h, trivial⟩
   ·exact fun _ _ _ hb h => h.below hb
   ·exact fun _ _ _ hb h => h.below hb
   ·exact fun _ _ _ hb h => h.below hb
   ·exact fun _ _ _ hb h => h.below hb
   ·exact fun _ _ _ hb h => h.below hb
   ·exact fun _ _ _ hb h => h.below hb
   ·exact fun _ _ _ hb h => h.below hb
   ·exact fun _ _ _ hb h => h.below hb
   ·exact fun _ _ _ hb h => h.below hb
   ·exact fun _ _ _ hb h => h.below hb
  ·simp only [All]
   refine ⟨?_, ?_, ?_, ?_, ?_, ?_, ?_, ?_, ?_, ?_, ?_, ?_, ?_, ?_, ?_, ?_, ?_, ?_, trivial⟩
   ·intro o ho a' w' hb hfr hdep; obtain rfl := oj ho
    have g1 : a'.tmps[1]?.getD undef = .pointer (some ⟨ga, 0, none⟩) := by simpa using hfr 1 (by kernel_rfl)
    clear ho hfr hdep; refine load_struct 50 29 _ 7 size_tables _ Tryd.underlying29 ⟨ga, 0, none⟩ (by show a'.tmps.getD 1 undef = _; simpa using g1) (tcells H) rfl (fun j u hj => by rw [Addr.add_lit, Nat.zero_add]; exact (hX1.under hb).at_ hj) ?_
    exact ⟨rfl, _, rfl, br, rfl⟩
   ·intro o ho a' w' hb hfr hdep; obtain rfl := oj ho
    have g3 : a'.tmps[3]?.getD undef = .pointer (some ⟨gc, 0, none⟩) := by simpa using hfr 3 (by kernel_rfl)
    clear ho hfr hdep; refine load_struct 51 54 _ 3 size_state _ Tryd.underlying54 ⟨gc, 0, none⟩ (by show a'.tmps.getD 3 undef = _; simpa using g3) (scells exNum) rfl (fun j u hj => by rw [Addr.add_lit, Nat.zero_add]; exact (hX3.under hb).at_ hj) ?_
    exact ⟨rfl, _, rfl, br, rfl⟩
   ·intro o ho a' w' hb hfr hdep; obtain rfl := oj ho
    clear ho hfr hdep; go_wp2_with fail
    refine (law_text ⟨#[55, 97]⟩ (by decide) _).mono ?_
    rintro e w2 ⟨a, c, rfl, h1, h2⟩
    go_wp2_with fail
    exact ⟨rfl, _, rfl, h2, a, _, c, rfl, h1.sl⟩
   ·intro o ho a' w' hb hfr hdep; obtain rfl := oj ho
    have g50 : a'.tmps[50]?.getD undef = H.v := by simpa using hdep 0 _ rfl (by kernel_rfl)
    have g51 : a'.tmps[51]?.getD undef = sv exNum := by simpa using hdep 1 _ rfl (by kernel_rfl)
    obtain ⟨aX, nX, cX, g52, hsX⟩ := hdep 2 _ rfl (by kernel_rfl)
    replace g52 : a'.tmps[52]?.getD undef = .slice aX nX cX := by simpa using g52
    clear ho hfr hdep; go_wp2_with fail
    refine (steps_at H exNum (symsOf ⟨#[55, 97]⟩) 1 HS5 aX nX cX (by decide) _ (hTa.below hb) hsX).mono ?_
    rintro e w2 ⟨a, c, ps, rfl, h1, h2⟩
    go_wp2_with fail
    exact ⟨rfl, _, rfl, h2, a, _, c, ps, rfl, h1⟩
   ·intro o ho a' w' hb hfr hdep; obtain rfl := oj ho
    clear ho hfr hdep; go_wp2_with fail
    exact ⟨rfl, _, rfl, blo _ _, _, _, _, rfl, Sl.fresh _ _ 1 1 (([1] : List Int).map I64) rfl (by decide)⟩
   ·intro o ho a' w' hb hfr hdep; obtain rfl := oj ho
    clear ho hfr hdep; go_wp2_with fail
    exact ⟨rfl, _, rfl, blo _ _, _, _, _, rfl, Sl.fresh _ _ 1 2 (([62, 1] : List UInt8).map B8) rfl (by decide)⟩
   ·intro o ho a' w' hb hfr hdep; obtain rfl := oj ho
    obtain ⟨a10, n10, c10, g55, hs10⟩ := hdep 5 _ rfl (by kernel_rfl)
    replace g55 : a'.tmps[55]?.getD undef = .slice a10 n10 c10 := by simpa using g55
    clear ho hfr hdep; go_wp2_with fail
    exact ⟨rfl, _, rfl, blo _ _, _, _, _, [(a10, n10, c10)], rfl, bb1 (Sl.fresh _ _ 1 1 ([(a10, n10, c10)].map hdv) rfl (by decide)) (hs10.below (blo _ _))⟩
   ·intro o ho a' w' hb hfr hdep; obtain rfl := oj ho
    obtain ⟨aP, nP, cP, psP, g53, hsP⟩ := hdep 3 _ rfl (by kernel_rfl)
    replace g53 : a'.tmps[53]?.getD undef = .slice aP nP cP := by simpa using g53
    obtain ⟨aI, nI, cI, g54, hsI⟩ := hdep 4 _ rfl (by kernel_rfl)
    replace g54 : a'.tmps[54]?.getD undef = .slice aI nI cI := by simpa using g54
    obtain ⟨aB, nB, cB, hsB', g56, hsB⟩ := hdep 6 _ rfl (by kernel_rfl)
    replace g56 : a'.tmps[56]?.getD undef = .slice aB nB cB := by simpa using g56
    clear ho hfr hdep; go_wp2_with fail
    refine (law_are L5 psP aP nP cP _ aI nI cI _ hsB' aB nB cB _ hsP hsI hsB (lens_of HE5.out rfl) (rows_of HE5.out rfl)).mono ?_
    rintro e w2 ⟨rfl, h2⟩
    go_wp2_with fail
    exact ⟨rfl, _, rfl, h2, rfl⟩
   ·intro o ho a' w' hb hfr hdep; obtain rfl := oj ho
    have g57 : a'.tmps[57]?.getD undef = .bool true := by simpa using hdep 7 _ rfl (by kernel_rfl)
    clear ho hfr hdep; go_wp2_with fail; exact ⟨rfl, _, rfl, br, rfl⟩
   ·intro o ho a' w' hb hfr hdep; obtain rfl := oj ho
    have g1 : a'.tmps[1]?.getD undef = .pointer (some ⟨ga, 0, none⟩) := by simpa using hfr 1 (by kernel_rfl)
    have g58 : a'.tmps[58]?.getD undef = .bool true := by simpa using hdep 8 _ rfl (by kernel_rfl)
    have q58 := opt_bool g58
    clear ho hfr hdep; refine unguard_any (by simp [Region.wanted, yielded, q58]) ?_
    refine load_struct 59 29 _ 7 size_tables _ Tryd.underlying29 ⟨ga, 0, none⟩ (by show a'.tmps.getD 1 undef = _; simpa using g1) (tcells H) rfl (fun j u hj => by rw [Addr.add_lit, Nat.zero_add]; exact (hX1.under hb).at_ hj) ?_
    exact ⟨rfl, _, rfl, br, rfl⟩
   ·intro o ho a' w' hb hfr hdep; obtain rfl := oj ho
    have g3 : a'.tmps[3]?.getD undef = .pointer (some ⟨gc, 0, none⟩) := by simpa using hfr 3 (by kernel_rfl)
    have g58 : a'.tmps[58]?.getD undef = .bool true := by simpa using hdep 8 _ rfl (by kernel_rfl)
    have q58 := opt_bool g58
    clear ho hfr hdep; refine unguard_any (by simp [Region.wanted, yielded, q58]) ?_
    refine load_struct 60 54 _ 3 size_state _ Tryd.underlying54 ⟨gc, 0, none⟩ (by show a'.tmps.getD 3 undef = _; simpa using g3) (scells exNum) rfl (fun j u hj => by rw [Addr.add_lit, Nat.zero_add]; exact (hX3.under hb).at_ hj) ?_
    exact ⟨rfl, _, rfl, br, rfl⟩
   ·intro o ho a' w' hb hfr hdep; obtain rfl := oj ho
    have g58 : a'.tmps[58]?.getD undef = .bool true := by simpa using hdep 8 _ rfl (by kernel_rfl)
    have q58 := opt_bool g58
    clear ho hfr hdep; go_wp2_with fail
    refine (law_text ⟨#[55, 46]⟩ (by decide) _).mono ?_
    rintro e w2 ⟨a, c, rfl, h1, h2⟩
    go_wp2_with fail
    exact ⟨rfl, _, rfl, h2, a, _, c, rfl, h1.sl⟩
   ·intro o ho a' w' hb hfr hdep; obtain rfl := oj ho
    have g59 : a'.tmps[59]?.getD undef = H.v := by simpa using hdep 9 _ rfl (by kernel_rfl)
    have g60 : a'.tmps[60]?.getD undef = sv exNum := by simpa using hdep 10 _ rfl (by kernel_rfl)
    obtain ⟨aX, nX, cX, g61, hsX⟩ := hdep 11 _ rfl (by kernel_rfl)
    replace g61 : a'.tmps[61]?.getD undef = .slice aX nX cX := by simpa using g61
    have g58 : a'.tmps[58]?.getD undef = .bool true := by simpa using hdep 8 _ rfl (by kernel_rfl)
    have q58 := opt_bool g58
    clear ho hfr hdep; go_wp2_with fail
    refine (steps_at H exNum (symsOf ⟨#[55, 46]⟩) 1 HS6 aX nX cX (by decide) _ (hTa.below hb) hsX).mono ?_
    rintro e w2 ⟨a, c, ps, rfl, h1, h2⟩
    go_wp2_with fail
    exact ⟨rfl, _, rfl, h2, a, _, c, ps, rfl, h1⟩
   ·intro o ho a' w' hb hfr hdep; obtain rfl := oj ho
    have g58 : a'.tmps[58]?.getD undef = .bool true := by simpa using hdep 8 _ rfl (by kernel_rfl)
    have q58 := opt_bool g58
    clear ho hfr hdep; go_wp2_with fail
    exact ⟨rfl, _, rfl, blo _ _, _, _, _, rfl, Sl.fresh _ _ 1 1 (([1] : List Int).map I64) rfl (by decide)⟩
   ·intro o ho a' w' hb hfr hdep; obtain rfl := oj ho
    have g58 : a'.tmps[58]?.getD undef = .bool true := by simpa using hdep 8 _ rfl (by kernel_rfl)
    have q58 := opt_bool g58
    clear ho hfr hdep; go_wp2_with fail
    exact ⟨rfl, _, rfl, blo _ _, _, _, _, rfl, Sl.fresh _ _ 1 1 (([33] : List UInt8).map B8) rfl (by decide)⟩
   ·intro o ho a' w' hb hfr hdep; obtain rfl := oj ho
    obtain ⟨a10, n10, c10, g64, hs10⟩ := hdep 14 _ rfl (by kernel_rfl)
    replace g64 : a'.tmps[64]?.getD undef = .slice a10 n10 c10 := by simpa using g64
    have g58 : a'.tmps[58]?.getD undef = .bool true := by simpa using hdep 8 _ rfl (by kernel_rfl)
    have q58 := opt_bool g58
    clear ho hfr hdep; go_wp2_with fail
    exact ⟨rfl, _, rfl, blo _ _, _, _, _, [(a10, n10, c10)], rfl, bb1 (Sl.fresh _ _ 1 1 ([(a10, n10, c10)].map hdv) rfl (by decide)) (hs10.below (blo _ _))⟩
   ·intro o ho a' w' hb hfr hdep; obtain rfl := oj ho
    obtain ⟨aP, nP, cP, psP, g62, hsP⟩ := hdep 12 _ rfl (by kernel_rfl)
    replace g62 : a'.tmps[62]?.getD undef = .slice aP nP cP := by simpa using g62
    obtain ⟨aI, nI, cI, g63, hsI⟩ := hdep 13 _ rfl (by kernel_rfl)
    replace g63 : a'.tmps[63]?.getD undef = .slice aI nI cI := by simpa using g63
    obtain ⟨aB, nB, cB, hsB', g65, hsB⟩ := hdep 15 _ rfl (by kernel_rfl)
    replace g65 : a'.tmps[65]?.getD undef = .slice aB nB cB := by simpa using g65
    have g58 : a'.tmps[58]?.getD undef = .bool true := by simpa using hdep 8 _ rfl (by kernel_rfl)
    have q58 := opt_bool g58
    clear ho hfr hdep; go_wp2_with fail
    refine (law_are L6 psP aP nP cP _ aI nI cI _ hsB' aB nB cB _ hsP hsI hsB (lens_of HE6.out rfl) (rows_of HE6.out rfl)).mono ?_
    rintro e w2 ⟨rfl, h2⟩
    go_wp2_with fail
    exact ⟨rfl, _, rfl, h2, rfl⟩
   ·intro o ho a' w' hb hfr hdep; obtain rfl := oj ho
    have g58 : a'.tmps[58]?.getD undef = .bool true := by simpa using hdep 8 _ rfl (by kernel_rfl)
    have g66 : a'.tmps[66]?.getD undef = .bool true := by simpa using hdep 16 _ rfl (by kernel_rfl)
    clear ho hfr hdep; go_wp2_with fail; exact ⟨rfl, _, rfl, br, rfl⟩
  ·intro g w9 hb9 hp9
   have p67 := hp9 17 _ rfl
   clear hp9
   simp at p67
   simp only [List.drop_succ_cons, List.drop_zero, List.map_cons, List.map_nil, putAll, Act.put, List.setIfInBounds_toArray, List.set_cons_succ, List.set_cons_zero, p67]
   clear p67
   go_wp2_with fail
   go_meet
   exact ⟨rfl, hb9⟩
 case rest =>
 obtain ⟨rfl, hb6⟩ := hcut
 obtain ⟨w6, rfl⟩ : ∃ w6 : World, w6 = wc := ⟨_, rfl⟩
 have hTa := hTa.below hb6
 have hX1 := hX1.under hb6
 have hX2 := hX2.under hb6
 have hX3 := hX3.under hb6
 have hB := hB.trans (hb6.mono hB.size)
 clear hb6
 go_wp2_with (with_reducible refine load_struct 68 29 _ 7 size_tables _ Tryd.underlying29 ⟨ga, 0, none⟩ rfl (tcells H) rfl (fun j u hj => by rw [Addr.add_lit, Nat.zero_add]; exact hX1.at_ hj) ?_)
 refine (valid_at H w6 hTa).mono ?_
 rintro e w7 ⟨rfl, hb7⟩
 have hTa := hTa.below hb7
 have hX1 := hX1.under hb7
 have hX2 := hX2.under hb7
 have hB := hB.trans (hb7.mono hB.size)
 go_wp2_with (first
  | (refine unguard (by first | rfl | (simp [Region.wanted, yielded, Act.put]; done)) ?_; refine load_struct 81 29 _ 7 size_tables _ Tryd.underlying29 ⟨ga, 0, none⟩ rfl (tcells H) rfl (fun j u hj => by rw [Addr.add_lit, Nat.zero_add]; exact hX1.at_ hj) ?_)
  | (refine unguard (by first | rfl | (simp [Region.wanted, yielded, Act.put]; done)) ?_; refine load_struct 82 54 _ 3 size_state _ Tryd.underlying54 ⟨gb, 0, none⟩ rfl (scells exSt) rfl (fun j u hj => by rw [Addr.add_lit, Nat.zero_add]; exact hX2.at_ hj) ?_))
 have hSY := Sl.fresh w7 83 2 1 (sc ⟨1, 97⟩) rfl (by decide)
 have hb8 := blo w7 (.cells (sc ⟨1, 97⟩).toArray 83)
 have hSY2 : Sl (w7.alloc (.cells (sc ⟨1, 97⟩).toArray 83)) 2 (some ⟨w7.heap.size, 0, none⟩) 1 1 (([⟨1, 97⟩] : List Sy).flatMap sc) := hSY
 refine (steps_at H exSt [⟨1, 97⟩] 0 HS7 _ _ _ (by decide) _ (hTa.below hb8) hSY2).mono ?_
 rintro e w9 ⟨a9, c9, p9, rfl, hS9, hb9⟩
 clear hSY hSY2
 have hB9 := hB.trans ((hb8.trans (hb9.mono hb8.size)).mono hB.size)
 go_wp2_with fail
 have I1 := Sl.fresh w9 3 1 1 (([0] : List Int).map I64) rfl (by decide)
 have c1 := blo w9 (.cells (([0] : List Int).map I64).toArray 3)
 have I2 := Sl.fresh (w9.alloc (.cells (([0] : List Int).map I64).toArray 3)) 5 1 1 (([63] : List UInt8).map B8) rfl (by decide)
 have c2 := blo (w9.alloc (.cells (([0] : List Int).map I64).toArray 3)) (.cells (([63] : List UInt8).map B8).toArray 5)
 rw [show (w9.alloc (.cells (([0] : List Int).map I64).toArray 3)).heap.size = w9.heap.size + 1 by simp] at I2
 have I3 := Sl.fresh ((w9.alloc (.cells (([0] : List Int).map I64).toArray 3)).alloc (.cells (([63] : List UInt8).map B8).toArray 5)) 23 1 1 ([(some ⟨w9.heap.size + 1, 0, none⟩, 1, 1)].map hdv) rfl (by decide)
 have c3 := blo ((w9.alloc (.cells (([0] : List Int).map I64).toArray 3)).alloc (.cells (([63] : List UInt8).map B8).toArray 5)) (.cells ([((some ⟨w9.heap.size + 1, 0, none⟩ : Option Addr), 1, 1)].map hdv).toArray 23)
 rw [show ((w9.alloc (.cells (([0] : List Int).map I64).toArray 3)).alloc (.cells (([63] : List UInt8).map B8).toArray 5)).heap.size = w9.heap.size + 1 + 1 by simp] at I3
 have c12 := c1.trans (c2.mono c1.size)
 have c13 := c12.trans (c3.mono c12.size)
 refine (law_are L7 p9 a9 _ c9 _ _ _ _ _ _ _ _ _ _ (hS9.below c13) ((I1.below c2).below c3) (bb1 I3 (I2.below c3)) (lens_of HE7.out rfl) (rows_of HE7.out rfl)).mono ?_
 rintro e w10 ⟨rfl, hb10⟩
 have hB10 := hB9.trans ((c13.trans (hb10.mono c13.size)).mono hB9.size)
 go_wp2_with fail
 go_ret
 exact ⟨rfl, hB10⟩
end Go.Proofs.YtfagjaabladgpaaDoor
end

section
/- Chapter 06: table.Digest and the reference's. -/
namespace Go.Proofs.YtfagjaabladgpaaDoor
open Go.RowKit Go.Dx
theorem input_one {t : Int} {s : ByteArray} (h : s.size ≤ 80000000) : (inputL t [s]).length ≤ 90000000 := by
 unfold inputL encBytes
 have h2 := encInt_le (s.data.toList.length : Int)
 have h3 : s.data.toList.length = s.size := Array.length_toList
 simp only [List.flatMap_cons, List.flatMap_nil, List.append_nil, List.length_cons, List.length_append]
 omega
theorem size_alloc_1 (w : World) (o : Obj) : (w.alloc o).heap.size = w.heap.size + 1 := by simp
def digV (l : List UInt8) : Value := .agg (((sha (inputL 8 [S8 l])).take 16).map B8).toArray
theorem build_1s {w : World} {ops : Array Oper} {rest : List Oper} {act : Act} {Q : Exit → Act → World → Prop} {ty : TypeId} {pos : String} {after : Array Edge} (d : Nat) (ps : Array (Nat × Operand)) (us : List Value) (hn : us.length = 1)
  (hf : Instr.fill (fun i => some (i * 1, 1)) ((Array.range (1 * 1)).map ((Value.string ⟨#[]⟩).cells[· % (Value.string ⟨#[]⟩).cells.size]!)) ((ps.map fun (i, x) => (i, act.eval x)).toList) = some us.toArray)
  (hK : ∀ w', Own w' w.heap.size 9 1 (some ⟨w.heap.size, 0, none⟩) 1 1 us → Below w.heap.size w w' → wpList Tryd.prog ops Q rest (act.put (some d) (.slice (some ⟨w.heap.size, 0, none⟩) 1 1)) w') :
  wpList Tryd.prog ops Q ({ dst := some d, op := .buildSlice 57 1 ps, type := ty, pos := pos, after := after, guard := none } :: rest) act w :=
 build_own d 57 1 ps 9 Tryd.underlying57 (.string ⟨#[]⟩) 16 info_str us hn (by decide) (by decide) hf (fun w' h1 h2 _ => hK w' h1 h2)
set_option maxRecDepth 100000 in
set_option maxHeartbeats 2000000 in
theorem tab_Digest (H : TH) (t : Ta) (w : World) (hL : Laid w) (hT : TaE w H t) (hW : WhB t) (hl : (encTa t).length ≤ 80000000) :
  Calls Tryd.prog 9 #[H.v] w fun e w' => e = .returned (digV (encTa t)) ∧ Below w.heap.size w w' := by
 have hEn := hide (fun w' (h : Below w.heap.size w w') => tab_Encode H t w' (hT.below h) hW (by omega))
 have h16 := zero_16
 obtain ⟨Z, hZ⟩ : ∃ Z, Hid (zero16.map B8 = Z) := ⟨_, rfl⟩
 rw [hZ.out] at h16
 have hZl : Z.length = 16 := by rw [← hZ.out]; rfl
 have HZl := hide hZl
 obtain ⟨E0, hE0⟩ : ∃ x, Hid (encTa t = x) := ⟨_, hide rfl⟩
 rw [hE0.out] at hl hEn ⊢
 have hz16 : (Tryd.prog.info? 35).map (·.size) = some (((sha (inputL 8 [S8 E0])).take 16).map B8).length := by rw [List.length_map, List.length_take, sha_len]; exact size_dig'
 have Hz16 := hide hz16
 have hEs : (S8 E0).size ≤ 80000000 := by rw [S8_size]; exact hl
 obtain ⟨SE, hSE⟩ : ∃ s, Hid (S8 E0 = s) := ⟨_, hide rfl⟩
 have hOf := hide (fun (a : Option Addr) (w' : World) (h : Sl w' 1 a 1 1 ([SE].map Value.string)) (hL : Laid w') => of_tot 8 [SE] (by show 1 ≤ 1000; decide) (input_one (by rw [← hSE.out]; exact hEs)) hL h)
 unfold digV
 rw [hSE.out] at Hz16 ⊢
 clear hz16 hZl hW hT hEs
 obtain ⟨⟨a0, n0, c0⟩, ⟨a1, n1, c1⟩, ps0, ps1, ⟨ad, nd, cd⟩, ⟨ac, nc, cc⟩, ⟨an, nn, cn⟩, ⟨af, nf, cf⟩, ⟨aw, nw, cw⟩⟩ := H
 unfold TH.v at hEn ⊢
 simp only [hdv] at hEn ⊢
 have Y1 := Box.new w 29 #[.slice a0 n0 c0, .slice a1 n1 c1, .slice ad nd cd, .slice ac nc cc, .slice an nn cn, .slice af nf cf, .slice aw nw cw]
 have hba := blo w (.cells #[.slice a0 n0 c0, .slice a1 n1 c1, .slice ad nd cd, .slice ac nc cc, .slice an nn cn, .slice af nf cf, .slice aw nw cw] 29)
 go_enter Tryd.func9, Tryd.ntmps9
 go_upto_region 1 with fail
 have Y2 := Y1.alloc (.cells Z.toArray 35)
 have hbb := hba.trans ((blo (w.alloc (.cells #[.slice a0 n0 c0, .slice a1 n1 c1, .slice ad nd cd, .slice ac nc cc, .slice an nn cn, .slice af nf cf, .slice aw nw cw] 29)) (.cells Z.toArray 35)).mono hba.size)
 have z2 := Box.new (w.alloc (.cells #[.slice a0 n0 c0, .slice a1 n1 c1, .slice ad nd cd, .slice ac nc cc, .slice an nn cn, .slice af nf cf, .slice aw nw cw] 29)) 35 Z.toArray
 have ez : (w.alloc (.cells #[.slice a0 n0 c0, .slice a1 n1 c1, .slice ad nd cd, .slice ac nc cc, .slice an nn cn, .slice af nf cf, .slice aw nw cw] 29)).heap.size = w.heap.size + 1 := size_alloc_1 _ _
 rw [ez] at z2
 clear Y1 hba ez h16
 generalize (w.alloc (.cells _ 29)).alloc _ = w2 at *
 obtain ⟨gT, hgT⟩ : ∃ gT, Hid (w.heap.size = gT) := ⟨_, hide rfl⟩
 obtain ⟨gZ, hgZ⟩ : ∃ gZ, Hid (gT + 1 = gZ) := ⟨_, hide rfl⟩
 rw [hgT.out] at Y2 z2 hEn hbb ⊢
 rw [hgZ.out] at z2 ⊢
 have hL2 := hL.below (hgT.out ▸ hbb)
 clear hL
 have hEn2 := hide (hEn.out w2 hbb)
 go_wp2_with (first
  | (with_reducible refine load_struct 3 29 _ 7 size_tables _ Tryd.underlying29 ⟨gT, 0, none⟩ rfl [.slice a0 n0 c0, .slice a1 n1 c1, .slice ad nd cd, .slice ac nc cc, .slice an nn cn, .slice af nf cf, .slice aw nw cw] rfl (fun j u hj => by rw [Addr.add_lit, Nat.zero_add]; exact Y2.at_ hj) ?_)
  | (go_at_call 6; refine hEn2.out.mono ?_; rintro e w3 ⟨a3, c3, rfl, hO3, hb3⟩; refine hold ?_))
 refine hide ?_
 have hs3 := hO3.sl
 have z3 := z2.under hb3
 have hL3 := hL2.below hb3
 have hB2 : gT ≤ w2.heap.size := by rw [← hgT.out]; exact hbb.size
 have hb03 := hbb.trans (hb3.mono hB2)
 clear hEn hEn2 Y2 z2 hL2 hb3 hbb hO3
 have HSE : Hid ((⟨E0.toArray⟩ : ByteArray) = SE) := hide hSE.out
 go_wp2_with (first
  | (with_reducible refine to_str 5 _ a3 E0.length c3 E0 rfl hs3 ?_; rw [HSE.out])
  | (with_reducible refine hold_b6 ?_))
 refine hide ?_
 refine build_1s 6 _ [.string SE] rfl (by simp [Instr.fill, go_sem]) ?_
 intro w4 hO4 hb4
 have hs4 := hO4.sl
 have z4 := z3.under hb4
 have hL4 := hL3.below hb4
 have hB3 : gT ≤ w3.heap.size := by rw [← hgT.out]; exact hb03.size
 have hb04 := hb03.trans (hb4.mono hB3)
 have hOf2 := hide (hOf.out _ w4 hs4 hL4)
 clear hs3 z3 hL3 hb4 hb03 hO4 hOf hL4
 go_wp2_with (go_at_call 11; refine hOf2.out.mono ?_; rintro e w5 ⟨rfl, hb5⟩; refine hold ?_)
 refine hide ?_
 have z5 := z4.under hb5
 have hB4 : gT ≤ w4.heap.size := by rw [← hgT.out]; exact hb04.size
 have hb05 := hb04.trans (hb5.mono hB4)
 clear z4 hb5 hs4 hb04 hOf2
 go_wp2_with (with_reducible refine hold_store ?_)
 refine hide ?_
 refine store_all 35 _ _ 35 gZ Z (((sha (inputL 8 [SE])).take 16).map B8) (.agg (((sha (inputL 8 [SE])).take 16).map B8).toArray) Hz16.out z5 (by rfl) (by rfl) rfl (by rw [List.length_map, List.length_take, sha_len, HZl.out]; rfl) (one_map _ (fun _ => rfl) _) ?_
 intro w9 z9 hg9 hs9
 go_wp2_with fail
 exact bodyPost_ret (run_results_cell rfl rfl isAgg_dig Hz16.out z9) rfl ⟨rfl, by rw [hgT.out]; exact hb05.grown hg9 (by rw [← hgZ.out] at z5; have := z5.lt; omega) (fun k hk => by cases hk; rw [← hgZ.out]; omega)⟩
set_option maxRecDepth 100000 in
set_option maxHeartbeats 2000000 in
theorem ref6_Digest (H : TH) (t : Ta) (w : World) (hL : LaidR w) (hT : TaE w H t) (hW : WhB t) (hl : (encTa t).length ≤ 80000000) :
  Calls Tryd.prog 10 #[H.v] w fun e w' => e = .returned (digV (encTa t)) ∧ Below w.heap.size w w' := by
 have hEn := hide (fun w' (h : Below w.heap.size w w') => ref6_Encode H t w' (hT.below h) hW (by omega))
 have h16 := zero_16
 obtain ⟨Z, hZ⟩ : ∃ Z, Hid (zero16.map B8 = Z) := ⟨_, rfl⟩
 rw [hZ.out] at h16
 have hZl : Z.length = 16 := by rw [← hZ.out]; rfl
 have HZl := hide hZl
 obtain ⟨E0, hE0⟩ : ∃ x, Hid (encTa t = x) := ⟨_, hide rfl⟩
 rw [hE0.out] at hl hEn ⊢
 have hz16 : (Tryd.prog.info? 35).map (·.size) = some (((sha (inputL 8 [S8 E0])).take 16).map B8).length := by rw [List.length_map, List.length_take, sha_len]; exact size_dig'
 have Hz16 := hide hz16
 have hEs : (S8 E0).size ≤ 80000000 := by rw [S8_size]; exact hl
 obtain ⟨SE, hSE⟩ : ∃ s, Hid (S8 E0 = s) := ⟨_, hide rfl⟩
 have hOf := hide (fun (a : Option Addr) (w' : World) (h : Sl w' 1 a 1 1 ([SE].map Value.string)) (hL : LaidR w') => rof_tot 8 [SE] (by show 1 ≤ 1000; decide) (input_one (by rw [← hSE.out]; exact hEs)) hL h)
 unfold digV
 rw [hSE.out] at Hz16 ⊢
 clear hz16 hZl hW hT hEs
 obtain ⟨⟨a0, n0, c0⟩, ⟨a1, n1, c1⟩, ps0, ps1, ⟨ad, nd, cd⟩, ⟨ac, nc, cc⟩, ⟨an, nn, cn⟩, ⟨af, nf, cf⟩, ⟨aw, nw, cw⟩⟩ := H
 unfold TH.v at hEn ⊢
 simp only [hdv] at hEn ⊢
 have Y1 := Box.new w 29 #[.slice a0 n0 c0, .slice a1 n1 c1, .slice ad nd cd, .slice ac nc cc, .slice an nn cn, .slice af nf cf, .slice aw nw cw]
 have hba := blo w (.cells #[.slice a0 n0 c0, .slice a1 n1 c1, .slice ad nd cd, .slice ac nc cc, .slice an nn cn, .slice af nf cf, .slice aw nw cw] 29)
 go_enter Tryd.func10, Tryd.ntmps10
 go_upto_region 1 with fail
 have Y2 := Y1.alloc (.cells Z.toArray 35)
 have hbb := hba.trans ((blo (w.alloc (.cells #[.slice a0 n0 c0, .slice a1 n1 c1, .slice ad nd cd, .slice ac nc cc, .slice an nn cn, .slice af nf cf, .slice aw nw cw] 29)) (.cells Z.toArray 35)).mono hba.size)
 have z2 := Box.new (w.alloc (.cells #[.slice a0 n0 c0, .slice a1 n1 c1, .slice ad nd cd, .slice ac nc cc, .slice an nn cn, .slice af nf cf, .slice aw nw cw] 29)) 35 Z.toArray
 have ez : (w.alloc (.cells #[.slice a0 n0 c0, .slice a1 n1 c1, .slice ad nd cd, .slice ac nc cc, .slice an nn cn, .slice af nf cf, .slice aw nw cw] 29)).heap.size = w.heap.size + 1 := size_alloc_1 _ _
 rw [ez] at z2
 clear Y1 hba ez h16
 generalize (w.alloc (.cells _ 29)).alloc _ = w2 at *
 obtain ⟨gT, hgT⟩ : ∃ gT, Hid (w.heap.size = gT) := ⟨_, hide rfl⟩
 obtain ⟨gZ, hgZ⟩ : ∃ gZ, Hid (gT + 1 = gZ) := ⟨_, hide rfl⟩
 rw [hgT.out] at Y2 z2 hEn hbb ⊢
 rw [hgZ.out] at z2 ⊢
 have hL2 := hL.below (hgT.out ▸ hbb)
 clear hL
 have hEn2 := hide (hEn.out w2 hbb)
 go_wp2_with (first
  | (with_reducible refine load_struct 3 29 _ 7 size_tables _ Tryd.underlying29 ⟨gT, 0, none⟩ rfl [.slice a0 n0 c0, .slice a1 n1 c1, .slice ad nd cd, .slice ac nc cc, .slice an nn cn, .slice af nf cf, .slice aw nw cw] rfl (fun j u hj => by rw [Addr.add_lit, Nat.zero_add]; exact Y2.at_ hj) ?_)
  | (go_at_call 8; refine hEn2.out.mono ?_; rintro e w3 ⟨a3, c3, rfl, hO3, hb3⟩; refine hold ?_))
 refine hide ?_
 have hs3 := hO3.sl
 have z3 := z2.under hb3
 have hL3 := hL2.below hb3
 have hB2 : gT ≤ w2.heap.size := by rw [← hgT.out]; exact hbb.size
 have hb03 := hbb.trans (hb3.mono hB2)
 clear hEn hEn2 Y2 z2 hL2 hb3 hbb hO3
 have HSE : Hid ((⟨E0.toArray⟩ : ByteArray) = SE) := hide hSE.out
 go_wp2_with (first
  | (with_reducible refine to_str 5 _ a3 E0.length c3 E0 rfl hs3 ?_; rw [HSE.out])
  | (with_reducible refine hold_b6 ?_))
 refine hide ?_
 refine build_1s 6 _ [.string SE] rfl (by simp [Instr.fill, go_sem]) ?_
 intro w4 hO4 hb4
 have hs4 := hO4.sl
 have z4 := z3.under hb4
 have hL4 := hL3.below hb4
 have hB3 : gT ≤ w3.heap.size := by rw [← hgT.out]; exact hb03.size
 have hb04 := hb03.trans (hb4.mono hB3)
 have hOf2 := hide (hOf.out _ w4 hs4 hL4)
 clear hs3 z3 hL3 hb4 hb03 hO4 hOf hL4
 go_wp2_with (go_at_call 29; refine hOf2.out.mono ?_; rintro e w5 ⟨rfl, hb5⟩; refine hold ?_)
 refine hide ?_
 have z5 := z4.under hb5
 have hB4 : gT ≤ w4.heap.size := by rw [← hgT.out]; exact hb04.size
 have hb05 := hb04.trans (hb5.mono hB4)
 clear z4 hb5 hs4 hb04 hOf2
 go_wp2_with (with_reducible refine hold_store ?_)
 refine hide ?_
 refine store_all 35 _ _ 35 gZ Z (((sha (inputL 8 [SE])).take 16).map B8) (.agg (((sha (inputL 8 [SE])).take 16).map B8).toArray) Hz16.out z5 (by rfl) (by rfl) rfl (by rw [List.length_map, List.length_take, sha_len, HZl.out]; rfl) (one_map _ (fun _ => rfl) _) ?_
 intro w9 z9 hg9 hs9
 go_wp2_with fail
 exact bodyPost_ret (run_results_cell rfl rfl isAgg_dig Hz16.out z9) rfl ⟨rfl, by rw [hgT.out]; exact hb05.grown hg9 (by rw [← hgZ.out] at z5; have := z5.lt; omega) (fun k hk => by cases hk; rw [← hgZ.out]; omega)⟩
end Go.Proofs.YtfagjaabladgpaaDoor
end

section
namespace Go.Proofs.YtfagjaabladgpaaDoor
open Go.RowKit Go.Dx

end Go.Proofs.YtfagjaabladgpaaDoor
end

section
namespace Go.Proofs.YtfagjaabladgpaaDoor
open Go.RowKit Go.Dx

end Go.Proofs.YtfagjaabladgpaaDoor
end

section
namespace Go.Proofs.YtfagjaabladgpaaDoor
open Go.RowKit Go.Dx

end Go.Proofs.YtfagjaabladgpaaDoor
end

section
namespace Go.Proofs.YtfagjaabladgpaaDoor
open Go.RowKit Go.Dx

end Go.Proofs.YtfagjaabladgpaaDoor
end

section
namespace Go.Proofs.YtfagjaabladgpaaDoor
open Go.RowKit Go.Dx

set_option maxHeartbeats 400000 in
theorem ref_Few (l : List UInt8) (m : Nat) (a : Option Addr) (n c : Nat) (w : World) (hs : Sl w 1 a n c (l.map B8)) (hm : m ≤ 1000000) :
  Calls Tryd.prog 13 #[.slice a n c, .int .i64 m] w (Gives 5 1 (l.take m).length ((l.take m).map B8) w) := by
 obtain rfl := hs.n_eq
 have hcap := Nat.le_trans hs.le hs.cap
 unfold maxLen at hcap
 by_cases h : l.length ≤ m
 ·have HE : Hid (l.take l.length = l.take m) := by show _ = _; rw [List.take_of_length_le h, List.take_length]
  have HL : Hid (l.length = (l.take m).length) := by show _ = _; rw [List.length_take]; omega
  go_enter Tryd.func13, Tryd.ntmps13
  go_wp2_with (first
   | (with_reducible refine cuthi_b 12 _ _ _ _ _ l rfl hs _ _ l.length rfl rfl (by omega) ?_; intro hcut)
   | (at_builtin; refine app_bs rfl _ _ rfl w w.heap.size _ _ _ _ rfl (Own.nil _ _ _ _) _ _ _ (l.take l.length) rfl hcut (by omega) (Nat.le_refl _) (Below.refl _ _) ?_; intro a' c' w' ho' hgr' hb'))
  go_ret
  rw [← HL.out]
  rw [HE.out] at ho'
  refine ⟨a', c', rfl, ?_, hb'⟩
  rw [Nat.zero_add, List.nil_append] at ho'
  exact ho'
 ·have HL : Hid (m = (l.take m).length) := by show _ = _; rw [List.length_take]; omega
  go_enter Tryd.func13, Tryd.ntmps13
  go_wp2_with (first
   | (with_reducible refine cuthi_b 12 _ _ _ _ _ l rfl hs _ _ m rfl rfl (by omega) ?_; intro hcut)
   | (at_builtin; refine app_bs rfl _ _ rfl w w.heap.size _ _ _ _ rfl (Own.nil _ _ _ _) _ _ _ (l.take m) rfl hcut (by omega) (Nat.le_refl _) (Below.refl _ _) ?_; intro a' c' w' ho' hgr' hb'))
  go_ret
  rw [← HL.out]
  refine ⟨a', c', rfl, ?_, hb'⟩
  rw [Nat.zero_add, List.nil_append] at ho'
  exact ho'

end Go.Proofs.YtfagjaabladgpaaDoor
end

section
namespace Go.Proofs.YtfagjaabladgpaaDoor
open Go.RowKit Go.Dx

abbrev Hd := Option Addr × Nat × Nat
def hv (h : Hd) : Value := .slice h.1 h.2.1 h.2.2
section
variable {w : World} {ops : Array Oper} {rest : List Oper} {act : Act} {Q : Exit → Act → World → Prop} {ty : TypeId} {pos : String} {after : Array Edge}
end

end Go.Proofs.YtfagjaabladgpaaDoor
end

section
/- make with a variable length, as a law of the walk that hands on an unnamed world. No program in sight. -/
namespace Go.Dx
open Go.RowKit

section
variable {P : Program} {w : World} {ops : Array Oper} {rest : List Oper} {act : Act} {Q : Exit → Act → World → Prop}
 {ty : TypeId} {pos : String} {after : Array Edge}
end

end Go.Dx
end
