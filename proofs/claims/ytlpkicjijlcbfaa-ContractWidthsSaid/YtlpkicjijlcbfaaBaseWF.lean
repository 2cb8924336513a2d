/- The contracts of the functions that the law reaches, joined into one text. -/
import Derived.Test.YtlpkicjijlcbfaaBaseWE
set_option linter.unusedVariables false
set_option linter.unusedSimpArgs false

/- the text B41 -/
section
/- Chapter 06: the reference's Next and Steps; own, raw. -/
namespace Go.Dx
open Go.RowKit
/-- how far an append to a list of steps is -/
def GSt (w0 : World) (E U : TypeId) (B : Nat) (ps : List SH) (n : Nat) : Nat → List Value → World → Prop
  | 0, _, w => Below w0.heap.size w0 w
  | _ + 1, vs, w => (∃ a' c', vs = [.slice a' n c'] ∧ OSt w E U B a' c' ps) ∧ Below B w0 w
theorem GSt.mono {w0 : World} {E U : TypeId} {B : Nat} {ps : List SH} {n : Nat} (hB : B ≤ w0.heap.size) : ∀ j vs w w', Below w.heap.size w w' → GSt w0 E U B ps n j vs w → GSt w0 E U B ps n j vs w'
  | 0, _, _, _, hb, h => Below.trans h (hb.mono (Below.size h))
  | _ + 1, _, _, _, hb, ⟨⟨a', c', h1, h2⟩, h3⟩ => ⟨⟨a', c', h1, h2.below hb⟩, h3.trans (hb.mono (Nat.le_trans hB h3.size))⟩
theorem GSt.cell {w0 w : World} {E U : TypeId} {B : Nat} {ps : List SH} {n j : Nat} {vs : List Value} (h : GSt w0 E U B ps n j vs w) {p : Addr} {u : Value} (hc : w0.cell? p = some u) (hp : p.block < B) (hB : B ≤ w0.heap.size) : w.cell? p = some u := by
  cases j with
  | zero => exact cell_below hc h
  | succ j => rw [h.2.cell hp]; exact hc
theorem GSt.size {w0 w : World} {E U : TypeId} {B : Nat} {ps : List SH} {n j : Nat} {vs : List Value} (h : GSt w0 E U B ps n j vs w) : w0.heap.size ≤ w.heap.size := by
  cases j with
  | zero => exact Below.size h
  | succ j => exact h.2.size
end Go.Dx
namespace Go.Proofs.Ytlpkicjijlcbfaa
open Go.RowKit Go.Dx
set_option maxRecDepth 100000 in
set_option maxHeartbeats 8000000 in
theorem ref_Next_sw (H : TH) (t : Ta) (s : St) (l : List Sy) (a : Option Addr) (n c : Nat) (p : Nat) (x : Sy) (hx : l[p]? = some x) (hll : l.length ≤ 1000000) (hne : x.lang ≠ s.lang) (w : World) (hT : TaIs w H t) (hs : Sl w 2 a n c (l.flatMap sc)) :
    Calls Try.prog 72 #[H.v, .agg #[.int .i64 s.lang, .bool s.num, .bool s.wrd], .slice a n c, .int .i64 (p : Int)] w (StepsR [⟨⟨x.lang, false, false⟩, 0, t.sw, -1⟩] w) := by
  have HTS : Hid (Sl w 1 H.s.1 H.s.2.1 H.s.2.2 (t.sw.map B8)) := hide hT.s
  have hne0 : x.lang ≠ s.lang := hne
  clear hne
  obtain rfl := hs.nf sc_len (by decide)
  obtain ⟨⟨a0, n0, c0⟩, ⟨a1, n1, c1⟩, ps0, ps1, ⟨ad, nd, cd⟩, ⟨ac, nc, cc⟩, ⟨an, nn, cn⟩, ⟨af, nf, cf⟩, ⟨aw, nw, cw⟩⟩ := H
  obtain ⟨sg, sn, si⟩ := s
  obtain ⟨xg, xc⟩ := x
  unfold TH.v
  simp only [hdv]
  have hbb : Below w.heap.size w ((w.alloc (.cells #[.slice a0 n0 c0, .slice a1 n1 c1, .slice ad nd cd, .slice ac nc cc, .slice an nn cn, .slice af nf cf, .slice aw nw cw] 29)).alloc (.cells #[.int .i64 sg, .bool sn, .bool si] 70)) := (blo w _).trans ((blo _ _).mono (by simp))
  have X4 : Box ((w.alloc (.cells #[.slice a0 n0 c0, .slice a1 n1 c1, .slice ad nd cd, .slice ac nc cc, .slice an nn cn, .slice af nf cf, .slice aw nw cw] 29)).alloc (.cells #[.int .i64 sg, .bool sn, .bool si] 70)) w.heap.size 29 [.slice a0 n0 c0, .slice a1 n1 c1, .slice ad nd cd, .slice ac nc cc, .slice an nn cn, .slice af nf cf, .slice aw nw cw] := (Box.new w 29 #[.slice a0 n0 c0, .slice a1 n1 c1, .slice ad nd cd, .slice ac nc cc, .slice an nn cn, .slice af nf cf, .slice aw nw cw]).alloc _
  have X5 : Box ((w.alloc (.cells #[.slice a0 n0 c0, .slice a1 n1 c1, .slice ad nd cd, .slice ac nc cc, .slice an nn cn, .slice af nf cf, .slice aw nw cw] 29)).alloc (.cells #[.int .i64 sg, .bool sn, .bool si] 70)) (w.heap.size + 1) 70 [.int .i64 sg, .bool sn, .bool si] := by
    have := Box.new (w.alloc (.cells #[.slice a0 n0 c0, .slice a1 n1 c1, .slice ad nd cd, .slice ac nc cc, .slice an nn cn, .slice af nf cf, .slice aw nw cw] 29)) 70 #[.int .i64 sg, .bool sn, .bool si]
    rwa [show (w.alloc (.cells #[.slice a0 n0 c0, .slice a1 n1 c1, .slice ad nd cd, .slice ac nc cc, .slice an nn cn, .slice af nf cf, .slice aw nw cw] 29)).heap.size = w.heap.size + 1 by simp] at this
  have HBB := hide hbb
  have hs2 := hs.below hbb
  have hp := (List.getElem?_eq_some_iff.1 hx).1
  obtain ⟨bx, ox, hab, hbx, e0, e1⟩ := sy_cells hs2 hx
  have HXP := hide hx
  subst hab
  have HCX : Hid (∀ (j : Nat) (u : Value), ([.int .i64 xg, .int .u8 (xc.toNat : Int)] : List Value)[j]? = some u → ((w.alloc (.cells #[.slice a0 n0 c0, .slice a1 n1 c1, .slice ad nd cd, .slice ac nc cc, .slice an nn cn, .slice af nf cf, .slice aw nw cw] 29)).alloc (.cells #[.int .i64 sg, .bool sn, .bool si] 70)).cell? ⟨bx, ox + p * 2 + j, none⟩ = some u) := hide (by
    intro j u hj
    rcases j with _ | _ | j
    · cases hj; exact e0
    · cases hj; exact e1
    · cases hj)
  have y9 := Box.new ((w.alloc (.cells #[.slice a0 n0 c0, .slice a1 n1 c1, .slice ad nd cd, .slice ac nc cc, .slice an nn cn, .slice af nf cf, .slice aw nw cw] 29)).alloc (.cells #[.int .i64 sg, .bool sn, .bool si] 70)) 88 #[.int .i64 xg, .int .u8 (xc.toNat : Int)]
  have y4 := X4.alloc (.cells #[.int .i64 xg, .int .u8 (xc.toNat : Int)] 88)
  have y5 := X5.alloc (.cells #[.int .i64 xg, .int .u8 (xc.toNat : Int)] 88)
  have hb5 := hbb.trans ((blo ((w.alloc (.cells #[.slice a0 n0 c0, .slice a1 n1 c1, .slice ad nd cd, .slice ac nc cc, .slice an nn cn, .slice af nf cf, .slice aw nw cw] 29)).alloc (.cells #[.int .i64 sg, .bool sn, .bool si] 70)) (.cells #[.int .i64 xg, .int .u8 (xc.toNat : Int)] 88)).mono hbb.size)
  have hz2 : w.heap.size + 2 ≤ ((w.alloc (.cells #[.slice a0 n0 c0, .slice a1 n1 c1, .slice ad nd cd, .slice ac nc cc, .slice an nn cn, .slice af nf cf, .slice aw nw cw] 29)).alloc (.cells #[.int .i64 sg, .bool sn, .bool si] 70)).heap.size := by simp
  rw [show ((w.alloc (.cells #[.slice a0 n0 c0, .slice a1 n1 c1, .slice ad nd cd, .slice ac nc cc, .slice an nn cn, .slice af nf cf, .slice aw nw cw] 29)).alloc (.cells #[.int .i64 sg, .bool sn, .bool si] 70)).heap.size = w.heap.size + 1 + 1 by simp] at y9
  clear hx hs2 X4 X5 hbb hbx e0 e1
  have d1 : (xg != sg) = true := by have hne : xg ≠ sg := hne0; simpa using hne
  clear hne0
  go_enter Try.func72, Try.ntmps72
  go_upto_region 3 with (first | (with_reducible refine load_struct 21 88 _ 2 size_sym _ Try.underlying88 ⟨bx, ox + p * 2, none⟩ rfl [.int .i64 xg, .int .u8 (xc.toNat : Int)] rfl (fun j u hj => by rw [Addr.add_lit]; exact HCX.out j u hj) ?_))
  generalize ((w.alloc (.cells _ 29)).alloc (.cells _ 70)).alloc (.cells _ 88) = w5 at *
  obtain ⟨g9, hg9⟩ : ∃ g9, g9 = w.heap.size + 1 + 1 := ⟨_, rfl⟩
  rw [← hg9] at y9 ⊢
  have hgw : w.heap.size < g9 := by omega
  clear hg9 hz2 HCX
  have k1 : w5.cell? ⟨g9, 0, none⟩ = some (.int .i64 xg) := y9.at_ rfl
  have k2 : w5.cell? ⟨w.heap.size + 1, 0, none⟩ = some (.int .i64 sg) := y5.at_ rfl
  have k3 : w5.cell? ⟨w.heap.size, 6, none⟩ = some (.slice aw nw cw) := y4.at_ rfl
  have hsw := HTS.out.below hb5
  have hal := blo w5 (.cells (stc (⟨⟨xg, false, false⟩, 0, t.sw, -1⟩, (aw, nw, cw))).toArray 103)
  go_wp2_with fail
  go_ret
  exact ⟨_, 1, [(⟨⟨xg, false, false⟩, 0, t.sw, -1⟩, (aw, nw, cw))], rfl, ⟨Sl.fresh _ _ 6 1 (stc (⟨⟨xg, false, false⟩, 0, t.sw, -1⟩, (aw, nw, cw))) rfl (by decide), fun q hq => by rw [List.mem_singleton] at hq; subst hq; exact hsw.below hal, rfl⟩, hb5.trans (hal.mono hb5.size)⟩

set_option maxRecDepth 100000 in
set_option maxHeartbeats 8000000 in
theorem ref_Next_dg (H : TH) (t : Ta) (s : St) (l : List Sy) (a : Option Addr) (n c : Nat) (p : Nat) (x : Sy) (hx : l[p]? = some x) (hll : l.length ≤ 1000000) (hv : validE t = 0) (heq : x.lang = s.lang) (hd : isD x.c = true) (w : World) (hT : TaIs w H t) (hs : Sl w 2 a n c (l.flatMap sc)) :
    Calls Try.prog 72 #[H.v, .agg #[.int .i64 s.lang, .bool s.num, .bool s.wrd], .slice a n c, .int .i64 (p : Int)] w (StepsR [⟨⟨x.lang, true, false⟩, 1, (if s.num then [] else t.num) ++ [t.dig.getD (x.c.toNat - 48) 0], -1⟩] w) := by
  obtain ⟨LL, HLL⟩ : ∃ LL, Hid ([(⟨⟨x.lang, true, false⟩, 1, (if s.num then [] else t.num) ++ [t.dig.getD (x.c.toNat - 48) 0], -1⟩ : Stp)] = LL) := ⟨_, hide rfl⟩
  rw [HLL.out]
  have HTN : Hid (Sl w 1 H.n.1 H.n.2.1 H.n.2.2 (t.num.map B8)) := hide hT.n
  have HTD : Hid (Sl w 1 H.d.1 H.d.2.1 H.d.2.2 (t.dig.map B8)) := hide hT.d
  have heq0 : x.lang = s.lang := heq
  have HDD : Hid (isD x.c = true) := hide hd
  have hgp := good_parts (valid_parts hv).2.2.1
  have HGP := hide hgp
  clear hv heq hd hT hgp
  obtain rfl := hs.nf sc_len (by decide)
  obtain ⟨⟨a0, n0, c0⟩, ⟨a1, n1, c1⟩, ps0, ps1, ⟨ad, nd, cd⟩, ⟨ac, nc, cc⟩, ⟨an, nn, cn⟩, ⟨af, nf, cf⟩, ⟨aw, nw, cw⟩⟩ := H
  obtain ⟨sg, sn, si⟩ := s
  obtain ⟨xg, xc⟩ := x
  unfold TH.v
  simp only [hdv]
  have hbb : Below w.heap.size w ((w.alloc (.cells #[.slice a0 n0 c0, .slice a1 n1 c1, .slice ad nd cd, .slice ac nc cc, .slice an nn cn, .slice af nf cf, .slice aw nw cw] 29)).alloc (.cells #[.int .i64 sg, .bool sn, .bool si] 70)) := (blo w _).trans ((blo _ _).mono (by simp))
  have X4 : Box ((w.alloc (.cells #[.slice a0 n0 c0, .slice a1 n1 c1, .slice ad nd cd, .slice ac nc cc, .slice an nn cn, .slice af nf cf, .slice aw nw cw] 29)).alloc (.cells #[.int .i64 sg, .bool sn, .bool si] 70)) w.heap.size 29 [.slice a0 n0 c0, .slice a1 n1 c1, .slice ad nd cd, .slice ac nc cc, .slice an nn cn, .slice af nf cf, .slice aw nw cw] := (Box.new w 29 #[.slice a0 n0 c0, .slice a1 n1 c1, .slice ad nd cd, .slice ac nc cc, .slice an nn cn, .slice af nf cf, .slice aw nw cw]).alloc _
  have X5 : Box ((w.alloc (.cells #[.slice a0 n0 c0, .slice a1 n1 c1, .slice ad nd cd, .slice ac nc cc, .slice an nn cn, .slice af nf cf, .slice aw nw cw] 29)).alloc (.cells #[.int .i64 sg, .bool sn, .bool si] 70)) (w.heap.size + 1) 70 [.int .i64 sg, .bool sn, .bool si] := by
    have := Box.new (w.alloc (.cells #[.slice a0 n0 c0, .slice a1 n1 c1, .slice ad nd cd, .slice ac nc cc, .slice an nn cn, .slice af nf cf, .slice aw nw cw] 29)) 70 #[.int .i64 sg, .bool sn, .bool si]
    rwa [show (w.alloc (.cells #[.slice a0 n0 c0, .slice a1 n1 c1, .slice ad nd cd, .slice ac nc cc, .slice an nn cn, .slice af nf cf, .slice aw nw cw] 29)).heap.size = w.heap.size + 1 by simp] at this
  have HBB := hide hbb
  have hs2 := hs.below hbb
  have hp := (List.getElem?_eq_some_iff.1 hx).1
  obtain ⟨bx, ox, hab, hbx, e0, e1⟩ := sy_cells hs2 hx
  have HXP := hide hx
  subst hab
  have HCX : Hid (∀ (j : Nat) (u : Value), ([.int .i64 xg, .int .u8 (xc.toNat : Int)] : List Value)[j]? = some u → ((w.alloc (.cells #[.slice a0 n0 c0, .slice a1 n1 c1, .slice ad nd cd, .slice ac nc cc, .slice an nn cn, .slice af nf cf, .slice aw nw cw] 29)).alloc (.cells #[.int .i64 sg, .bool sn, .bool si] 70)).cell? ⟨bx, ox + p * 2 + j, none⟩ = some u) := hide (by
    intro j u hj
    rcases j with _ | _ | j
    · cases hj; exact e0
    · cases hj; exact e1
    · cases hj)
  have y9 := Box.new ((w.alloc (.cells #[.slice a0 n0 c0, .slice a1 n1 c1, .slice ad nd cd, .slice ac nc cc, .slice an nn cn, .slice af nf cf, .slice aw nw cw] 29)).alloc (.cells #[.int .i64 sg, .bool sn, .bool si] 70)) 88 #[.int .i64 xg, .int .u8 (xc.toNat : Int)]
  have y4 := X4.alloc (.cells #[.int .i64 xg, .int .u8 (xc.toNat : Int)] 88)
  have y5 := X5.alloc (.cells #[.int .i64 xg, .int .u8 (xc.toNat : Int)] 88)
  have hb5 := hbb.trans ((blo ((w.alloc (.cells #[.slice a0 n0 c0, .slice a1 n1 c1, .slice ad nd cd, .slice ac nc cc, .slice an nn cn, .slice af nf cf, .slice aw nw cw] 29)).alloc (.cells #[.int .i64 sg, .bool sn, .bool si] 70)) (.cells #[.int .i64 xg, .int .u8 (xc.toNat : Int)] 88)).mono hbb.size)
  have hz2 : w.heap.size + 2 ≤ ((w.alloc (.cells #[.slice a0 n0 c0, .slice a1 n1 c1, .slice ad nd cd, .slice ac nc cc, .slice an nn cn, .slice af nf cf, .slice aw nw cw] 29)).alloc (.cells #[.int .i64 sg, .bool sn, .bool si] 70)).heap.size := by simp
  rw [show ((w.alloc (.cells #[.slice a0 n0 c0, .slice a1 n1 c1, .slice ad nd cd, .slice ac nc cc, .slice an nn cn, .slice af nf cf, .slice aw nw cw] 29)).alloc (.cells #[.int .i64 sg, .bool sn, .bool si] 70)).heap.size = w.heap.size + 1 + 1 by simp] at y9
  clear hx hs2 X4 X5 hbb hbx e0 e1
  have heq0 : xg = sg := heq0
  subst heq0
  have hD := fun w' => ref_Digit xc w'
  rw [show isD xc = true from HDD.out] at hD
  have d1 : (xg != xg) = false := by simp
  go_enter Try.func72, Try.ntmps72
  go_upto_region 5 with (first | (go_at_call 92; refine (hD _).mono ?_; rintro e wd ⟨rfl, rfl⟩) | (with_reducible refine load_struct 21 88 _ 2 size_sym _ Try.underlying88 ⟨bx, ox + p * 2, none⟩ rfl [.int .i64 xg, .int .u8 (xc.toNat : Int)] rfl (fun j u hj => by rw [Addr.add_lit]; exact HCX.out j u hj) ?_))
  generalize ((w.alloc (.cells _ 29)).alloc (.cells _ 70)).alloc (.cells _ 88) = w5 at *
  obtain ⟨g9, hg9⟩ : ∃ g9, g9 = w.heap.size + 1 + 1 := ⟨_, rfl⟩
  rw [← hg9] at y9 ⊢
  have hgw : w.heap.size < g9 := by omega
  clear hg9 hz2 HCX
  obtain ⟨j, hj, hj9⟩ : ∃ j : Nat, xc.toNat = j + 48 ∧ j ≤ 9 := by
    have hd := HDD.out
    unfold isD at hd
    simp only [Bool.and_eq_true, decide_eq_true_eq] at hd
    exact ⟨xc.toNat - 48, by omega, by omega⟩
  have HJ := hide hj
  have hd10 : t.dig.length = 10 := HGP.out.1
  have hnn : nn = t.num.length := HTN.out.n_eq
  have hnn4 := indic_le HGP.out.2.2.1
  obtain ⟨pre, hpre⟩ : ∃ pre, pre = if sn then [] else t.num := ⟨_, rfl⟩
  have hprel : pre.length ≤ 4 := by rw [hpre]; split; (simp); omega
  obtain ⟨dj, hdj⟩ : ∃ dj, t.dig[j]? = some dj := ⟨t.dig[j]'(by omega), List.getElem?_eq_getElem _⟩
  have HDJ : Hid (t.dig.getD (xc.toNat - 48) 0 = dj) := hide (by rw [hj, Nat.add_sub_cancel, List.getD_eq_getElem?_getD, hdj]; rfl)
  have hTd : Sl w5 1 ad nd cd (t.dig.map B8) := HTD.out.below hb5
  have HND : Hid (nd = t.dig.length) := hide hTd.n_eq
  have hnd10 : nd = 10 := by rw [HND.out]; exact hd10
  obtain ⟨bd, od, hab, hbd, hcd⟩ := hTd.ex (by rw [List.length_map]; omega)
  have HCD : Hid (w5.cell? ⟨bd, od + j, none⟩ = some (.int .u8 (dj.toNat : Int))) := hide (hcd j _ (by rw [List.getElem?_map, hdj]; rfl))
  subst hab
  subst hnd10
  have hTn5 : Sl w5 1 an nn cn (t.num.map B8) := HTN.out.below hb5
  have HKC : Hid (w5.cell? ⟨g9, 1, none⟩ = some (.int .u8 ((j : Int) + 48))) := hide (by
    have := y9.at_ (j := 1) (u := .int .u8 (xc.toNat : Int)) rfl
    rw [this, hj]; rfl)
  have HKL : Hid (w5.cell? ⟨g9, 0, none⟩ = some (.int .i64 xg)) := hide (y9.at_ rfl)
  have kN : w5.cell? ⟨w.heap.size + 1, 1, none⟩ = some (.bool sn) := y5.at_ rfl
  have HKD : Hid (w5.cell? ⟨w.heap.size, 2, none⟩ = some (.slice (some ⟨bd, od, none⟩) 10 cd)) := hide (y4.at_ rfl)
  have kM : w5.cell? ⟨w.heap.size, 4, none⟩ = some (.slice an nn cn) := y4.at_ rfl
  have HNN := hide hnn
  have HPRE := hide hpre
  have hnn5 : nn ≤ 4 := by omega
  clear hj hd10 hnn hnn4 hdj hTd hcd hbd y9 y4 y5 hpre hD d1
  go_upto_if 39 with fail
  go_cut [10] (fun v w' => ∃ a c, v = .slice a pre.length c ∧ Own w' w5.heap.size 5 1 a pre.length c (pre.map B8) ∧ Below w5.heap.size w5 w')
  case first =>
    have hh := HPRE.out
    cases sn
    · have hz : pre = t.num := hh
      rw [← hz] at hTn5
      obtain rfl : nn = pre.length := by rw [hz]; exact HNN.out
      clear hh hz
      go_wp2_with (at_builtin; refine app_bs rfl _ _ rfl w5 w5.heap.size _ 0 0 _ rfl (Own.nil _ _ _ _) an _ cn pre rfl hTn5 (by omega) (Nat.le_refl _) (Below.refl _ _) ?_; intro ca cc w6 ho6 hgr6 hb56; rw [Nat.zero_add] at ho6 ⊢)
      go_meet
      exact ⟨ca, cc, rfl, ho6, hb56⟩
    · have hz : pre = [] := hh
      subst hz
      go_wp2_with fail
      go_meet
      exact ⟨none, 0, rfl, Own.nil _ _ _ _, Below.refl _ _⟩
  case rest =>
    clear kN kM hTn5
    obtain ⟨ca, cc, rfl, ho6, hb56⟩ := hcut
    obtain ⟨w6, rfl⟩ : ∃ w6 : World, w6 = wc := ⟨_, rfl⟩
    have kC := cell_below HKC.out hb56
    have kL := cell_below HKL.out hb56
    have kD := cell_below HKD.out hb56
    have kJ := cell_below HCD.out hb56
    have hbw6 := hb5.trans (hb56.mono hb5.size)
    have hz6 := hb56.size
    go_wp2_with (at_builtin; refine app_b rfl _ _ rfl w5 w5.heap.size ca pre.length cc _ rfl ho6 (dj.toNat : Int) rfl (by omega) hz6 hb56 ?_; intro a8 c8 w8 ho8 hgr8 hb8; refine hold ?_)
    refine hide ?_
    have kL8 := cell_below HKL.out hb8
    have hbw8 := hb5.trans (hb8.mono hb5.size)
    obtain ⟨CT, hCT⟩ : ∃ CT, pre ++ [dj] = CT := ⟨_, rfl⟩
    have hcl : pre.length + 1 = CT.length := by rw [← hCT, List.length_append]; rfl
    have ho9 : Own w8 w5.heap.size 5 1 a8 CT.length c8 (CT.map B8) := by rw [← hcl, ← hCT, List.map_append]; exact ho8
    rw [hcl]
    have hL : (if sn then [] else t.num) ++ [t.dig.getD (xc.toNat - 48) 0] = CT := by rw [← HPRE.out, HDJ.out, hCT]
    have HL := hide hL
    have hal := blo w8 (.cells (stc (⟨⟨xg, true, false⟩, 1, CT, -1⟩, (a8, CT.length, c8))).toArray 103)
    clear kC kL kD kJ hL ho8 ho6 hCT hcl hb56 hgr8
    go_wp2_with fail
    go_ret
    have hLL : [(⟨⟨xg, true, false⟩, 1, (if sn then [] else t.num) ++ [t.dig.getD (xc.toNat - 48) 0], -1⟩ : Stp)] = LL := HLL.out
    rw [← hLL, HL.out]
    exact ⟨_, 1, [(⟨⟨xg, true, false⟩, 1, CT, -1⟩, (a8, CT.length, c8))], rfl, ⟨Sl.fresh _ _ 6 1 (stc (⟨⟨xg, true, false⟩, 1, CT, -1⟩, (a8, CT.length, c8))) rfl (by decide), fun q hq => by rw [List.mem_singleton] at hq; subst hq; exact ho9.sl.below hal, rfl⟩, hbw8.trans (hal.mono hbw8.size)⟩

set_option maxRecDepth 100000 in
set_option maxHeartbeats 8000000 in
theorem ref_Next_ru (H : TH) (t : Ta) (s : St) (l : List Sy) (a : Option Addr) (n c : Nat) (p : Nat) (x : Sy) (hx : l[p]? = some x) (hll : l.length ≤ 1000000) (hv : validE t = 0) (heq : x.lang = s.lang) (hxl : x.lang = 0 ∨ x.lang = 1) (hd : isD x.c = false) (w : World) (hT : TaIs w H t) (hs : Sl w 2 a n c (l.flatMap sc)) :
    Calls Try.prog 72 #[H.v, .agg #[.int .i64 s.lang, .bool s.num, .bool s.wrd], .slice a n c, .int .i64 (p : Int)] w (StepsR (ruleSteps t s x l p 0 (langOf t x.lang)) w) := by
  have hxl0 : x.lang = 0 ∨ x.lang = 1 := hxl
  have heq0 : x.lang = s.lang := heq
  have HDD : Hid (isD x.c = false) := hide hd
  have HV0 := hide hv
  have HTT := hide hT
  obtain ⟨LL, HLL⟩ : ∃ LL, Hid (ruleSteps t s x l p 0 (langOf t x.lang) = LL) := ⟨_, hide rfl⟩
  rw [HLL.out]
  clear hv heq hd hT hxl
  obtain rfl := hs.nf sc_len (by decide)
  obtain ⟨⟨a0, n0, c0⟩, ⟨a1, n1, c1⟩, ps0, ps1, ⟨ad, nd, cd⟩, ⟨ac, nc, cc⟩, ⟨an, nn, cn⟩, ⟨af, nf, cf⟩, ⟨aw, nw, cw⟩⟩ := H
  obtain ⟨sg, sn, si⟩ := s
  obtain ⟨xg, xc⟩ := x
  have heq0 : sg = xg := heq0.symm
  subst heq0
  obtain ⟨kx, rfl, hkx⟩ : ∃ kx : Nat, sg = (kx : Int) ∧ kx < 2 := by
    rcases hxl0 with h | h
    · exact ⟨0, h, by decide⟩
    · exact ⟨1, h, by decide⟩
  clear hxl0
  unfold TH.v
  simp only [hdv]
  have hbb : Below w.heap.size w ((w.alloc (.cells #[.slice a0 n0 c0, .slice a1 n1 c1, .slice ad nd cd, .slice ac nc cc, .slice an nn cn, .slice af nf cf, .slice aw nw cw] 29)).alloc (.cells #[.int .i64 (kx : Int), .bool sn, .bool si] 70)) := (blo w _).trans ((blo _ _).mono (by simp))
  have X4 : Box ((w.alloc (.cells #[.slice a0 n0 c0, .slice a1 n1 c1, .slice ad nd cd, .slice ac nc cc, .slice an nn cn, .slice af nf cf, .slice aw nw cw] 29)).alloc (.cells #[.int .i64 (kx : Int), .bool sn, .bool si] 70)) w.heap.size 29 [.slice a0 n0 c0, .slice a1 n1 c1, .slice ad nd cd, .slice ac nc cc, .slice an nn cn, .slice af nf cf, .slice aw nw cw] := (Box.new w 29 #[.slice a0 n0 c0, .slice a1 n1 c1, .slice ad nd cd, .slice ac nc cc, .slice an nn cn, .slice af nf cf, .slice aw nw cw]).alloc _
  have X5 : Box ((w.alloc (.cells #[.slice a0 n0 c0, .slice a1 n1 c1, .slice ad nd cd, .slice ac nc cc, .slice an nn cn, .slice af nf cf, .slice aw nw cw] 29)).alloc (.cells #[.int .i64 (kx : Int), .bool sn, .bool si] 70)) (w.heap.size + 1) 70 [.int .i64 (kx : Int), .bool sn, .bool si] := by
    have := Box.new (w.alloc (.cells #[.slice a0 n0 c0, .slice a1 n1 c1, .slice ad nd cd, .slice ac nc cc, .slice an nn cn, .slice af nf cf, .slice aw nw cw] 29)) 70 #[.int .i64 (kx : Int), .bool sn, .bool si]
    rwa [show (w.alloc (.cells #[.slice a0 n0 c0, .slice a1 n1 c1, .slice ad nd cd, .slice ac nc cc, .slice an nn cn, .slice af nf cf, .slice aw nw cw] 29)).heap.size = w.heap.size + 1 by simp] at this
  have HBB := hide hbb
  have hs2 := hs.below hbb
  have hp := (List.getElem?_eq_some_iff.1 hx).1
  obtain ⟨bx, ox, hab, hbx, e0, e1⟩ := sy_cells hs2 hx
  have HXP := hide hx
  subst hab
  have HCX : Hid (∀ (j : Nat) (u : Value), ([.int .i64 (kx : Int), .int .u8 (xc.toNat : Int)] : List Value)[j]? = some u → ((w.alloc (.cells #[.slice a0 n0 c0, .slice a1 n1 c1, .slice ad nd cd, .slice ac nc cc, .slice an nn cn, .slice af nf cf, .slice aw nw cw] 29)).alloc (.cells #[.int .i64 (kx : Int), .bool sn, .bool si] 70)).cell? ⟨bx, ox + p * 2 + j, none⟩ = some u) := hide (by
    intro j u hj
    rcases j with _ | _ | j
    · cases hj; exact e0
    · cases hj; exact e1
    · cases hj)
  have y9 := Box.new ((w.alloc (.cells #[.slice a0 n0 c0, .slice a1 n1 c1, .slice ad nd cd, .slice ac nc cc, .slice an nn cn, .slice af nf cf, .slice aw nw cw] 29)).alloc (.cells #[.int .i64 (kx : Int), .bool sn, .bool si] 70)) 88 #[.int .i64 (kx : Int), .int .u8 (xc.toNat : Int)]
  have y4 := X4.alloc (.cells #[.int .i64 (kx : Int), .int .u8 (xc.toNat : Int)] 88)
  have y5 := X5.alloc (.cells #[.int .i64 (kx : Int), .int .u8 (xc.toNat : Int)] 88)
  have hb5 := hbb.trans ((blo ((w.alloc (.cells #[.slice a0 n0 c0, .slice a1 n1 c1, .slice ad nd cd, .slice ac nc cc, .slice an nn cn, .slice af nf cf, .slice aw nw cw] 29)).alloc (.cells #[.int .i64 (kx : Int), .bool sn, .bool si] 70)) (.cells #[.int .i64 (kx : Int), .int .u8 (xc.toNat : Int)] 88)).mono hbb.size)
  have hz2 : w.heap.size + 2 ≤ ((w.alloc (.cells #[.slice a0 n0 c0, .slice a1 n1 c1, .slice ad nd cd, .slice ac nc cc, .slice an nn cn, .slice af nf cf, .slice aw nw cw] 29)).alloc (.cells #[.int .i64 (kx : Int), .bool sn, .bool si] 70)).heap.size := by simp
  rw [show ((w.alloc (.cells #[.slice a0 n0 c0, .slice a1 n1 c1, .slice ad nd cd, .slice ac nc cc, .slice an nn cn, .slice af nf cf, .slice aw nw cw] 29)).alloc (.cells #[.int .i64 (kx : Int), .bool sn, .bool si] 70)).heap.size = w.heap.size + 1 + 1 by simp] at y9
  clear hx hs2 X4 X5 hbb hbx e0 e1
  have hD := fun w' => ref_Digit xc w'
  have hL := fun w' => ref_Letter xc w'
  unfold LetterR at hL
  rw [show isD xc = false from HDD.out] at hD
  obtain ⟨il, hil⟩ : ∃ il, isL xc = il := ⟨_, rfl⟩
  obtain ⟨ic, hic⟩ : ∃ ic, isC xc = ic := ⟨_, rfl⟩
  rw [hil, hic] at hL
  have HIL := hide hil
  have HIC := hide hic
  have d1 : ((kx : Int) != (kx : Int)) = false := by simp
  clear hil hic
  go_enter Try.func72, Try.ntmps72
  go_upto_region 11 with (first | (go_at_call 92; refine (hD _).mono ?_; rintro e wd ⟨rfl, rfl⟩) | (go_at_call 93; refine (hL _).mono ?_; rintro e wl ⟨rfl, rfl⟩) | (with_reducible refine load_struct 21 88 _ 2 size_sym _ Try.underlying88 ⟨bx, ox + p * 2, none⟩ rfl [.int .i64 (kx : Int), .int .u8 (xc.toNat : Int)] rfl (fun j u hj => by rw [Addr.add_lit]; exact HCX.out j u hj) ?_))
  generalize ((w.alloc (.cells _ 29)).alloc (.cells _ 70)).alloc (.cells _ 88) = w5 at *
  obtain ⟨g9, hg9⟩ : ∃ g9, g9 = w.heap.size + 1 + 1 := ⟨_, rfl⟩
  rw [← hg9] at y9 ⊢
  have hgw : w.heap.size < g9 := by omega
  clear hg9 hz2 HCX
  have HLOW : Hid (langOf t (kx : Int) = langK t kx) := hide (two_cases (p := fun k => langOf t (k : Int) = langK t k) (by simp [langOf, langK]) (by simp [langOf, langK]) kx hkx)
  have hgp := good_parts (valid_parts HV0.out).2.2.1
  have hlok := fun r (hr : r ∈ langK t kx) => lang_ok (valid_parts HV0.out).2.2.1 (kx : Int) r (by rw [HLOW.out]; exact hr)
  have HLOK := hide hlok
  have hnf : nf = t.fin.length := HTT.out.f.n_eq
  have hnc : nc = t.cap.length := HTT.out.c.n_eq
  have hf4 := indic_le hgp.2.2.2.1
  have hc4 := indic_le hgp.2.1
  have hnf4 : nf ≤ 4 := by omega
  have hnc4 : nc ≤ 4 := by omega
  have HTF : Hid (Sl w 1 af nf cf (t.fin.map B8)) := hide HTT.out.f
  have HTC : Hid (Sl w 1 ac nc cc (t.cap.map B8)) := hide HTT.out.c
  obtain ⟨ak, nk, ck, pk, hck, hRk, hek⟩ := sel_lang HTT.out kx hkx
  simp only [hdv] at hck
  have HCK := hide hck
  have HEK := hide hek
  have HRK := hide hRk
  obtain rfl := hRk.n_eq
  have hm1 := Nat.le_trans hRk.top.le hRk.top.cap
  unfold maxLen at hm1
  have hpk96 : pk.length ≤ 96 := by
    have h1 := (valid_parts HV0.out).1
    have h2 := (valid_parts HV0.out).2.1
    have h3 : (rus pk).length = pk.length := by unfold rus; simp
    rw [← h3, hek]
    unfold langK
    split
    · exact h1
    · exact h2
  obtain ⟨cbv, hcb⟩ : ∃ cbv, (sn && il) = cbv := ⟨_, rfl⟩
  obtain ⟨pre1, hp1⟩ : ∃ pre1 : List UInt8, pre1 = if cbv then t.fin else [] := ⟨_, rfl⟩
  obtain ⟨pre2, hp2⟩ : ∃ pre2 : List UInt8, pre2 = pre1 ++ if ic then t.cap else [] := ⟨_, rfl⟩
  have HHEAD : Hid (headC t ⟨(kx : Int), sn, si⟩ ⟨(kx : Int), xc⟩ = pre2) := hide (by
    unfold headC
    simp only [HIL.out, HIC.out]
    rw [hp2, hp1, ← hcb])
  have hl1 : pre1.length ≤ 4 := by rw [hp1]; cases cbv <;> simp <;> omega
  have hl2 : pre2.length ≤ 8 := by rw [hp2, List.length_append]; cases ic <;> simp <;> omega
  have HP1 := hide hp1
  have HP2 := hide hp2
  have HCB := hide hcb
  have HNF := hide hnf
  have HNC := hide hnc
  have kr : w5.cell? ⟨w.heap.size, kx, none⟩ = some (.slice ak pk.length ck) := y4.at_ (by
    have h := HCK.out
    rcases kx with _ | _ | k
    · exact h
    · exact h
    · omega)
  have HL5 : Hid (w5.cell? ⟨g9, 0, none⟩ = some (.int .i64 (kx : Int))) := hide (y9.at_ rfl)
  have kL : w5.cell? ⟨g9, 0, none⟩ = some (.int .i64 (kx : Int)) := HL5.out
  have HN5 : Hid (w5.cell? ⟨w.heap.size + 1, 1, none⟩ = some (.bool sn)) := hide (y5.at_ rfl)
  have HF5 : Hid (w5.cell? ⟨w.heap.size, 5, none⟩ = some (.slice af nf cf)) := hide (y4.at_ rfl)
  have HC5 : Hid (w5.cell? ⟨w.heap.size, 3, none⟩ = some (.slice ac nc cc)) := hide (y4.at_ rfl)
  have hRk5 := hRk.below hb5
  have HRK5 := hide hRk5
  have hs5 := hs.below hb5
  clear hgp hlok hnf hnc hf4 hc4 hck hek hRk hRk5 hcb hp1 hp2 y9 y4 y5 hD hL d1
  go_wp2_with fail
  go_loopg [14, 16] pk.length (fun gh o v w' => ∃ (k : Nat) (ps : List SH) (ao : Option Addr) (co : Nat), k ≤ pk.length ∧ gh = pk.length - k ∧ ps.length ≤ k ∧ o = .slice ao ps.length co ∧ v = .int .i64 (k : Int) ∧ Hid (ps.map (·.1) = ruleSteps t ⟨(kx : Int), sn, si⟩ ⟨(kx : Int), xc⟩ l p 0 ((rus pk).take k)) ∧ OSt w' 103 5 w5.heap.size ao co ps ∧ Below w5.heap.size w5 w')
  case atStart => exact ⟨0, [], none, 0, by omega, by omega, by simp, rfl, rfl, hide rfl, OSt.nil _ _ _ _, Below.refl _ _⟩
  case round =>
    clear kr kL
    obtain ⟨k, ps, ao, co, hk, hg, hpl, rfl, rfl, HPS, hOS, hbr⟩ := hrel
    have HG := hide hg
    clear hg
    by_cases hkl : k < pk.length
    · obtain ⟨q, hq⟩ : ∃ q, pk[k]? = some q := ⟨pk[k], by simp [hkl]⟩
      have HQ := hide hq
      have hRr := HRK5.out.below hbr
      obtain ⟨hrow, _⟩ := hRr.row q (List.mem_of_getElem? hq)
      have hrk := ru_parts (HLOK.out q.1 (by rw [← HEK.out]; exact List.mem_of_getElem? (rus_get hq)))
      have HRJ := hide (rus_get hq)
      obtain ⟨b1, o1, hab1, hb1, k0, k1, k2⟩ := ru_cells hRr.top hq
      subst hab1
      clear hq
      obtain ⟨⟨sx, wh, cl⟩, h1, h2, h3⟩ := q
      have hs1 : 1 ≤ sx.size := hrk.1
      have hs8 : sx.size ≤ 8 := hrk.2.1
      have hcl4 : cl.length ≤ 4 := indic_le hrk.2.2.2.2.1
      have hrow : Sl wr 1 h1 h2 h3 (cl.map B8) := hrow
      obtain rfl := hrow.n_eq
      have HC1 : Hid (∀ (j : Nat) (u : Value), ([.string sx, .int .i64 wh, .slice h1 cl.length h3] : List Value)[j]? = some u → wr.cell? ⟨b1, o1 + k * 3 + j, none⟩ = some u) := hide (by
        intro j u hj
        rcases j with _ | _ | _ | j
        · cases hj; exact k0
        · cases hj; exact k1
        · cases hj; exact k2
        · cases hj)
      have hF := fun w' (hb : Below wr.heap.size wr w') => ref_Fits sx wh cl h1 cl.length h3 l (some ⟨bx, ox, none⟩) _ c (p : Int) p rfl ⟨(kx : Int), xc⟩ HXP.out hs1 hs8 hll w' ((hs5.below hbr).below hb)
      have HSN := hide (ruleSteps_snoc t ⟨(kx : Int), sn, si⟩ ⟨(kx : Int), xc⟩ l p ⟨sx, wh, cl⟩ ((rus pk).take k) 0)
      have HTK : Hid ((rus pk).take (k + 1) = (rus pk).take k ++ [⟨sx, wh, cl⟩]) := hide (take_succ_get HRJ.out)
      have hrl : (rus pk).length = pk.length := by unfold rus; simp
      have HTL : Hid (((rus pk).take k).length = k) := hide (by rw [List.length_take, hrl]; omega)
      have i0 : decide (k < pk.length) = true := decide_eq_true hkl
      have i0' : decide ((k : Int) < (pk.length : Int)) = true := decide_eq_true (by omega)
      clear hrl hrk k0 k1 k2
      have K0 : wr.cell? ⟨b1, o1 + k * 3, none⟩ = some (.string sx) := HC1.out 0 _ rfl
      have K2 : wr.cell? ⟨b1, o1 + k * 3 + 2, none⟩ = some (.slice h1 cl.length h3) := HC1.out 2 _ rfl
      have HK0 := hide K0
      have HK2 := hide K2
      clear K0 K2
      cases hfb : fitsB ⟨sx, wh, cl⟩ l p
      · have HN : Hid (ps.map (·.1) = ruleSteps t ⟨(kx : Int), sn, si⟩ ⟨(kx : Int), xc⟩ l p 0 ((rus pk).take (k + 1))) := hide (by rw [HTK.out, HSN.out, hfb, HPS.out]; simp)
        rw [hfb] at hF
        clear hfb
        go_wp2_with (first
          | (with_reducible refine load_struct 82 84 _ 3 size_rule _ Try.underlying84 ⟨b1, o1 + k * 3, none⟩ rfl [.string sx, .int .i64 wh, .slice h1 cl.length h3] rfl (fun j u hj => by rw [Addr.add_lit]; exact HC1.out j u hj) ?_)
          | (go_at_call 94; refine (hF _ (Below.refl _ _)).mono ?_; rintro e w8 ⟨rfl, hb8⟩))
        have hb58 := hbr.trans (hb8.mono hbr.size)
        have hOS8 := hOS.below hb8
        go_roundg (pk.length - (k + 1))
        case measure => have := HG.out; omega
        case rel => exact ⟨k + 1, ps, ao, co, by omega, rfl, by omega, rfl, by go_num, HN, hOS8, hb58⟩
      · obtain ⟨CT, hCT⟩ : ∃ CT, pre2 ++ cl = CT := ⟨_, rfl⟩
        have HCT := hide hCT
        have HCL : Hid (pre2.length + cl.length = CT.length) := hide (by rw [← hCT, List.length_append])
        have hct : CT.length ≤ 100 := by rw [← hCT, List.length_append]; omega
        clear hCT
        have HN : Hid (∀ q : (Option Addr × Nat × Nat), ((ps ++ [((⟨⟨(kx : Int), false, il⟩, (sx.size : Int), CT, (k : Int)⟩ : Stp), q)]) : List SH).map (·.1) = ruleSteps t ⟨(kx : Int), sn, si⟩ ⟨(kx : Int), xc⟩ l p 0 ((rus pk).take (k + 1))) := hide (fun q => by
          rw [HTK.out, HSN.out, hfb, List.map_append, HPS.out, HHEAD.out, HTL.out, HIL.out, HCT.out]; simp)
        rw [hfb] at hF
        clear hfb
        go_upto_region 18 with (first
          | (with_reducible refine load_struct 82 84 _ 3 size_rule _ Try.underlying84 ⟨b1, o1 + k * 3, none⟩ rfl [.string sx, .int .i64 wh, .slice h1 cl.length h3] rfl (fun j u hj => by rw [Addr.add_lit]; exact HC1.out j u hj) ?_)
          | (go_at_call 94; refine (hF _ (Below.refl _ _)).mono ?_; rintro e w8 ⟨rfl, hb8⟩))
        have hb58 := hbr.trans (hb8.mono hbr.size)
        have hOS8 := hOS.below hb8
        have hrow8 := hrow.below hb8
        have kN8 := cell_below HN5.out hb58
        clear hF hOS hrow HSN HTK HTL HPS HRJ
        go_cut [91] from 87 to 91 (fun v w' => v = .bool cbv ∧ w8 = w')
        case first =>
          have hh := HCB.out
          cases il
          · have hz : cbv = false := by rw [← hh]; simp
            subst hz
            clear hh
            go_wp2_with fail
            go_meet
            exact ⟨rfl, rfl⟩
          · have hz : cbv = sn := by rw [← hh]; simp
            subst hz
            clear hh
            go_wp2_with fail
            go_meet
            exact ⟨rfl, rfl⟩
        case rest =>
          clear kN8
          obtain ⟨rfl, rfl⟩ := hcut
          have kf : w8.cell? ⟨w.heap.size, 5, none⟩ = some (.slice af nf cf) := cell_below HF5.out hb58
          have kc : w8.cell? ⟨w.heap.size, 3, none⟩ = some (.slice ac nc cc) := cell_below HC5.out hb58
          have hbw8 := hb5.trans (hb58.mono hb5.size)
          have hTf8 := HTF.out.below hbw8
          have hTc8 := HTC.out.below hbw8
          have hz58 := hb58.size
          go_upto_if 91 with fail
          go_cut [17] (fun v w' => ∃ a c, v = .slice a pre1.length c ∧ Own w' w8.heap.size 5 1 a pre1.length c (pre1.map B8) ∧ Below w8.heap.size w8 w')
          case first =>
            have hh := HP1.out
            cases cbv
            · have hz : pre1 = [] := hh
              subst hz
              go_wp2_with fail
              go_meet
              exact ⟨none, 0, rfl, Own.nil _ _ _ _, Below.refl _ _⟩
            · have hz : pre1 = t.fin := hh
              have hnf : nf = pre1.length := by rw [hz]; exact HNF.out
              rw [← hz] at hTf8
              subst hnf
              clear hz hh
              go_wp2_with (at_builtin; refine app_bs rfl _ _ rfl w8 w8.heap.size _ 0 0 _ rfl (Own.nil _ _ _ _) af _ cf pre1 rfl hTf8 (by omega) (Nat.le_refl _) (Below.refl _ _) ?_; intro a6 c6 w6 ho6 hgr6 hb6; rw [Nat.zero_add] at ho6 ⊢)
              go_meet
              exact ⟨a6, c6, rfl, ho6, hb6⟩
          case rest =>
            obtain ⟨a6, c6, rfl, ho6, hb6⟩ := hcut
            obtain ⟨w6, rfl⟩ : ∃ w6 : World, w6 = wc := ⟨_, rfl⟩
            go_upto_if 96 with fail
            go_cut [17] (fun v w' => ∃ a c, v = .slice a pre2.length c ∧ Own w' w8.heap.size 5 1 a pre2.length c (pre2.map B8) ∧ Below w8.heap.size w8 w')
            case first =>
              have hh := HP2.out
              cases ic
              · have hz : pre2 = pre1 := by rw [hh]; simp
                clear hh
                subst hz
                go_wp2_with fail
                go_meet
                exact ⟨a6, c6, rfl, ho6, hb6⟩
              · have hz : pre2 = pre1 ++ t.cap := hh
                have hnc : nc = t.cap.length := HNC.out
                have kc6 := cell_below kc hb6
                have hTc6 := hTc8.below hb6
                subst hnc
                have HZL : Hid (pre2.length = pre1.length + t.cap.length) := hide (by rw [hz, List.length_append])
                have HZ := hide hz
                clear hh hz
                go_wp2_with (at_builtin; refine app_bs rfl _ _ rfl w8 w8.heap.size a6 _ c6 _ rfl ho6 ac _ cc t.cap rfl hTc6 (by omega) hb6.size hb6 ?_; intro a8 c8 w8' ho8 hgr8 hb8')
                go_meet
                exact ⟨a8, c8, by rw [HZL.out], by rw [HZL.out, HZ.out, List.map_append]; exact ho8, hb8'⟩
            case rest =>
              clear ho6 hb6 kf kc hTf8 hTc8
              obtain ⟨ab, cb, rfl, hob, hb87⟩ := hcut
              obtain ⟨w7, rfl⟩ : ∃ w7 : World, w7 = wc := ⟨_, rfl⟩
              have K2 := cell_below (cell_below HK2.out hb8) hb87
              have hrow7 := hrow8.below hb87
              have hz87 := hb87.size
              go_wp2_with (at_builtin; refine app_bs rfl _ _ rfl w8 w8.heap.size ab _ cb _ rfl hob h1 cl.length h3 cl rfl hrow7 (by omega) hz87 hb87 ?_; intro ac9 cc9 w9 ho9 hgr9 hb89; refine hold ?_)
              refine hide ?_
              rw [HCL.out] at ho9 ⊢
              rw [← List.map_append, HCT.out] at ho9
              have hb79 := hb58.trans (hb89.mono hb58.size)
              have hbr5 := hb58
              have hOS9 := hOS8.below hb89
              have HL9 := hide (cell_below HL5.out hb79)
              have HR9 := hide (cell_below (cell_below HK0.out hb8) hb89)
              clear K2 hrow7 hrow8 hob hb87 hgr9 hOS8
              go_wp2_with fail
              refine wp_region_free 15 [⟨0, 108, [108], fun vs _ => vs = [.slice ao ps.length co]⟩, ⟨1, 109, [109], fun vs _ => vs = [.pointer (some ⟨g9, 0, none⟩)]⟩, ⟨2, 110, [110], fun vs _ => vs = [.int .i64 (kx : Int)]⟩, ⟨3, 111, [111], fun vs _ => vs = [.bool il]⟩, ⟨4, 112, [112], fun vs _ => vs = [.agg #[.int .i64 (kx : Int), .bool false, .bool il]]⟩, ⟨5, 113, [113], fun vs _ => vs = [.slice (some ⟨b1, o1, none⟩) pk.length ck]⟩, ⟨6, 114, [114], fun vs _ => vs = [.int .i64 (k : Int)]⟩, ⟨7, 115, [115], fun vs _ => vs = [.pointer (some ⟨b1, o1 + k * 3, none⟩)]⟩, ⟨8, 116, [116], fun vs _ => vs = [.pointer (some ⟨b1, o1 + k * 3, none⟩)]⟩, ⟨9, 117, [117], fun vs _ => vs = [.string sx]⟩, ⟨10, 118, [118], fun vs _ => vs = [.int .i64 (sx.size : Int)]⟩, ⟨11, 119, [119], fun vs _ => vs = [.slice ac9 CT.length cc9]⟩, ⟨12, 120, [120], fun vs _ => vs = [.int .i64 (k : Int)]⟩, ⟨13, 121, [121], fun vs _ => vs = [.agg #[.int .i64 (kx : Int), .bool false, .bool il, .int .i64 (sx.size : Int), .slice ac9 CT.length cc9, .int .i64 (k : Int)]]⟩, ⟨14, 122, [122], fun vs w' => ∃ b, vs = [.slice (some ⟨b, 0, none⟩) 1 1] ∧ Sl w' 6 (some ⟨b, 0, none⟩) 1 1 (stc ((⟨⟨(kx : Int), false, il⟩, (sx.size : Int), CT, (k : Int)⟩ : Stp), (ac9, CT.length, cc9)))⟩] (by kernel_rfl) (by kernel_rfl) ?_ ?_ ?_
              · simp only [All]
                refine ⟨fun _ _ _ _ h => h, fun _ _ _ _ h => h, fun _ _ _ _ h => h, fun _ _ _ _ h => h, fun _ _ _ _ h => h, fun _ _ _ _ h => h, fun _ _ _ _ h => h, fun _ _ _ _ h => h, fun _ _ _ _ h => h, fun _ _ _ _ h => h, fun _ _ _ _ h => h, fun _ _ _ _ h => h, fun _ _ _ _ h => h, fun _ _ _ _ h => h, ?_, trivial⟩
                · rintro vs w w' hb ⟨b, h1, h2⟩
                  exact ⟨b, h1, h2.below hb⟩
              · simp only [All]
                refine ⟨?_, ?_, ?_, ?_, ?_, ?_, ?_, ?_, ?_, ?_, ?_, ?_, ?_, ?_, ?_, trivial⟩
                · intro o ho a' w' hb hfr hdep
                  obtain rfl := Option.some.inj ho
                  have g14 : a'.tmps[14]?.getD undef = .slice ao ps.length co := by have h := hfr 14 (by kernel_rfl); simpa using h
                  clear ho hfr hdep
                  go_wp2_with fail
                  exact ⟨rfl, _, rfl, Below.refl _ _, rfl⟩
                · intro o ho a' w' hb hfr hdep
                  obtain rfl := Option.some.inj ho
                  have g9 : a'.tmps[9]?.getD undef = .pointer (some ⟨g9, 0, none⟩) := by have h := hfr 9 (by kernel_rfl); simpa using h
                  clear ho hfr hdep
                  go_wp2_with fail
                  exact ⟨rfl, _, rfl, Below.refl _ _, rfl⟩
                · intro o ho a' w' hb hfr hdep
                  obtain rfl := Option.some.inj ho
                  have g109 : a'.tmps[109]?.getD undef = .pointer (some ⟨g9, 0, none⟩) := by have h := hdep 1 _ rfl (by kernel_rfl); simpa using h
                  clear ho hfr hdep
                  have hcl := cell_below HL9.out hb
                  go_wp2_with fail
                  exact ⟨rfl, _, rfl, Below.refl _ _, rfl⟩
                · intro o ho a' w' hb hfr hdep
                  obtain rfl := Option.some.inj ho
                  have g12 : a'.tmps[12]?.getD undef = .bool il := by have h := hfr 12 (by kernel_rfl); simpa using h
                  clear ho hfr hdep
                  go_wp2_with fail
                  exact ⟨rfl, _, rfl, Below.refl _ _, rfl⟩
                · intro o ho a' w' hb hfr hdep
                  obtain rfl := Option.some.inj ho
                  have g110 : a'.tmps[110]?.getD undef = .int .i64 (kx : Int) := by have h := hdep 2 _ rfl (by kernel_rfl); simpa using h
                  have g111 : a'.tmps[111]?.getD undef = .bool il := by have h := hdep 3 _ rfl (by kernel_rfl); simpa using h
                  clear ho hfr hdep
                  go_wp2_with fail
                  exact ⟨rfl, _, rfl, Below.refl _ _, rfl⟩
                · intro o ho a' w' hb hfr hdep
                  obtain rfl := Option.some.inj ho
                  have g15 : a'.tmps[15]?.getD undef = .slice (some ⟨b1, o1, none⟩) pk.length ck := by have h := hfr 15 (by kernel_rfl); simpa using h
                  clear ho hfr hdep
                  go_wp2_with fail
                  exact ⟨rfl, _, rfl, Below.refl _ _, rfl⟩
                · intro o ho a' w' hb hfr hdep
                  obtain rfl := Option.some.inj ho
                  have g16 : a'.tmps[16]?.getD undef = .int .i64 (k : Int) := by have h := hfr 16 (by kernel_rfl); simpa using h
                  clear ho hfr hdep
                  go_wp2_with fail
                  exact ⟨rfl, _, rfl, Below.refl _ _, rfl⟩
                · intro o ho a' w' hb hfr hdep
                  obtain rfl := Option.some.inj ho
                  have g113 : a'.tmps[113]?.getD undef = .slice (some ⟨b1, o1, none⟩) pk.length ck := by have h := hdep 5 _ rfl (by kernel_rfl); simpa using h
                  have g114 : a'.tmps[114]?.getD undef = .int .i64 (k : Int) := by have h := hdep 6 _ rfl (by kernel_rfl); simpa using h
                  clear ho hfr hdep
                  go_wp2_with fail
                  exact ⟨rfl, _, rfl, Below.refl _ _, rfl⟩
                · intro o ho a' w' hb hfr hdep
                  obtain rfl := Option.some.inj ho
                  have g115 : a'.tmps[115]?.getD undef = .pointer (some ⟨b1, o1 + k * 3, none⟩) := by have h := hdep 7 _ rfl (by kernel_rfl); simpa using h
                  clear ho hfr hdep
                  go_wp2_with fail
                  exact ⟨rfl, _, rfl, Below.refl _ _, rfl⟩
                · intro o ho a' w' hb hfr hdep
                  obtain rfl := Option.some.inj ho
                  have g116 : a'.tmps[116]?.getD undef = .pointer (some ⟨b1, o1 + k * 3, none⟩) := by have h := hdep 8 _ rfl (by kernel_rfl); simpa using h
                  clear ho hfr hdep
                  have hcl := cell_below HR9.out hb
                  go_wp2_with fail
                  exact ⟨rfl, _, rfl, Below.refl _ _, rfl⟩
                · intro o ho a' w' hb hfr hdep
                  obtain rfl := Option.some.inj ho
                  have g117 : a'.tmps[117]?.getD undef = .string sx := by have h := hdep 9 _ rfl (by kernel_rfl); simpa using h
                  clear ho hfr hdep
                  go_wp2_with fail
                  exact ⟨rfl, _, rfl, Below.refl _ _, rfl⟩
                · intro o ho a' w' hb hfr hdep
                  obtain rfl := Option.some.inj ho
                  have g17 : a'.tmps[17]?.getD undef = .slice ac9 CT.length cc9 := by have h := hfr 17 (by kernel_rfl); simpa using h
                  clear ho hfr hdep
                  go_wp2_with fail
                  exact ⟨rfl, _, rfl, Below.refl _ _, rfl⟩
                · intro o ho a' w' hb hfr hdep
                  obtain rfl := Option.some.inj ho
                  have g16 : a'.tmps[16]?.getD undef = .int .i64 (k : Int) := by have h := hfr 16 (by kernel_rfl); simpa using h
                  clear ho hfr hdep
                  go_wp2_with fail
                  exact ⟨rfl, _, rfl, Below.refl _ _, rfl⟩
                · intro o ho a' w' hb hfr hdep
                  obtain rfl := Option.some.inj ho
                  have g112 : a'.tmps[112]?.getD undef = .agg #[.int .i64 (kx : Int), .bool false, .bool il] := by have h := hdep 4 _ rfl (by kernel_rfl); simpa using h
                  have g118 : a'.tmps[118]?.getD undef = .int .i64 (sx.size : Int) := by have h := hdep 10 _ rfl (by kernel_rfl); simpa using h
                  have g119 : a'.tmps[119]?.getD undef = .slice ac9 CT.length cc9 := by have h := hdep 11 _ rfl (by kernel_rfl); simpa using h
                  have g120 : a'.tmps[120]?.getD undef = .int .i64 (k : Int) := by have h := hdep 12 _ rfl (by kernel_rfl); simpa using h
                  clear ho hfr hdep
                  go_wp2_with fail
                  exact ⟨rfl, _, rfl, Below.refl _ _, rfl⟩
                · intro o ho a' w' hb hfr hdep
                  obtain rfl := Option.some.inj ho
                  have g121 : a'.tmps[121]?.getD undef = .agg #[.int .i64 (kx : Int), .bool false, .bool il, .int .i64 (sx.size : Int), .slice ac9 CT.length cc9, .int .i64 (k : Int)] := by have h := hdep 13 _ rfl (by kernel_rfl); simpa using h
                  clear ho hfr hdep
                  go_wp2_with fail
                  exact ⟨rfl, _, rfl, blo _ _, _, rfl, Sl.fresh _ _ 6 1 (stc ((⟨⟨(kx : Int), false, il⟩, (sx.size : Int), CT, (k : Int)⟩ : Stp), (ac9, CT.length, cc9))) rfl (by decide)⟩
              · intro gg wE hbE hpE
                have p108 := hpE 0 _ rfl
                obtain ⟨b9, p122, hs9⟩ := hpE 14 _ rfl
                clear hpE
                simp at p108 p122
                simp only [List.drop_succ_cons, List.drop_zero, List.map_cons, List.map_nil, putAll, Act.put, List.setIfInBounds_toArray, List.set_cons_succ, List.set_cons_zero, List.cons_append, List.nil_append, p108, p122]
                clear p108 p122
                have hbE7 := hb79.trans (hbE.mono hb79.size)
                have hOSE := hOS9.below hbE
                have hoE := ho9.below hbE
                have hzE := hbE7.size
                go_wp2_with (at_builtin; refine app_rst2 rfl _ _ rfl w5 w5.heap.size ao co ps rfl hOSE ((⟨⟨(kx : Int), false, il⟩, (sx.size : Int), CT, (k : Int)⟩ : Stp), (ac9, CT.length, cc9)) (hoE.mono hbr5.size) (some ⟨b9, 0, none⟩) 1 rfl hs9 (by omega) hzE hbE7 ?_; intro a7 c7 w7 ho7 hb7)
                go_roundg (pk.length - (k + 1))
                case measure => have := HG.out; omega
                case rel => exact ⟨k + 1, ps ++ [((⟨⟨(kx : Int), false, il⟩, (sx.size : Int), CT, (k : Int)⟩ : Stp), (ac9, CT.length, cc9))], a7, c7, by omega, rfl, by rw [List.length_append]; show _ + 1 ≤ _; omega, by rw [List.length_append]; rfl, by go_num, HN.out _, ho7, hb7⟩
    · obtain rfl : k = pk.length := by omega
      have i0 : decide (((pk.length : Nat) : Int) < (pk.length : Int)) = false := decide_eq_false (by omega)
      have i0' : decide (pk.length < pk.length) = false := decide_eq_false (by omega)
      have HFIN : Hid (ps.map (·.1) = LL) := hide (by
        rw [HPS.out, List.take_of_length_le (by unfold rus; simp)]
        have hLL : ruleSteps t ⟨(kx : Int), sn, si⟩ ⟨(kx : Int), xc⟩ l p 0 (langOf t (kx : Int)) = LL := HLL.out
        rw [← hLL, HLOW.out, ← HEK.out])
      have hpsl : ps.length = LL.length := by rw [← HFIN.out, List.length_map]
      have hst := hOS.stl
      rw [HFIN.out, hpsl] at hst
      rw [hpsl]
      clear hpsl
      go_wp2_with fail
      go_ret
      exact ⟨ao, co, ps, rfl, hst, hb5.trans (hbr.mono hb5.size)⟩

end Go.Proofs.Ytlpkicjijlcbfaa
end

/- the text B42 -/
section
/- Chapter 06: the reference's Steps; own, raw. -/
namespace Go.Proofs.Ytlpkicjijlcbfaa
open Go.RowKit Go.Dx
theorem ref_Next (H : TH) (t : Ta) (s : St) (l : List Sy) (a : Option Addr) (n c : Nat) (p : Nat) (x : Sy) (hx : l[p]? = some x) (hll : l.length ≤ 1000000) (hv : validE t = 0) (hxl : x.lang = 0 ∨ x.lang = 1) (w : World) (hT : TaIs w H t) (hs : Sl w 2 a n c (l.flatMap sc)) :
    Calls Try.prog 72 #[H.v, .agg #[.int .i64 s.lang, .bool s.num, .bool s.wrd], .slice a n c, .int .i64 (p : Int)] w (StepsR (nextL t s l p x) w) := by
  unfold nextL
  by_cases hne : x.lang ≠ s.lang
  · rw [if_pos hne]
    exact ref_Next_sw H t s l a n c p x hx hll hne w hT hs
  · rw [if_neg hne]
    have heq : x.lang = s.lang := Classical.byContradiction hne
    cases hd : isD x.c
    · rw [if_neg (by simp)]
      exact ref_Next_ru H t s l a n c p x hx hll hv heq hxl hd w hT hs
    · rw [if_pos rfl]
      exact ref_Next_dg H t s l a n c p x hx hll hv heq hd w hT hs
set_option maxRecDepth 100000 in
set_option maxHeartbeats 4000000 in
theorem ref6_Steps (H : TH) (t : Ta) (s : St) (l : List Sy) (a : Option Addr) (n c : Nat) (i : Int) (hll : l.length ≤ 1000000) (w : World) (hT : TaIs w H t) (hs : Sl w 2 a n c (l.flatMap sc)) :
    Calls Try.prog 44 #[H.v, .agg #[.int .i64 s.lang, .bool s.num, .bool s.wrd], .slice a n c, .int .i64 i] w (StepsR (stepsL t s l i) w) := by
  have hV := fun w' (hb : Below w.heap.size w w') => ref6_Valid H t w' (hT.below hb)
  have hC := fun w' (hb : Below w.heap.size w w') => ref_Good l a n c w' (hs.below hb)
  obtain rfl := hs.nf sc_len (by decide)
  obtain ⟨LL, HLL⟩ : ∃ LL, Hid (stepsL t s l i = LL) := ⟨_, hide rfl⟩
  rw [HLL.out]
  obtain ⟨⟨a0, n0, c0⟩, ⟨a1, n1, c1⟩, ps0, ps1, ⟨ad, nd, cd⟩, ⟨ac, nc, cc⟩, ⟨an, nn, cn⟩, ⟨af, nf, cf⟩, ⟨aw, nw, cw⟩⟩ := H
  obtain ⟨sg, sn, si⟩ := s
  unfold TH.v at hV ⊢
  simp only [hdv] at hV ⊢
  have hbb : Below w.heap.size w ((w.alloc (.cells #[.slice a0 n0 c0, .slice a1 n1 c1, .slice ad nd cd, .slice ac nc cc, .slice an nn cn, .slice af nf cf, .slice aw nw cw] 29)).alloc (.cells #[.int .i64 sg, .bool sn, .bool si] 70)) := (blo w _).trans ((blo _ _).mono (by simp))
  have X4 : Box ((w.alloc (.cells #[.slice a0 n0 c0, .slice a1 n1 c1, .slice ad nd cd, .slice ac nc cc, .slice an nn cn, .slice af nf cf, .slice aw nw cw] 29)).alloc (.cells #[.int .i64 sg, .bool sn, .bool si] 70)) w.heap.size 29 [.slice a0 n0 c0, .slice a1 n1 c1, .slice ad nd cd, .slice ac nc cc, .slice an nn cn, .slice af nf cf, .slice aw nw cw] := (Box.new w 29 #[.slice a0 n0 c0, .slice a1 n1 c1, .slice ad nd cd, .slice ac nc cc, .slice an nn cn, .slice af nf cf, .slice aw nw cw]).alloc _
  have X5 : Box ((w.alloc (.cells #[.slice a0 n0 c0, .slice a1 n1 c1, .slice ad nd cd, .slice ac nc cc, .slice an nn cn, .slice af nf cf, .slice aw nw cw] 29)).alloc (.cells #[.int .i64 sg, .bool sn, .bool si] 70)) (w.heap.size + 1) 70 [.int .i64 sg, .bool sn, .bool si] := by
    have := Box.new (w.alloc (.cells #[.slice a0 n0 c0, .slice a1 n1 c1, .slice ad nd cd, .slice ac nc cc, .slice an nn cn, .slice af nf cf, .slice aw nw cw] 29)) 70 #[.int .i64 sg, .bool sn, .bool si]
    rwa [show (w.alloc (.cells #[.slice a0 n0 c0, .slice a1 n1 c1, .slice ad nd cd, .slice ac nc cc, .slice an nn cn, .slice af nf cf, .slice aw nw cw] 29)).heap.size = w.heap.size + 1 by simp] at this
  have HBB := hide hbb
  have HX4 := hide X4
  have HX5 := hide X5
  have HTT := hide hT
  have HSS := hide hs
  clear hbb X4 X5 hT hs
  obtain ⟨E, HE⟩ : ∃ E, Hid (validE t = E) := ⟨_, hide rfl⟩
  rw [HE.out] at hV
  by_cases hE : E ≠ 0
  · have d0 : (E != 0) = true := by simpa using hE
    have hEE : validE t ≠ 0 := by rw [HE.out]; exact hE
    have HEE := hide hEE
    clear hE hEE hC
    have HNO : Hid (LL = []) := hide (by rw [← HLL.out]; exact steps_none (.inl fun h => HEE.out h.1))
    go_enter Try.func44, Try.ntmps44
    go_wp2_with (first | (go_at_call 69; refine (hV _ HBB.out).mono ?_; rintro e w3 ⟨rfl, hb3⟩; have k5 : w3.cell? ⟨w.heap.size + 1, 0, none⟩ = some (.int .i64 sg) := (HX5.out.under hb3).at_ rfl; have hbw3 := HBB.out.trans (hb3.mono HBB.out.size)))
    go_ret
    rw [HNO.out]
    exact ⟨none, 0, [], rfl, Stl.nil _, hbw3⟩
  obtain rfl : E = 0 := Classical.byContradiction hE
  clear hE
  by_cases h1 : sg < 0
  · have d1 : decide (sg < 0) = true := decide_eq_true h1
    have H1 := hide h1
    clear h1 hC
    have HNO : Hid (LL = []) := hide (by rw [← HLL.out]; exact steps_none (.inl fun h => by have h1 := H1.out; have h2 : sg = 0 ∨ sg = 1 := h.2.1; omega))
    go_enter Try.func44, Try.ntmps44
    go_wp2_with (first | (go_at_call 69; refine (hV _ HBB.out).mono ?_; rintro e w3 ⟨rfl, hb3⟩; have k5 : w3.cell? ⟨w.heap.size + 1, 0, none⟩ = some (.int .i64 sg) := (HX5.out.under hb3).at_ rfl; have hbw3 := HBB.out.trans (hb3.mono HBB.out.size)))
    go_ret
    rw [HNO.out]
    exact ⟨none, 0, [], rfl, Stl.nil _, hbw3⟩
  have d1 : decide (sg < 0) = false := decide_eq_false h1
  by_cases h2 : 1 < sg
  · have d2 : decide (1 < sg) = true := decide_eq_true h2
    have H1 := hide h2
    clear h2 h1 hC
    have HNO : Hid (LL = []) := hide (by rw [← HLL.out]; exact steps_none (.inl fun h => by have h1 := H1.out; have h2 : sg = 0 ∨ sg = 1 := h.2.1; omega))
    go_enter Try.func44, Try.ntmps44
    go_wp2_with (first | (go_at_call 69; refine (hV _ HBB.out).mono ?_; rintro e w3 ⟨rfl, hb3⟩; have k5 : w3.cell? ⟨w.heap.size + 1, 0, none⟩ = some (.int .i64 sg) := (HX5.out.under hb3).at_ rfl; have hbw3 := HBB.out.trans (hb3.mono HBB.out.size)))
    go_ret
    rw [HNO.out]
    exact ⟨none, 0, [], rfl, Stl.nil _, hbw3⟩
  have d2 : decide (1 < sg) = false := decide_eq_false h2
  have hsg : sg = 0 ∨ sg = 1 := by omega
  have HSG := hide hsg
  clear h1 h2 hsg
  cases hg : goodS l
  · rw [hg] at hC
    have H1 := hide hg
    clear hg
    have HNO : Hid (LL = []) := hide (by rw [← HLL.out]; exact steps_none (.inl fun h => by rw [H1.out] at h; exact absurd h.2.2.2 (by simp)))
    go_enter Try.func44, Try.ntmps44
    go_wp2_with (first | (go_at_call 69; refine (hV _ HBB.out).mono ?_; rintro e w3 ⟨rfl, hb3⟩; have k5 : w3.cell? ⟨w.heap.size + 1, 0, none⟩ = some (.int .i64 sg) := (HX5.out.under hb3).at_ rfl; have hbw3 := HBB.out.trans (hb3.mono HBB.out.size)) | (go_at_call 71; refine (hC _ hbw3).mono ?_; rintro e w4 ⟨rfl, rfl⟩))
    go_ret
    rw [HNO.out]
    exact ⟨none, 0, [], rfl, Stl.nil _, hbw3⟩
  rw [hg] at hC
  have HGD := hide hg
  clear hg
  by_cases h3 : i < 0
  · have d3 : decide (i < 0) = true := decide_eq_true h3
    have H1 := hide h3
    clear h3
    have HNO : Hid (LL = []) := hide (by rw [← HLL.out]; exact steps_none (.inl fun h => by have h1 := H1.out; omega))
    go_enter Try.func44, Try.ntmps44
    go_wp2_with (first | (go_at_call 69; refine (hV _ HBB.out).mono ?_; rintro e w3 ⟨rfl, hb3⟩; have k5 : w3.cell? ⟨w.heap.size + 1, 0, none⟩ = some (.int .i64 sg) := (HX5.out.under hb3).at_ rfl; have hbw3 := HBB.out.trans (hb3.mono HBB.out.size)) | (go_at_call 71; refine (hC _ hbw3).mono ?_; rintro e w4 ⟨rfl, rfl⟩))
    go_ret
    rw [HNO.out]
    exact ⟨none, 0, [], rfl, Stl.nil _, hbw3⟩
  have d3 : decide (i < 0) = false := decide_eq_false h3
  by_cases h4 : (l.length : Int) ≤ i
  · have d4 : decide ((l.length : Int) ≤ i) = true := decide_eq_true h4
    have H1 := hide h4
    clear h4 h3
    have HNO : Hid (LL = []) := hide (by rw [← HLL.out]; exact steps_none (.inr H1.out))
    go_enter Try.func44, Try.ntmps44
    go_wp2_with (first | (go_at_call 69; refine (hV _ HBB.out).mono ?_; rintro e w3 ⟨rfl, hb3⟩; have k5 : w3.cell? ⟨w.heap.size + 1, 0, none⟩ = some (.int .i64 sg) := (HX5.out.under hb3).at_ rfl; have hbw3 := HBB.out.trans (hb3.mono HBB.out.size)) | (go_at_call 71; refine (hC _ hbw3).mono ?_; rintro e w4 ⟨rfl, rfl⟩))
    go_ret
    rw [HNO.out]
    exact ⟨none, 0, [], rfl, Stl.nil _, hbw3⟩
  obtain ⟨p, rfl⟩ : ∃ p : Nat, i = (p : Int) := ⟨i.toNat, by omega⟩
  have hpl : p < l.length := by omega
  have d4 : decide ((l.length : Int) ≤ (p : Int)) = false := decide_eq_false h4
  have d4' : decide (l.length ≤ p) = false := decide_eq_false (by omega)
  obtain ⟨x, hx⟩ : ∃ x, l[p]? = some x := ⟨_, List.getElem?_eq_getElem hpl⟩
  have hxl : x.lang = 0 ∨ x.lang = 1 := by
    have h1 : symOk x = true := by
      have := HGD.out
      unfold goodS at this
      exact List.all_eq_true.1 this _ (List.mem_of_getElem? hx)
    unfold symOk at h1
    simp only [Bool.and_eq_true, Bool.or_eq_true, decide_eq_true_eq] at h1
    exact h1.1
  have HN : Hid (nextL t ⟨sg, sn, si⟩ l p x = LL) := hide (by
    rw [← HLL.out]
    exact (Go.Dx.steps_at HE.out (s := ⟨sg, sn, si⟩) HSG.out HGD.out hx).symm)
  have hNX := fun w' (hb : Below w.heap.size w w') => ref_Next _ t ⟨sg, sn, si⟩ l a l.length c p x hx hll HE.out hxl w' (HTT.out.below hb) (HSS.out.below hb)
  rw [HN.out] at hNX
  unfold TH.v at hNX
  simp only [hdv] at hNX
  clear hx hxl h3 h4
  go_enter Try.func44, Try.ntmps44
  go_wp2_with (first
    | (go_at_call 69; refine (hV _ HBB.out).mono ?_; rintro e w3 ⟨rfl, hb3⟩; have k5 : w3.cell? ⟨w.heap.size + 1, 0, none⟩ = some (.int .i64 sg) := (HX5.out.under hb3).at_ rfl; have hbw3 := HBB.out.trans (hb3.mono HBB.out.size))
    | (go_at_call 71; refine (hC _ hbw3).mono ?_; rintro e w4 ⟨rfl, rfl⟩)
    | (with_reducible refine load_struct 37 29 _ 7 size_tables _ Try.underlying29 ⟨w.heap.size, 0, none⟩ rfl [.slice a0 n0 c0, .slice a1 n1 c1, .slice ad nd cd, .slice ac nc cc, .slice an nn cn, .slice af nf cf, .slice aw nw cw] rfl (fun j u hj => by rw [Addr.add_lit, Nat.zero_add]; exact (HX4.out.under hb3).at_ hj) ?_)
    | (with_reducible refine load_struct 38 70 _ 3 size_rst _ Try.underlying70 ⟨w.heap.size + 1, 0, none⟩ rfl [.int .i64 sg, .bool sn, .bool si] rfl (fun j u hj => by rw [Addr.add_lit, Nat.zero_add]; exact (HX5.out.under hb3).at_ hj) ?_)
    | (go_at_call 72; refine (hNX _ hbw3).mono ?_; rintro e w5 ⟨a5, c5, ps5, rfl, h5, hb5⟩))
  go_ret
  exact ⟨a5, c5, ps5, rfl, h5, hbw3.trans (hb5.mono hbw3.size)⟩
end Go.Proofs.Ytlpkicjijlcbfaa
end

/- the text C3 -/
section
namespace Go.Proofs.Ytlpkicjijlcbfaa
open Go.RowKit Go.Dx

end Go.Proofs.Ytlpkicjijlcbfaa
end

/- the text C4 -/
section
namespace Go.Proofs.Ytlpkicjijlcbfaa
open Go.RowKit Go.Dx

end Go.Proofs.Ytlpkicjijlcbfaa
end

/- the text C5 -/
section
namespace Go.Proofs.Ytlpkicjijlcbfaa
open Go.RowKit Go.Dx

end Go.Proofs.Ytlpkicjijlcbfaa
end

/- the text C6 -/
section
namespace Go.Proofs.Ytlpkicjijlcbfaa
open Go.RowKit Go.Dx

end Go.Proofs.Ytlpkicjijlcbfaa
end

/- the text C7 -/
section
namespace Go.Proofs.Ytlpkicjijlcbfaa
open Go.RowKit Go.Dx

end Go.Proofs.Ytlpkicjijlcbfaa
end

/- the text C8 -/
section
namespace Go.Proofs.Ytlpkicjijlcbfaa
open Go.RowKit Go.Dx

abbrev Hd := Option Addr × Nat × Nat
def hv (h : Hd) : Value := .slice h.1 h.2.1 h.2.2
/-- A page: the slice of its lines, and each line. -/
structure Pg (w : World) (a : Option Addr) (n c : Nat) (hs : List Hd) (p : List (List UInt8)) : Prop where
  top : Sl w 1 a n c (hs.map hv)
  len : hs.length = p.length
  row : ∀ (i : Nat) (h : Hd) (r : List UInt8), hs[i]? = some h → p[i]? = some r → Sl w 1 h.1 h.2.1 h.2.2 (r.map B8)
theorem Pg.below {w w' : World} {a : Option Addr} {n c : Nat} {hs : List Hd} {p : List (List UInt8)} (h : Pg w a n c hs p) (hb : Below w.heap.size w w') : Pg w' a n c hs p :=
  ⟨h.top.below hb, h.len, fun i x r h1 h2 => (h.row i x r h1 h2).below hb⟩
theorem Pg.drew {w : World} {a : Option Addr} {n c : Nat} {hs : List Hd} {p : List (List UInt8)} (h : Pg w a n c hs p) : Pg w.drew a n c hs p :=
  ⟨h.top.drew, h.len, fun i x r h1 h2 => (h.row i x r h1 h2).drew⟩
theorem Pg.n_eq {w : World} {a : Option Addr} {n c : Nat} {hs : List Hd} {p : List (List UInt8)} (h : Pg w a n c hs p) : n = p.length := by rw [h.top.n_eq, h.len]
theorem Pg.get {w : World} {a : Option Addr} {n c : Nat} {hs : List Hd} {p : List (List UInt8)} (h : Pg w a n c hs p) {i : Nat} {r : List UInt8} (hr : p[i]? = some r) :
    ∃ a' c', (hs.map hv)[i]? = some (.slice a' r.length c') ∧ Sl w 1 a' r.length c' (r.map B8) := by
  have hi : i < hs.length := by rw [h.len]; exact (List.getElem?_eq_some_iff.1 hr).1
  have hx : hs[i]? = some hs[i] := by simp [hi]
  have h1 := h.row i _ r hx hr
  have h2 := h1.n_eq
  refine ⟨hs[i].1, hs[i].2.2, ?_, ?_⟩
  · rw [List.getElem?_map, hx]; unfold hv; rw [← h2]; rfl
  · rw [← h2]; exact h1

section
variable {w : World} {ops : Array Oper} {rest : List Oper} {act : Act} {Q : Exit → Act → World → Prop} {ty : TypeId} {pos : String} {after : Array Edge}
end

end Go.Proofs.Ytlpkicjijlcbfaa
end

/- the text Eq -/
section
/- slices.Equal on bytes, slices.EqualFunc on pages. -/
namespace Go.Proofs.Ytlpkicjijlcbfaa
open Go.RowKit Go.Dx


set_option maxHeartbeats 400000 in
theorem eq_bytes (l1 l2 : List UInt8) (a1 a2 : Option Addr) (n1 n2 c1 c2 : Nat) (w : World) (h1 : Sl w 1 a1 n1 c1 (l1.map B8)) (h2 : Sl w 1 a2 n2 c2 (l2.map B8)) :
    Calls Try.prog 77 #[.slice a1 n1 c1, .slice a2 n2 c2] w (Still (.bool (decide (l1 = l2))) w) := by
  obtain rfl := h1.n_eq
  obtain rfl := h2.n_eq
  have hm1 := Nat.le_trans h1.le h1.cap
  have hm2 := Nat.le_trans h2.le h2.cap
  unfold maxLen at hm1 hm2
  by_cases hlen : l1.length = l2.length
  · have hb := eq_nat hlen
    have hle1 : l1.length ≤ l2.length := by omega
    have hle2 : l2.length ≤ l1.length := by omega
    have HL := hide hlen
    clear hlen
    go_enter Try.func77, Try.ntmps77
    go_wp2
    go_loopg [13] l1.length (fun g i w' => ∃ (k n : Nat), k ≤ l1.length ∧ g = l1.length - k ∧ l1.take k = l2.take k ∧ i = .int .i64 k ∧ w' = w.drewN n)
    case atStart => exact ⟨0, 0, by omega, by omega, rfl, rfl, rfl⟩
    case round =>
      obtain ⟨k, nq, hk, hg, ht, rfl, rfl⟩ := hrel
      have HG := hide hg
      have HT := hide ht
      clear hg ht
      by_cases hkl : k < l1.length
      · obtain ⟨b1, o1, rfl, hb1, hc1⟩ := h1.ex (by simp; omega)
        obtain ⟨b2, o2, rfl, hb2, hc2⟩ := h2.ex (by simp; omega)
        obtain ⟨x, hx⟩ : ∃ x, l1[k]? = some x := ⟨l1[k], by simp [hkl]⟩
        obtain ⟨y, hy⟩ : ∃ y, l2[k]? = some y := ⟨l2[k]'(by omega), by simp⟩
        have hx1 : w.cell? ⟨b1, o1 + k, none⟩ = some (.int .u8 (x.toNat : Int)) := hc1 k _ (by rw [List.getElem?_map, hx]; rfl)
        have hy1 : w.cell? ⟨b2, o2 + k, none⟩ = some (.int .u8 (y.toNat : Int)) := hc2 k _ (by rw [List.getElem?_map, hy]; rfl)
        have HX := hide (same_step hx hy HT.out)
        clear hc1 hc2 hx hy
        by_cases hxy : x = y
        · have HE := hide (HX.out.1 hxy)
          subst hxy
          have hn : ((x.toNat : Int) != (x.toNat : Int)) = false := by simp
          go_wp2
          go_quiet (fail)
          go_wp2
          go_roundg (l1.length - (k + 1))
          case measure => have := HG.out; omega
          case rel => exact ⟨k + 1, _, by omega, rfl, HE.out, by go_num, by first | rfl | exact World.drewN_drewN _ _ _⟩
        · have hn : ((x.toNat : Int) != (y.toNat : Int)) = true := neq_nat (fun e => hxy (UInt8.toNat_inj.1 e))
          have HE := hide (ne_of_take (fun e => hxy (HX.out.2 e)))
          have hne : Value.bool (decide (l1 = l2)) = .bool false := by rw [decide_eq_false HE.out]
          have HN := hide hne
          clear hne hxy
          go_wp2
          go_quiet (fail)
          go_wp2
          go_ret
          exact ⟨by rw [HN.out]; rfl, _, World.drewN_drewN _ _ _⟩
      · obtain rfl : k = l1.length := by omega
        go_wp2
        go_ret
        have : l1 = l2 := by have := HT.out; rw [List.take_length, List.take_of_length_le (by omega)] at this; exact this
        exact ⟨by rw [decide_eq_true this]; rfl, _, rfl⟩
  · have hb := neq_nat hlen
    have HN := hide (decide_eq_false (fun e : l1 = l2 => hlen (by rw [e])))
    clear hlen
    go_enter Try.func77, Try.ntmps77
    go_wp2
    go_ret
    exact ⟨by rw [HN.out]; rfl, 0, rfl⟩




end Go.Proofs.Ytlpkicjijlcbfaa
end

/- the text D26 -/
section
/- Chapter 08: the law's example. -/
set_option linter.unusedVariables false
namespace Go.Proofs.Ytlpkicjijlcbfaa
open Go.RowKit Go.Dx Go.Al
set_option maxRecDepth 100000 in
set_option maxHeartbeats 8000000 in
theorem law8_example (w : World) : Calls Try.prog 45 #[] w fun e w' => ∃ H, e = .returned (TH.v H) ∧ TaIs w' H exD ∧ Below w.heap.size w w' := by
  have X0 := (Box.new w 29 #[.slice none 0 0, .slice none 0 0, .slice none 0 0, .slice none 0 0, .slice none 0 0, .slice none 0 0, .slice none 0 0]).alloc (.cells #[.slice none 0 0, .slice none 0 0, .slice none 0 0, .slice none 0 0, .slice none 0 0, .slice none 0 0, .slice none 0 0] 29)
  have X1 := Box.new (w.alloc (.cells #[.slice none 0 0, .slice none 0 0, .slice none 0 0, .slice none 0 0, .slice none 0 0, .slice none 0 0, .slice none 0 0] 29)) 29 #[.slice none 0 0, .slice none 0 0, .slice none 0 0, .slice none 0 0, .slice none 0 0, .slice none 0 0, .slice none 0 0]
  rw [show (w.alloc (.cells #[.slice none 0 0, .slice none 0 0, .slice none 0 0, .slice none 0 0, .slice none 0 0, .slice none 0 0, .slice none 0 0] 29)).heap.size = w.heap.size + 1 by simp] at X1
  have hb0 : Below w.heap.size w ((w.alloc (.cells #[.slice none 0 0, .slice none 0 0, .slice none 0 0, .slice none 0 0, .slice none 0 0, .slice none 0 0, .slice none 0 0] 29)).alloc (.cells #[.slice none 0 0, .slice none 0 0, .slice none 0 0, .slice none 0 0, .slice none 0 0, .slice none 0 0, .slice none 0 0] 29)) := (blo w _).trans ((blo _ _).mono (by simp))
  obtain ⟨g1, hg1⟩ : ∃ g1, g1 = w.heap.size + 1 := ⟨_, rfl⟩
  have hg1w : w.heap.size ≤ g1 := by omega
  have hg01 : some w.heap.size ≠ some g1 := by simp; omega
  go_enter Try.func45, Try.ntmps45
  go_wp2_with fail
  rw [← hg1] at X1 ⊢
  clear hg1
  generalize (w.alloc (.cells _ 29)).alloc (.cells _ 29) = w2 at *
  go_loopg [2] 2 (fun gh v w' => ∃ (k : Nat) (v0 v1 : Value), k ≤ 2 ∧ gh = 2 - k ∧ v = .int .i64 (k : Int) ∧ Box w' g1 29 [v0, v1, .slice none 0 0, .slice none 0 0, .slice none 0 0, .slice none 0 0, .slice none 0 0] ∧ Box w' w.heap.size 29 [.slice none 0 0, .slice none 0 0, .slice none 0 0, .slice none 0 0, .slice none 0 0, .slice none 0 0, .slice none 0 0] ∧ (k ≤ 0 → v0 = .slice none 0 0) ∧ (k ≤ 1 → v1 = .slice none 0 0) ∧ (1 ≤ k → RO w' w.heap.size v0 (letters 26 ++ twoD)) ∧ (2 ≤ k → RO w' w.heap.size v1 (letters 26 ++ twoD)) ∧ (2 ≤ k → apt v0 v1) ∧ Below w.heap.size w w')
  case atStart => exact ⟨0, _, _, by omega, by omega, rfl, X1, X0, fun _ => rfl, fun _ => rfl, fun h => by omega, fun h => by omega, fun h => by omega, hb0⟩
  case round =>
    clear X0 X1 hb0
    obtain ⟨k, v0, v1, hk, hg, rfl, hX1, hX0, hn0, hn1, hr0, hr1, hap, hb⟩ := hrel
    have HG := hide hg
    clear hg
    by_cases hkl : k < 2
    · obtain ⟨wo, rfl⟩ : ∃ wo : World, wo = wr := ⟨_, rfl⟩
      obtain ⟨V, hV⟩ : ∃ V : List Value, V = [v0, v1, .slice none 0 0, .slice none 0 0, .slice none 0 0, .slice none 0 0, .slice none 0 0] := ⟨_, rfl⟩
      have hVk : V[k]? = some (.slice none 0 0) := by
        rw [hV]
        rcases k with _ | _ | k
        · rw [hn0 (by omega)]; rfl
        · rw [hn1 (by omega)]; rfl
        · omega
      have hVl : V.length = 7 := by rw [hV]; rfl
      have hkV7 : k < V.length := by omega
      rw [← hV] at hX1
      have HV := hide hV
      have hg1o : g1 < wo.heap.size := hX1.lt
      have hg0o : w.heap.size < wo.heap.size := hX0.lt
      have d0 : decide (k < 2) = true := decide_eq_true hkl
      have d0' : decide ((k : Int) < 2) = true := decide_eq_true (by omega)
      have hbx0 : Box wo g1 29 (V.set k (.slice none 0 0)) := by rw [set_same hVk]; exact hX1
      have HN1 := hide hn1
      have HBO := hide hbx0
      clear hV hVk hX1 hn0 hn1 hVl
      go_wp2_with fail
      go_loopg [3] 26 (fun gh v w' => ∃ (i : Nat) (ps : List RH) (a : Option Addr) (c : Nat), i ≤ 26 ∧ gh = 26 - i ∧ ps.length = i ∧ v = .int .i64 (i : Int) ∧ Hid (rus ps = letters i) ∧ Box w' g1 29 (V.set k (.slice a ps.length c)) ∧ Box w' w.heap.size 29 [.slice none 0 0, .slice none 0 0, .slice none 0 0, .slice none 0 0, .slice none 0 0, .slice none 0 0, .slice none 0 0] ∧ ORu w' 84 5 wo.heap.size a c ps ∧ wo.grownBy w' (some g1))
      case atStart => exact ⟨0, [], none, 0, by omega, by omega, rfl, rfl, hide rfl, hbx0, hX0, ORu.nil _ _ _ _, grown_of_below (Below.refl _ _) _⟩
      case round =>
        clear hbx0
        obtain ⟨i, ps, a, c, hi, hgi, hpl, rfl, HPS, hBx, hB0, hOR, hgo⟩ := hrel
        have HGI := hide hgi
        have HPL := hide hpl
        have hple : ps.length ≤ 26 := by omega
        clear hgi hpl
        have hkV : k < (V.set k (.slice a ps.length c)).length := by rw [List.length_set]; exact hkV7
        by_cases hil : i < 26
        · have HVC : Hid ((V.set k (.slice a ps.length c))[k]? = some (.slice a ps.length c)) := hide (by rw [List.getElem?_set_self hkV7])
          obtain ⟨cu, hcu⟩ : ∃ cu, cu = UInt8.ofNat (97 + i) := ⟨_, rfl⟩
          obtain ⟨cv, hcv⟩ : ∃ cv, cv = UInt8.ofNat (1 + i) := ⟨_, rfl⟩
          have HU97 : Hid (([.int .u8 (97 + (i : Int))] : List Value) = [cu].map B8) := hide (by
            have : (cu.toNat : Int) = 97 + (i : Int) := by rw [hcu, UInt8.toNat_ofNat']; omega
            show _ = [Value.int .u8 (cu.toNat : Int)]
            rw [this])
          have HU1 : Hid (([.int .u8 (1 + (i : Int))] : List Value) = [cv].map B8) := hide (by
            have : (cv.toNat : Int) = 1 + (i : Int) := by rw [hcv, UInt8.toNat_ofNat']; omega
            show _ = [Value.int .u8 (cv.toNat : Int)]
            rw [this])
          have HPS2 : Hid (∀ h, Hid (rus (ps ++ [((⟨⟨#[cu]⟩, 0, [cv]⟩ : Ru), h)]) = letters (i + 1))) := hide (fun h => hide (by rw [letters_step, ← HPS.out, hcu, hcv]; unfold rus; simp))
          clear hcu hcv
          have HNE : Hid (∀ b, wr.heap.size ≤ b → some b ≠ a.map (·.block)) := hide (fun b hb => own_map hOR.top hb)
          go_wp2_with fail
          refine wp_region_chain4 21 (fun w w' => w.grownBy w' (a.map (·.block))) (GEx wr wo 29 84 5 g1 w.heap.size (V.set k (.slice a ps.length c)) [.slice none 0 0, .slice none 0 0, .slice none 0 0, .slice none 0 0, .slice none 0 0, .slice none 0 0, .slice none 0 0] (ps.length + 1) ps (⟨⟨#[cu]⟩, 0, [cv]⟩ : Ru)) [⟨17, 29, [], fun _ _ => True⟩] [⟨0, 12, [12], fun vs _ => vs = [.int .i64 (k : Int)]⟩, ⟨1, 13, [13], fun vs _ => vs = [.int .i64 (k : Int)]⟩, ⟨2, 14, [14], fun vs _ => vs = [.pointer (some ⟨g1, 0, none⟩)]⟩, ⟨3, 15, [15], fun vs _ => vs = [.pointer (some ⟨g1, k, none⟩)]⟩, ⟨4, 16, [16], fun vs _ => vs = [.pointer (some ⟨g1, k, none⟩)]⟩, ⟨5, 17, [17], fun vs _ => vs = [.slice a ps.length c]⟩, ⟨6, 18, [18], fun vs _ => vs = [.int .i64 (i : Int)]⟩, ⟨7, 19, [19], fun vs _ => vs = [.int .i64 (97 + (i : Int))]⟩, ⟨8, 20, [20], fun vs _ => vs = [.int .u8 (97 + (i : Int))]⟩, ⟨9, 21, [21], fun vs w' => ∃ b, vs = [.slice (some ⟨b, 0, none⟩) 1 1] ∧ wr.heap.size ≤ b ∧ Own w' 0 5 1 (some ⟨b, 0, none⟩) 1 1 [.int .u8 (97 + (i : Int))]⟩, ⟨10, 22, [22], fun vs _ => vs = [.string ⟨#[cu]⟩]⟩, ⟨11, 23, [23], fun vs _ => vs = [.int .i64 (i : Int)]⟩, ⟨12, 24, [24], fun vs _ => vs = [.int .i64 (1 + (i : Int))]⟩, ⟨13, 25, [25], fun vs _ => vs = [.int .u8 (1 + (i : Int))]⟩, ⟨14, 26, [26], fun vs w' => ∃ b, vs = [.slice (some ⟨b, 0, none⟩) 1 1] ∧ wr.heap.size ≤ b ∧ Own w' 0 5 1 (some ⟨b, 0, none⟩) 1 1 ([cv].map B8)⟩, ⟨15, 27, [27], fun vs w' => ∃ b, vs = [.agg #[.string ⟨#[cu]⟩, .int .i64 0, .slice (some ⟨b, 0, none⟩) 1 1]] ∧ wr.heap.size ≤ b ∧ Own w' 0 5 1 (some ⟨b, 0, none⟩) 1 1 ([cv].map B8)⟩, ⟨16, 28, [28], fun vs w' => ∃ b2, vs = [.slice (some ⟨b2, 0, none⟩) 1 1] ∧ wr.heap.size ≤ b2 ∧ ∃ b, wr.heap.size ≤ b ∧ Sl w' 3 (some ⟨b2, 0, none⟩) 1 1 (rc ((⟨⟨#[cu]⟩, 0, [cv]⟩ : Ru), (some ⟨b, 0, none⟩, 1, 1))) ∧ Own w' 0 5 1 (some ⟨b, 0, none⟩) 1 1 ([cv].map B8)⟩, ⟨18, 30, [30], fun vs _ => vs = [.pointer (some ⟨g1, 0, none⟩)]⟩, ⟨19, 31, [31], fun vs _ => vs = [.pointer (some ⟨g1, k, none⟩)]⟩, ⟨20, 32, [32], fun vs _ => vs = [.pointer (some ⟨g1, k, none⟩)]⟩] (by kernel_rfl) (by kernel_rfl) ?_ (fun _ _ h => grown_of_below h _) GEx.mono ?_ ?_ ?_ ?_
          · exact (Still.below 1 : Below wr.heap.size wr (wr.drewN 1))
          · simp only [All]
            refine ⟨(fun _ _ _ _ h => h), (fun _ _ _ _ h => h), (fun _ _ _ _ h => h), (fun _ _ _ _ h => h), (fun _ _ _ _ h => h), (fun _ _ _ _ h => h), (fun _ _ _ _ h => h), (fun _ _ _ _ h => h), (fun _ _ _ _ h => h), (fun vs w1 w2 hr ⟨b, h1, h0, h2⟩ => ⟨b, h1, h0, h2.kept hr (fun q hq => by cases hq; exact HNE.out b h0)⟩), (fun _ _ _ _ h => h), (fun _ _ _ _ h => h), (fun _ _ _ _ h => h), (fun _ _ _ _ h => h), (fun vs w1 w2 hr ⟨b, h1, h0, h2⟩ => ⟨b, h1, h0, h2.kept hr (fun q hq => by cases hq; exact HNE.out b h0)⟩), (fun vs w1 w2 hr ⟨b, h1, h0, h2⟩ => ⟨b, h1, h0, h2.kept hr (fun q hq => by cases hq; exact HNE.out b h0)⟩), (fun vs w1 w2 hr ⟨b2, h1, h2, b, h0, h3, h4⟩ => ⟨b2, h1, h2, b, h0, h3.grown hr (fun q hq => by cases hq; exact HNE.out b2 h2), h4.kept hr (fun q hq => by cases hq; exact HNE.out b h0)⟩), (fun _ _ _ _ h => h), (fun _ _ _ _ h => h), (fun _ _ _ _ h => h), trivial⟩
          · intro m c hc o ho a' w' hG hfr hdep
            rcases m with _ | m
            · cases hc
              obtain rfl := Option.some.inj ho
              have hb : Below wr.heap.size wr w' := hG
              have g17 : a'.tmps[17]?.getD undef = .slice a ps.length c := by have h := hdep 5 _ rfl (by kernel_rfl); simpa using h
              obtain ⟨b2, g28, hb2, b8, _, hs2, ho8⟩ := hdep 16 _ rfl (by kernel_rfl)
              simp at g28
              clear hfr hdep hG
              have hOw := hOR.below hb
              have hsz9 := Nat.le_trans hgo.size hb.size
              refine app_ru2 rfl _ _ rfl w' wo.heap.size a c ps (by show a'.tmps.getD 17 undef = _; simpa using g17) hOw ((⟨⟨#[cu]⟩, 0, [cv]⟩ : Ru), (some ⟨b8, 0, none⟩, 1, 1)) ho8 (by show (1 : Nat) ≤ 1000; decide) (some ⟨b2, 0, none⟩) 1 (by show a'.tmps.getD 28 undef = _; simpa using g28) hs2 (by omega) hsz9 (Below.refl _ _) ?_
              intro a3 c3 w7 ho7 hb7 hgr7
              go_wp2
              exact ⟨rfl, _, rfl, hgr7, ⟨a3, c3, rfl, b8, ho7⟩, (hBx.under hb).below hb7 hg1o, (hB0.under hb).below hb7 hg0o, grown_below (grown_below hgo (hb.mono hgo.size)) hb7, Nat.le_trans hb.size hb7.size⟩
            · cases hc
          · simp only [All]
            refine ⟨?_, ?_, ?_, ?_, ?_, ?_, ?_, ?_, ?_, ?_, ?_, ?_, ?_, ?_, ?_, ?_, ?_, ?_, ?_, ?_, trivial⟩
            · intro o ho a' w' hfr hdep hst
              obtain rfl := Option.some.inj ho
              have g2 : a'.tmps[2]?.getD undef = .int .i64 (k : Int) := by have h := hfr 2 (by kernel_rfl); simpa using h
              clear ho hfr hdep hst
              go_wp2_with fail
              exact ⟨rfl, _, rfl, Below.refl _ _, rfl⟩
            · intro o ho a' w' hfr hdep hst
              obtain rfl := Option.some.inj ho
              have g2 : a'.tmps[2]?.getD undef = .int .i64 (k : Int) := by have h := hfr 2 (by kernel_rfl); simpa using h
              clear ho hfr hdep hst
              go_wp2_with fail
              exact ⟨rfl, _, rfl, Below.refl _ _, rfl⟩
            · intro o ho a' w' hfr hdep hst
              obtain rfl := Option.some.inj ho
              have g1 : a'.tmps[1]?.getD undef = .pointer (some ⟨g1, 0, none⟩) := by have h := hfr 1 (by kernel_rfl); simpa using h
              clear ho hfr hdep hst
              go_wp2_with fail
              exact ⟨rfl, _, rfl, Below.refl _ _, rfl⟩
            · intro o ho a' w' hfr hdep hst
              obtain rfl := Option.some.inj ho
              have g14 : a'.tmps[14]?.getD undef = .pointer (some ⟨g1, 0, none⟩) := by have h := hdep 2 _ rfl (by kernel_rfl); simpa using h
              have g13 : a'.tmps[13]?.getD undef = .int .i64 (k : Int) := by have h := hdep 1 _ rfl (by kernel_rfl); simpa using h
              clear ho hfr hdep hst
              go_wp2_with fail
              exact ⟨rfl, _, rfl, Below.refl _ _, rfl⟩
            · intro o ho a' w' hfr hdep hst
              obtain rfl := Option.some.inj ho
              have g15 : a'.tmps[15]?.getD undef = .pointer (some ⟨g1, k, none⟩) := by have h := hdep 3 _ rfl (by kernel_rfl); simpa using h
              clear ho hfr hdep hst
              go_wp2_with fail
              exact ⟨rfl, _, rfl, Below.refl _ _, rfl⟩
            · intro o ho a' w' hfr hdep hst
              obtain rfl := Option.some.inj ho
              have g16 : a'.tmps[16]?.getD undef = .pointer (some ⟨g1, k, none⟩) := by have h := hdep 4 _ rfl (by kernel_rfl); simpa using h
              obtain ⟨j, _, _, hG⟩ := hst
              clear ho hfr hdep
              have hcl := (hG.box hBx).at_ HVC.out
              clear hG
              go_wp2_with fail
              exact ⟨rfl, _, rfl, Below.refl _ _, rfl⟩
            · intro o ho a' w' hfr hdep hst
              obtain rfl := Option.some.inj ho
              have g3 : a'.tmps[3]?.getD undef = .int .i64 (i : Int) := by have h := hfr 3 (by kernel_rfl); simpa using h
              clear ho hfr hdep hst
              go_wp2_with fail
              exact ⟨rfl, _, rfl, Below.refl _ _, rfl⟩
            · intro o ho a' w' hfr hdep hst
              obtain rfl := Option.some.inj ho
              have g18 : a'.tmps[18]?.getD undef = .int .i64 (i : Int) := by have h := hdep 6 _ rfl (by kernel_rfl); simpa using h
              clear ho hfr hdep hst
              go_wp2_with fail
              exact ⟨rfl, _, rfl, Below.refl _ _, rfl⟩
            · intro o ho a' w' hfr hdep hst
              obtain rfl := Option.some.inj ho
              have g19 : a'.tmps[19]?.getD undef = .int .i64 (97 + (i : Int)) := by have h := hdep 7 _ rfl (by kernel_rfl); simpa using h
              clear ho hfr hdep hst
              go_wp2_with fail
              exact ⟨rfl, _, rfl, Below.refl _ _, rfl⟩
            · intro o ho a' w' hfr hdep hst
              obtain rfl := Option.some.inj ho
              have g20 : a'.tmps[20]?.getD undef = .int .u8 (97 + (i : Int)) := by have h := hdep 8 _ rfl (by kernel_rfl); simpa using h
              obtain ⟨j, _, _, hG⟩ := hst
              clear ho hfr hdep
              have hsz := hG.size
              clear hG
              go_wp2_with fail
              exact ⟨rfl, _, rfl, blo _ _, _, rfl, hsz, Own.built w' 0 5 1 1 #[.int .u8 (97 + (i : Int))] (Nat.zero_le _) rfl (by decide)⟩
            · intro o ho a' w' hfr hdep hst
              obtain rfl := Option.some.inj ho
              obtain ⟨b8, g21, hb8, ho8⟩ := hdep 9 _ rfl (by kernel_rfl)
              simp at g21
              clear ho hfr hdep hst
              have hs8 := ho8.sl
              rw [HU97.out] at hs8
              refine to_str 22 _ (some ⟨b8, 0, none⟩) 1 1 [cu] (by show a'.tmps.getD 21 undef = _; simpa using g21) hs8 ?_
              go_wp2_with fail
              exact ⟨rfl, _, rfl, Below.refl _ _, rfl⟩
            · intro o ho a' w' hfr hdep hst
              obtain rfl := Option.some.inj ho
              have g3 : a'.tmps[3]?.getD undef = .int .i64 (i : Int) := by have h := hfr 3 (by kernel_rfl); simpa using h
              clear ho hfr hdep hst
              go_wp2_with fail
              exact ⟨rfl, _, rfl, Below.refl _ _, rfl⟩
            · intro o ho a' w' hfr hdep hst
              obtain rfl := Option.some.inj ho
              have g23 : a'.tmps[23]?.getD undef = .int .i64 (i : Int) := by have h := hdep 11 _ rfl (by kernel_rfl); simpa using h
              clear ho hfr hdep hst
              go_wp2_with fail
              exact ⟨rfl, _, rfl, Below.refl _ _, rfl⟩
            · intro o ho a' w' hfr hdep hst
              obtain rfl := Option.some.inj ho
              have g24 : a'.tmps[24]?.getD undef = .int .i64 (1 + (i : Int)) := by have h := hdep 12 _ rfl (by kernel_rfl); simpa using h
              clear ho hfr hdep hst
              go_wp2_with fail
              exact ⟨rfl, _, rfl, Below.refl _ _, rfl⟩
            · intro o ho a' w' hfr hdep hst
              obtain rfl := Option.some.inj ho
              have g25 : a'.tmps[25]?.getD undef = .int .u8 (1 + (i : Int)) := by have h := hdep 13 _ rfl (by kernel_rfl); simpa using h
              obtain ⟨j, _, _, hG⟩ := hst
              clear ho hfr hdep
              have hsz := hG.size
              clear hG
              go_wp2_with fail
              refine ⟨rfl, _, rfl, blo _ _, _, rfl, hsz, ?_⟩
              rw [← HU1.out]
              exact Own.built w' 0 5 1 1 #[.int .u8 (1 + (i : Int))] (Nat.zero_le _) rfl (by decide)
            · intro o ho a' w' hfr hdep hst
              obtain rfl := Option.some.inj ho
              have g22 : a'.tmps[22]?.getD undef = .string ⟨#[cu]⟩ := by have h := hdep 10 _ rfl (by kernel_rfl); simpa using h
              obtain ⟨b8, g26, hb8, ho8⟩ := hdep 14 _ rfl (by kernel_rfl)
              simp at g26
              clear ho hfr hdep hst
              go_wp2_with fail
              exact ⟨rfl, _, rfl, Below.refl _ _, b8, rfl, hb8, ho8⟩
            · intro o ho a' w' hfr hdep hst
              obtain rfl := Option.some.inj ho
              obtain ⟨b8, g27, hb8, ho8⟩ := hdep 15 _ rfl (by kernel_rfl)
              simp at g27
              obtain ⟨j, _, _, hG⟩ := hst
              clear ho hfr hdep
              have hsz := hG.size
              clear hG
              go_wp2_with fail
              exact ⟨rfl, _, rfl, blo _ _, _, rfl, hsz, b8, hb8, Sl.fresh _ _ 3 1 (rc ((⟨⟨#[cu]⟩, 0, [cv]⟩ : Ru), (some ⟨b8, 0, none⟩, 1, 1))) rfl (by decide), ho8.alloc _⟩
            · intro o ho a' w' hfr hdep hst
              obtain rfl := Option.some.inj ho
              have g1 : a'.tmps[1]?.getD undef = .pointer (some ⟨g1, 0, none⟩) := by have h := hfr 1 (by kernel_rfl); simpa using h
              clear ho hfr hdep hst
              go_wp2_with fail
              exact ⟨rfl, _, rfl, Below.refl _ _, rfl⟩
            · intro o ho a' w' hfr hdep hst
              obtain rfl := Option.some.inj ho
              have g30 : a'.tmps[30]?.getD undef = .pointer (some ⟨g1, 0, none⟩) := by have h := hdep 17 _ rfl (by kernel_rfl); simpa using h
              have g12 : a'.tmps[12]?.getD undef = .int .i64 (k : Int) := by have h := hdep 0 _ rfl (by kernel_rfl); simpa using h
              clear ho hfr hdep hst
              go_wp2_with fail
              exact ⟨rfl, _, rfl, Below.refl _ _, rfl⟩
            · intro o ho a' w' hfr hdep hst
              obtain rfl := Option.some.inj ho
              have g31 : a'.tmps[31]?.getD undef = .pointer (some ⟨g1, k, none⟩) := by have h := hdep 18 _ rfl (by kernel_rfl); simpa using h
              clear ho hfr hdep hst
              go_wp2_with fail
              exact ⟨rfl, _, rfl, Below.refl _ _, rfl⟩
          · intro g w7 hG hp
            obtain ⟨⟨a7, c7, p29, b7, ho7⟩, gB, gZ, gG, _⟩ := hG
            have p32 := hp 19 _ rfl
            clear hp
            simp at p29 p32
            simp only [List.drop_succ_cons, List.drop_zero, List.map_cons, List.map_nil, putAll, Act.put, List.setIfInBounds_toArray, List.set_cons_succ, List.set_cons_zero, List.cons_append, List.nil_append, p29, p32]
            go_wp2_with (with_reducible refine store_cell 23 _ _ 29 g1 k (V.set k (.slice a ps.length c)) (.slice a7 (ps.length + 1) c7) size_rules gB rfl rfl rfl rfl hkV ?_; intro w8 hx8 hg8 hs8)
            rw [List.set_set] at hx8
            have ho8 := ho7.kept hg8 gB (by decide) (by decide)
            have hz8 := gZ.grown hg8 hg01
            have hgo8 := grown_trans gG hg8
            go_roundg (26 - (i + 1))
            case measure => have := HGI.out; omega
            case rel => exact ⟨i + 1, ps ++ [((⟨⟨#[cu]⟩, 0, [cv]⟩ : Ru), (some ⟨b7, 0, none⟩, 1, 1))], a7, c7, by omega, rfl, by rw [List.length_append, HPL.out]; rfl, by go_num, HPS2.out _, by rw [List.length_append]; exact hx8, hz8, ho8, hgo8⟩
        · obtain rfl : i = 26 := by omega
          obtain ⟨wb, hwb⟩ : ∃ wb, wb = ((wr.alloc (.cells #[.int .u8 27] 5)).alloc (.cells #[.int .u8 28] 5)).alloc (.cells #[.string ⟨#[97, 110]⟩, .int .i64 0, .slice (some ⟨wr.heap.size, 0, none⟩) 1 1, .string ⟨#[97, 110, 100]⟩, .int .i64 0, .slice (some ⟨wr.heap.size + 1, 0, none⟩) 1 1] 84) := ⟨_, rfl⟩
          obtain ⟨qs, hqs⟩ : ∃ qs : List RH, qs = [(⟨⟨#[97, 110]⟩, 0, [27]⟩, (some ⟨wr.heap.size, 0, none⟩, 1, 1)), (⟨⟨#[97, 110, 100]⟩, 0, [28]⟩, (some ⟨wr.heap.size + 1, 0, none⟩, 1, 1))] := ⟨_, rfl⟩
          have hs1 : (wr.alloc (.cells #[.int .u8 27] 5)).heap.size = wr.heap.size + 1 := by simp
          have hs2 : ((wr.alloc (.cells #[.int .u8 27] 5)).alloc (.cells #[.int .u8 28] 5)).heap.size = wr.heap.size + 1 + 1 := by simp
          have o1 : Own wb 0 5 1 (some ⟨wr.heap.size, 0, none⟩) 1 1 [.int .u8 27] := by rw [hwb]; exact ((Own.built wr 0 5 1 1 #[.int .u8 27] (Nat.zero_le _) rfl (by decide)).alloc _).alloc _
          have o2 : Own wb 0 5 1 (some ⟨wr.heap.size + 1, 0, none⟩) 1 1 [.int .u8 28] := by
            rw [hwb, ← hs1]; exact (Own.built _ 0 5 1 1 #[.int .u8 28] (Nat.zero_le _) rfl (by decide)).alloc _
          have hrows : ∀ p ∈ qs, Own wb 0 5 1 p.2.1 p.2.2.1 p.2.2.2 (p.1.cells.map B8) ∧ p.1.text.size ≤ 1000 := by
            rw [hqs]
            intro p hp
            simp only [List.mem_cons, List.not_mem_nil, or_false] at hp
            rcases hp with rfl | rfl
            · exact ⟨o1, show (2 : Nat) ≤ 1000 by decide⟩
            · exact ⟨o2, show (3 : Nat) ≤ 1000 by decide⟩
          have hyq : Sl wb 3 (some ⟨wr.heap.size + 1 + 1, 0, none⟩) qs.length 2 (qs.flatMap rc) := by
            have h := Sl.fresh ((wr.alloc (.cells #[.int .u8 27] 5)).alloc (.cells #[.int .u8 28] 5)) 84 3 2 (qs.flatMap rc) (by rw [hqs]; rfl) (by decide)
            rw [hs2] at h
            rw [hwb]
            rw [hqs] at h ⊢
            exact h
          have hba : Below wr.heap.size wr wb := by
            rw [hwb]
            exact ((blo wr _).trans ((blo _ _).mono (by rw [hs1]; omega))).trans ((blo _ _).mono (by rw [hs2]; omega))
          have hql : qs.length = 2 := by rw [hqs]; rfl
          have hrq : rus qs = twoD := by rw [hqs]; rfl
          have HQL := hide hql
          have HRQ := hide hrq
          have HWB := hide hwb
          have HYQ := hide hyq
          have hOa := hOR.below hba
          have hBa := hBx.under hba
          have hB0a := hB0.under hba
          have hgoa := grown_below hgo (hba.mono hgo.size)
          have hcl : wr.cell? ⟨g1, k, none⟩ = some (.slice a ps.length c) := hBx.at_ (by rw [List.getElem?_set_self hkV7])
          have hszb : wo.heap.size ≤ wb.heap.size := Nat.le_trans hgo.size hba.size
          clear hqs hwb hs1 hs2 o1 o2 hql hrq hyq hOR hBx hgo hba
          go_wp2_with (first
            | (at_builtin; rw [← HWB.out]; refine app_rus rfl _ _ rfl wb wo.heap.size a c ps qs rfl hOa hrows (some ⟨wr.heap.size + 1 + 1, 0, none⟩) 2 (by rw [HQL.out]; rfl) HYQ.out (by omega) (by rw [HQL.out]; omega) hszb (Below.refl _ _) ?_; intro a6 c6 w6 ho6 hb6 hgr6; refine hold ?_))
          refine hide ?_
          have hB6 := hBa.grown hgr6 (box_map hBa hOa.top (by decide))
          have hB06 := hB0a.grown hgr6 (box_map hB0a hOa.top (by decide))
          have hgo6 := grown_below hgoa hb6
          obtain ⟨nn, hnn⟩ : ∃ nn, Hid (ps.length + qs.length = nn) := ⟨_, hide rfl⟩
          rw [hnn.out]
          clear hBa hB0a hgoa hcl hgr6 hb6 hOa hrows hszb HWB HYQ hB0
          go_wp2_with (with_reducible refine hold_store ?_)
          refine hide ?_
          refine store_cell 23 _ _ 29 g1 k (V.set k (.slice a ps.length c)) (.slice a6 nn c6) size_rules hB6 rfl rfl rfl rfl hkV ?_; intro w8 hBx hg8 hs8
          rw [List.set_set] at hBx
          obtain rfl : nn = (ps ++ qs).length := by rw [List.length_append]; exact hnn.out.symm
          have hOR := ho6.kept hg8 hB6 (by decide) (by decide)
          have hB0 := hB06.grown hg8 hg01
          have hgo := grown_trans hgo6 hg8
          clear ho6 hB6 hB06 hgo6 hg8 hs8
          have HPQ : Hid (rus (ps ++ qs) = letters 26 ++ twoD) := hide (by unfold rus at HRQ ⊢; rw [List.map_append, HRQ.out]; have := HPS.out; unfold rus at this; rw [this])
          have HKN : Hid (∃ v0' v1', Box w8 g1 29 [v0', v1', .slice none 0 0, .slice none 0 0, .slice none 0 0, .slice none 0 0, .slice none 0 0] ∧ (k + 1 ≤ 0 → v0' = .slice none 0 0) ∧ (k + 1 ≤ 1 → v1' = .slice none 0 0) ∧ (1 ≤ k + 1 → RO w8 w.heap.size v0' (letters 26 ++ twoD)) ∧ (2 ≤ k + 1 → RO w8 w.heap.size v1' (letters 26 ++ twoD)) ∧ (2 ≤ k + 1 → apt v0' v1')) := by
            have hl := HV.out
            have hro : RO w8 w.heap.size (.slice a6 (ps ++ qs).length c6) (letters 26 ++ twoD) := ⟨a6, c6, ps ++ qs, rfl, hOR.mono (Nat.le_of_lt hg0o), HPQ.out⟩
            rw [hl] at hBx
            rcases k with _ | _ | k
            · exact hide ⟨_, v1, hBx, fun h => by omega, fun _ => HN1.out (by omega), fun _ => hro, fun h => by omega, fun h => by omega⟩
            · exact hide ⟨v0, _, hBx, fun h => by omega, fun h => by omega, fun _ => (hr0 (by omega)).kept hgo HBO.out, fun _ => hro, fun _ => apt_of (hr0 (by omega)) hOR.top⟩
            · omega
          have hbw := hb.grown hgo hb.size (fun q hq => by cases hq; exact hg1w)
          clear hBx hOR hr0 hr1
          go_wp2_with fail
          obtain ⟨v0', v1', z1, z2, z3, z4, z5, z6⟩ := HKN.out
          go_roundg (2 - (k + 1))
          case measure => have := HG.out; omega
          case rel => exact ⟨k + 1, v0', v1', by omega, rfl, by go_num, z1, hB0, z2, z3, z4, z5, z6, hbw⟩
    · obtain rfl : k = 2 := by omega
      have r0 := hr0 (by omega)
      have r1 := hr1 (by omega)
      have hapt := hap (by omega)
      clear hn0 hn1 hr0 hr1 hap hkl hk HG
      obtain ⟨w6, rfl⟩ : ∃ w' : World, w' = wr := ⟨_, rfl⟩
      obtain ⟨a5, c5, ps5, rfl, hO5, hp5⟩ := r0
      have r06 : RO w6 w.heap.size (.slice a5 ps5.length c5) (letters 26 ++ twoD) := ⟨a5, c5, ps5, rfl, hO5, hp5⟩
      clear hO5 hp5
      obtain ⟨L0, hL0⟩ : ∃ L0, L0 = ps5.length := ⟨_, rfl⟩
      rw [← hL0] at r06 hX1
      clear hL0
      have r16 := r1
      have hx6 := hX1
      have hz6 := hX0
      have hbw6 := hb
      clear r1 hX1 hX0 hb hapt
      have al := blo w6 (.cells #[.int .u8 1, .int .u8 2, .int .u8 3, .int .u8 4, .int .u8 5, .int .u8 6, .int .u8 7, .int .u8 8, .int .u8 9, .int .u8 10] 5)
      have ub2 : UB (w6.alloc (.cells #[.int .u8 1, .int .u8 2, .int .u8 3, .int .u8 4, .int .u8 5, .int .u8 6, .int .u8 7, .int .u8 8, .int .u8 9, .int .u8 10] 5)) (.slice (some ⟨w6.heap.size, 0, none⟩) 10 10) [1, 2, 3, 4, 5, 6, 7, 8, 9, 10] := UB.new w6 [1, 2, 3, 4, 5, 6, 7, 8, 9, 10] 10 rfl (by decide)
      have hxl := hx6.alloc (.cells #[.int .u8 1, .int .u8 2, .int .u8 3, .int .u8 4, .int .u8 5, .int .u8 6, .int .u8 7, .int .u8 8, .int .u8 9, .int .u8 10] 5)
      have hln : 2 < ([.slice a5 L0 c5, v1, .slice none 0 0, .slice none 0 0, .slice none 0 0, .slice none 0 0, .slice none 0 0] : List Value).length := by simp
      go_wp2_with (with_reducible refine store_cell 27 _ _ 29 g1 2 [.slice a5 L0 c5, v1, .slice none 0 0, .slice none 0 0, .slice none 0 0, .slice none 0 0, .slice none 0 0] (.slice (some ⟨w6.heap.size, 0, none⟩) 10 10) size_row hxl rfl rfl rfl rfl hln ?_; intro w7 hx7 hg7 hs7; refine hold ?_)
      refine hide ?_
      have ub2 := ub2.kept hg7 hxl
      have r07 := (r06.below al).kept hg7 hxl
      have r17 := (r16.below al).kept hg7 hxl
      have hz7 := (hz6.under al).grown hg7 hg01
      have hbw7 := (hbw6.trans (al.mono hbw6.size)).grown hg7 (by have := hbw6.size; have := al.size; omega) (fun q hq => by cases hq; exact hg1w)
      obtain ⟨s2, hs2⟩ : ∃ s : Value, s = .slice (some ⟨w6.heap.size, 0, none⟩) 10 10 := ⟨_, rfl⟩
      rw [← hs2] at ub2 hx7 ⊢
      have hx7 : Box w7 g1 29 [.slice a5 L0 c5, v1, s2, .slice none 0 0, .slice none 0 0, .slice none 0 0, .slice none 0 0] := hx7
      clear hs2 al hxl hln hg7 hs7 hx6 r06 r16 hz6 hbw6
      have al := blo w7 (.cells #[.int .u8 40] 5)
      have ub3 : UB (w7.alloc (.cells #[.int .u8 40] 5)) (.slice (some ⟨w7.heap.size, 0, none⟩) 1 1) [40] := UB.new w7 [40] 1 rfl (by decide)
      have hxl := hx7.alloc (.cells #[.int .u8 40] 5)
      have hln : 3 < ([.slice a5 L0 c5, v1, s2, .slice none 0 0, .slice none 0 0, .slice none 0 0, .slice none 0 0] : List Value).length := by simp
      go_wp2_with (with_reducible refine store_cell 27 _ _ 29 g1 3 [.slice a5 L0 c5, v1, s2, .slice none 0 0, .slice none 0 0, .slice none 0 0, .slice none 0 0] (.slice (some ⟨w7.heap.size, 0, none⟩) 1 1) size_row hxl rfl rfl rfl rfl hln ?_; intro w8 hx8 hg8 hs8; refine hold ?_)
      refine hide ?_
      have ub2 := (ub2.below al).kept hg8 hxl
      have ub3 := ub3.kept hg8 hxl
      have r08 := (r07.below al).kept hg8 hxl
      have r18 := (r17.below al).kept hg8 hxl
      have hz8 := (hz7.under al).grown hg8 hg01
      have hbw8 := (hbw7.trans (al.mono hbw7.size)).grown hg8 (by have := hbw7.size; have := al.size; omega) (fun q hq => by cases hq; exact hg1w)
      obtain ⟨s3, hs3⟩ : ∃ s : Value, s = .slice (some ⟨w7.heap.size, 0, none⟩) 1 1 := ⟨_, rfl⟩
      rw [← hs3] at ub3 hx8 ⊢
      have hx8 : Box w8 g1 29 [.slice a5 L0 c5, v1, s2, s3, .slice none 0 0, .slice none 0 0, .slice none 0 0] := hx8
      clear hs3 al hxl hln hg8 hs8 hx7 r07 r17 hz7 hbw7
      have al := blo w8 (.cells #[.int .u8 41] 5)
      have ub4 : UB (w8.alloc (.cells #[.int .u8 41] 5)) (.slice (some ⟨w8.heap.size, 0, none⟩) 1 1) [41] := UB.new w8 [41] 1 rfl (by decide)
      have hxl := hx8.alloc (.cells #[.int .u8 41] 5)
      have hln : 4 < ([.slice a5 L0 c5, v1, s2, s3, .slice none 0 0, .slice none 0 0, .slice none 0 0] : List Value).length := by simp
      go_wp2_with (with_reducible refine store_cell 27 _ _ 29 g1 4 [.slice a5 L0 c5, v1, s2, s3, .slice none 0 0, .slice none 0 0, .slice none 0 0] (.slice (some ⟨w8.heap.size, 0, none⟩) 1 1) size_row hxl rfl rfl rfl rfl hln ?_; intro w9 hx9 hg9 hs9; refine hold ?_)
      refine hide ?_
      have ub2 := (ub2.below al).kept hg9 hxl
      have ub3 := (ub3.below al).kept hg9 hxl
      have ub4 := ub4.kept hg9 hxl
      have r09 := (r08.below al).kept hg9 hxl
      have r19 := (r18.below al).kept hg9 hxl
      have hz9 := (hz8.under al).grown hg9 hg01
      have hbw9 := (hbw8.trans (al.mono hbw8.size)).grown hg9 (by have := hbw8.size; have := al.size; omega) (fun q hq => by cases hq; exact hg1w)
      obtain ⟨s4, hs4⟩ : ∃ s : Value, s = .slice (some ⟨w8.heap.size, 0, none⟩) 1 1 := ⟨_, rfl⟩
      rw [← hs4] at ub4 hx9 ⊢
      have hx9 : Box w9 g1 29 [.slice a5 L0 c5, v1, s2, s3, s4, .slice none 0 0, .slice none 0 0] := hx9
      clear hs4 al hxl hln hg9 hs9 hx8 r08 r18 hz8 hbw8
      have al := blo w9 (.cells #[.int .u8 42] 5)
      have ub5 : UB (w9.alloc (.cells #[.int .u8 42] 5)) (.slice (some ⟨w9.heap.size, 0, none⟩) 1 1) [42] := UB.new w9 [42] 1 rfl (by decide)
      have hxl := hx9.alloc (.cells #[.int .u8 42] 5)
      have hln : 5 < ([.slice a5 L0 c5, v1, s2, s3, s4, .slice none 0 0, .slice none 0 0] : List Value).length := by simp
      go_wp2_with (with_reducible refine store_cell 27 _ _ 29 g1 5 [.slice a5 L0 c5, v1, s2, s3, s4, .slice none 0 0, .slice none 0 0] (.slice (some ⟨w9.heap.size, 0, none⟩) 1 1) size_row hxl rfl rfl rfl rfl hln ?_; intro w10 hx10 hg10 hs10; refine hold ?_)
      refine hide ?_
      have ub2 := (ub2.below al).kept hg10 hxl
      have ub3 := (ub3.below al).kept hg10 hxl
      have ub4 := (ub4.below al).kept hg10 hxl
      have ub5 := ub5.kept hg10 hxl
      have r010 := (r09.below al).kept hg10 hxl
      have r110 := (r19.below al).kept hg10 hxl
      have hz10 := (hz9.under al).grown hg10 hg01
      have hbw10 := (hbw9.trans (al.mono hbw9.size)).grown hg10 (by have := hbw9.size; have := al.size; omega) (fun q hq => by cases hq; exact hg1w)
      obtain ⟨s5, hs5⟩ : ∃ s : Value, s = .slice (some ⟨w9.heap.size, 0, none⟩) 1 1 := ⟨_, rfl⟩
      rw [← hs5] at ub5 hx10 ⊢
      have hx10 : Box w10 g1 29 [.slice a5 L0 c5, v1, s2, s3, s4, s5, .slice none 0 0] := hx10
      clear hs5 al hxl hln hg10 hs10 hx9 r09 r19 hz9 hbw9
      have al := blo w10 (.cells #[.int .u8 43] 5)
      have ub6 : UB (w10.alloc (.cells #[.int .u8 43] 5)) (.slice (some ⟨w10.heap.size, 0, none⟩) 1 1) [43] := UB.new w10 [43] 1 rfl (by decide)
      have hxl := hx10.alloc (.cells #[.int .u8 43] 5)
      have hln : 6 < ([.slice a5 L0 c5, v1, s2, s3, s4, s5, .slice none 0 0] : List Value).length := by simp
      go_wp2_with (with_reducible refine store_cell 27 _ _ 29 g1 6 [.slice a5 L0 c5, v1, s2, s3, s4, s5, .slice none 0 0] (.slice (some ⟨w10.heap.size, 0, none⟩) 1 1) size_row hxl rfl rfl rfl rfl hln ?_; intro w11 hx11 hg11 hs11; refine hold ?_)
      refine hide ?_
      have ub2 := (ub2.below al).kept hg11 hxl
      have ub3 := (ub3.below al).kept hg11 hxl
      have ub4 := (ub4.below al).kept hg11 hxl
      have ub5 := (ub5.below al).kept hg11 hxl
      have ub6 := ub6.kept hg11 hxl
      have r011 := (r010.below al).kept hg11 hxl
      have r111 := (r110.below al).kept hg11 hxl
      have hz11 := (hz10.under al).grown hg11 hg01
      have hbw11 := (hbw10.trans (al.mono hbw10.size)).grown hg11 (by have := hbw10.size; have := al.size; omega) (fun q hq => by cases hq; exact hg1w)
      obtain ⟨s6, hs6⟩ : ∃ s : Value, s = .slice (some ⟨w10.heap.size, 0, none⟩) 1 1 := ⟨_, rfl⟩
      rw [← hs6] at ub6 hx11 ⊢
      have hx11 : Box w11 g1 29 [.slice a5 L0 c5, v1, s2, s3, s4, s5, s6] := hx11
      clear hs6 al hxl hln hg11 hs11 hx10 r010 r110 hz10 hbw10
      obtain ⟨x1, y1, p1, rfl, hR1, hp1⟩ := r111
      obtain ⟨x0, y0, p0, hv0, hR0, hp0⟩ := r011
      injection hv0 with e1 e2 e3
      subst e1; subst e2; subst e3
      obtain ⟨x2, n2, y2, rfl, ho2⟩ := ub2
      obtain ⟨x3, n3, y3, rfl, ho3⟩ := ub3
      obtain ⟨x4, n4, y4, rfl, ho4⟩ := ub4
      obtain ⟨x5, n5, y5, rfl, ho5⟩ := ub5
      obtain ⟨x6, n6, y6, rfl, ho6⟩ := ub6
      have q0 : w11.cell? ⟨g1, 0, none⟩ = some (.slice a5 p0.length c5) := hx11.at_ rfl
      have q1 : w11.cell? ⟨g1, 1, none⟩ = some (.slice x1 p1.length y1) := hx11.at_ rfl
      have q2 : w11.cell? ⟨g1, 2, none⟩ = some (.slice x2 n2 y2) := hx11.at_ rfl
      have q3 : w11.cell? ⟨g1, 3, none⟩ = some (.slice x3 n3 y3) := hx11.at_ rfl
      have q4 : w11.cell? ⟨g1, 4, none⟩ = some (.slice x4 n4 y4) := hx11.at_ rfl
      have q5 : w11.cell? ⟨g1, 5, none⟩ = some (.slice x5 n5 y5) := hx11.at_ rfl
      have q6 : w11.cell? ⟨g1, 6, none⟩ = some (.slice x6 n6 y6) := hx11.at_ rfl
      have hone : ∀ u ∈ ([.slice a5 p0.length c5, .slice x1 p1.length y1, .slice x2 n2 y2, .slice x3 n3 y3, .slice x4 n4 y4, .slice x5 n5 y5, .slice x6 n6 y6] : List Value), u.oneCell' = true := by simp [Value.oneCell']
      go_wp2_with (with_reducible refine store_all 29 _ _ 29 w.heap.size [.slice none 0 0, .slice none 0 0, .slice none 0 0, .slice none 0 0, .slice none 0 0, .slice none 0 0, .slice none 0 0] [.slice a5 p0.length c5, .slice x1 p1.length y1, .slice x2 n2 y2, .slice x3 n3 y3, .slice x4 n4 y4, .slice x5 n5 y5, .slice x6 n6 y6] _ (size7 _ _ _ _ _ _ _) hz11 rfl rfl rfl (Eq.refl 7) hone ?_; intro w12 hx12 hg12 hs12)
      have hbw12 := hbw11.grown hg12 hbw11.size (fun q hq => by cases hq; exact Nat.le_refl _)
      have hR0' := (hR0.kept hg12 hz11 (by decide) (by decide)).rul
      have hR1' := (hR1.kept hg12 hz11 (by decide) (by decide)).rul
      have ho2b := (UB.kept ⟨x2, n2, y2, rfl, ho2⟩ hg12 hz11)
      obtain ⟨_, _, _, hh2, ho2c⟩ := ho2b
      injection hh2 with e1 e2 e3
      subst e1; subst e2; subst e3
      have ho3b := (UB.kept ⟨x3, n3, y3, rfl, ho3⟩ hg12 hz11)
      obtain ⟨_, _, _, hh3, ho3c⟩ := ho3b
      injection hh3 with e1 e2 e3
      subst e1; subst e2; subst e3
      have ho4b := (UB.kept ⟨x4, n4, y4, rfl, ho4⟩ hg12 hz11)
      obtain ⟨_, _, _, hh4, ho4c⟩ := ho4b
      injection hh4 with e1 e2 e3
      subst e1; subst e2; subst e3
      have ho5b := (UB.kept ⟨x5, n5, y5, rfl, ho5⟩ hg12 hz11)
      obtain ⟨_, _, _, hh5, ho5c⟩ := ho5b
      injection hh5 with e1 e2 e3
      subst e1; subst e2; subst e3
      have ho6b := (UB.kept ⟨x6, n6, y6, rfl, ho6⟩ hg12 hz11)
      obtain ⟨_, _, _, hh6, ho6c⟩ := ho6b
      injection hh6 with e1 e2 e3
      subst e1; subst e2; subst e3
      refine bodyPost_ret (run_results_cell rfl rfl agg_tables (size7 _ _ _ _ _ _ _) hx12) rfl ⟨⟨(a5, p0.length, c5), (x1, p1.length, y1), p0, p1, (x2, n2, y2), (x3, n3, y3), (x4, n4, y4), (x5, n5, y5), (x6, n6, y6)⟩, rfl, ⟨hR0', hR1', hp0, hp1, ho2c.sl, ho3c.sl, ho4c.sl, ho5c.sl, ho6c.sl⟩, hbw12⟩
end Go.Proofs.Ytlpkicjijlcbfaa
end

/- the text AtB -/
section
/- A number out of a list (chapter 08). -/
namespace Go.Proofs.Ytlpkicjijlcbfaa
open Go.RowKit Go.Dx
def atF (l : List Int) (i : Int) (m : Nat) : Nat := if i < 0 ∨ (l.length : Int) ≤ i then 0 else aroundF (l.getD i.toNat 0) m
set_option maxHeartbeats 400000 in
theorem ref_At (l : List Int) (a : Option Addr) (n c : Nat) (i v : Int) (m : Nat) (w : World) (hs : Sl w 1 a n c (l.map I64)) (hl : ∀ x ∈ l, -9223372036854775808 ≤ x ∧ x ≤ 9223372036854775807) (hv : (m : Int) = v) (hm : 1 ≤ m) (hm2 : m ≤ 1000000000) :
    Calls Try.prog 21 #[.slice a n c, .int .i64 i, .int .i64 v] w fun e w' => e = .returned (.int .i64 (atF l i m : Nat)) ∧ w = w' := by
  obtain rfl := hs.n_eq
  have hcap := Nat.le_trans hs.le hs.cap
  unfold maxLen at hcap
  obtain ⟨r, HR⟩ : ∃ r, Hid (atF l i m = r) := ⟨_, hide rfl⟩
  rw [HR.out]
  by_cases h1 : i < 0
  · have d1 : decide (i < 0) = true := decide_eq_true h1
    have HE : Hid (r = 0) := by show _ = _; rw [← HR.out]; exact if_pos (.inl h1)
    go_enter Try.func21, Try.ntmps21
    go_wp2
    go_ret
    exact ⟨by rw [HE.out]; first | done | rfl, rfl⟩
  · have d1 : decide (i < 0) = false := decide_eq_false h1
    by_cases h2 : (l.length : Int) ≤ i
    · have d2 : decide ((l.length : Int) ≤ i) = true := decide_eq_true h2
      have HE : Hid (r = 0) := by show _ = _; rw [← HR.out]; exact if_pos (.inr h2)
      go_enter Try.func21, Try.ntmps21
      go_wp2
      go_ret
      exact ⟨by rw [HE.out]; first | done | rfl, rfl⟩
    · have d2 : decide ((l.length : Int) ≤ i) = false := decide_eq_false h2
      have HE0 : Hid (r = aroundF (l.getD i.toNat 0) m) := by
        show _ = _; rw [← HR.out]; exact if_neg (by omega)
      obtain ⟨k, rfl⟩ := Int.eq_ofNat_of_zero_le (show 0 ≤ i by omega)
      have hk : k < l.length := by omega
      obtain ⟨x, hx⟩ : ∃ x, l[k]? = some x := ⟨l[k], by simp [hk]⟩
      obtain ⟨hx1, hx2⟩ := hl x (List.mem_of_getElem? hx)
      have HE : Hid (r = aroundF x m) := by
        show _ = _; rw [HE0.out, Int.toNat_natCast, List.getD_eq_getElem?_getD, hx]; rfl
      have HX := hide hx
      clear hx HE0
      go_enter Try.func21, Try.ntmps21
      go_wp2_with (first
        | (with_reducible refine idx_i 17 _ _ _ _ _ l rfl hs _ _ k rfl rfl x HX.out ?_; intro b o hcell hbo)
        | (go_at_call 23; refine (ref_Around x _ m _ hv hx1 hx2 hm hm2).mono ?_; rintro e w2 ⟨rfl, rfl⟩))
      go_ret
      exact ⟨by rw [HE.out]; first | done | rfl, rfl⟩
end Go.Proofs.Ytlpkicjijlcbfaa
end
