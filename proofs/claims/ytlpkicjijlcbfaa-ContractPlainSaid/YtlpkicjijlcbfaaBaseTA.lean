/- The contracts of the functions that the law reaches, joined into one text. -/
import Derived.Test.YtlpkicjijlcbfaaBaseSH
set_option linter.unusedVariables false
set_option linter.unusedSimpArgs false

/- the text E3 -/
section
/- Chapter 08: the reference's Numbers. -/
set_option linter.unusedVariables false
namespace Go.Dx
open Go.RowKit
end Go.Dx
namespace Go.Proofs.Ytlpkicjijlcbfaa
open Go.RowKit Go.Dx Go.Al
/-- a table of numbers whose rows may be written -/
structure RwM (W : World) (tt ti : TypeId) (B : Nat) (bs : List Nat) (A : Nums) (a3 : Option Addr) (c3 : Nat) : Prop where
  top : Go.Dx.Own W B tt 1 a3 bs.length c3 (bs.map hdB)
  len : bs.length = A.length
  row : ∀ (i b : Nat) (r : List Int), bs[i]? = some b → A[i]? = some r → Box W b ti (rowc r)
  fresh : ∀ b ∈ bs, B ≤ b
  nodup : bs.Nodup
theorem RwM.nil (W : World) (tt ti : TypeId) (B : Nat) : RwM W tt ti B [] [] none 0 := ⟨Go.Dx.Own.nil _ _ _ _, rfl, fun i b r h => by simp at h, fun b h => (by cases h), List.nodup_nil⟩
theorem RwM.below {W W' : World} {tt ti : TypeId} {B : Nat} {bs : List Nat} {A : Nums} {a3 : Option Addr} {c3 : Nat} (h : RwM W tt ti B bs A a3 c3) (hb : Below W.heap.size W W') : RwM W' tt ti B bs A a3 c3 :=
  ⟨h.top.below hb, h.len, fun i b r hi hr => (h.row i b r hi hr).under hb, h.fresh, h.nodup⟩
theorem RwM.lt {W : World} {tt ti : TypeId} {B : Nat} {bs : List Nat} {A : Nums} {a3 : Option Addr} {c3 : Nat} (h : RwM W tt ti B bs A a3 c3) {b : Nat} (hb : b ∈ bs) : b < W.heap.size := by
  obtain ⟨i, hi, e⟩ := List.getElem_of_mem hb
  exact (h.row i b (A[i]'(by rw [← h.len]; exact hi)) (by rw [List.getElem?_eq_getElem hi, e]) (List.getElem?_eq_getElem _)).lt
theorem RwM.push {W W' : World} {tt ti : TypeId} {B : Nat} {bs : List Nat} {A : Nums} {a3 a3' : Option Addr} {c3 c3' : Nat} {b : Nat} {r : List Int} (h : RwM W tt ti B bs A a3 c3) (hne : tt ≠ ti) (hx : Box W b ti (rowc r)) (hB : B ≤ b) (hnew : b ∉ bs)
    (ht : Go.Dx.Own W' B tt 1 a3' (bs.length + 1) c3' (bs.map hdB ++ [hdB b])) (hg : W.grownBy W' (a3.map (·.block))) : RwM W' tt ti B (bs ++ [b]) (A ++ [r]) a3' c3' := by
  refine ⟨by rw [List.length_append, List.map_append]; exact ht, by simp [h.len], fun i y q hi hq => ?_, fun y hy => ?_, ?_⟩
  · rcases Nat.lt_or_ge i bs.length with hlt | hge
    · rw [List.getElem?_append_left hlt] at hi
      rw [List.getElem?_append_left (by rw [← h.len]; exact hlt)] at hq
      have h1 := h.row i y q hi hq
      exact h1.grown hg (own_box h.top h1 hne)
    · have e : i = bs.length := by
        have := (List.getElem?_eq_some_iff.1 hi).1
        rw [List.length_append, List.length_singleton] at this
        omega
      subst e
      rw [List.getElem?_append_right (Nat.le_refl _), Nat.sub_self] at hi
      rw [h.len, List.getElem?_append_right (Nat.le_refl _), Nat.sub_self] at hq
      injection hi with hi
      injection hq with hq
      subst hi; subst hq
      exact hx.grown hg (own_box h.top hx hne)
  · rcases List.mem_append.1 hy with hy | hy
    · exact h.fresh y hy
    · rw [List.mem_singleton] at hy; subst hy; exact hB
  · rw [List.nodup_append]
    exact ⟨h.nodup, by simp, fun z hz y hy e => by rw [List.mem_singleton] at hy; rw [hy] at e; rw [e] at hz; exact hnew hz⟩
theorem RwM.ng {W : World} {tt ti : TypeId} {B : Nat} {bs : List Nat} {A : Nums} {a3 : Option Addr} {c3 : Nat} (h : RwM W tt ti B bs A a3 c3) (h8 : R8 A) : Ng W a3 bs.length c3 (bs.map fun b => ((some ⟨b, 0, none⟩ : Option Addr), 8, 8)) A := by
  refine ⟨?_, by rw [List.length_map, h.len], fun i x r hx hr => ?_⟩
  · have h1 := h.top.sl
    rw [List.map_map]
    exact h1
  · rw [List.getElem?_map] at hx
    cases hb : bs[i]? with
    | none => rw [hb] at hx; cases hx
    | some b =>
      rw [hb] at hx
      injection hx with hx
      subst hx
      have h1 := h.row i b r hb hr
      have h2 := h8 r (List.mem_of_getElem? hr)
      exact ⟨by simp [h2], Nat.le_refl _, by unfold maxLen; show 8 ≤ _; decide, fun e => (by cases e), fun p hp j u hj => by
        injection hp with hp
        subst hp
        rw [Addr.add_lit, Nat.zero_add]
        exact h1.at_ hj⟩
theorem RwM.set {W W' : World} {tt ti : TypeId} {B : Nat} {bs : List Nat} {A : Nums} {a3 : Option Addr} {c3 : Nat} (h : RwM W tt ti B bs A a3 c3) (hne : tt ≠ ti) {j b : Nat} {r q : List Int} (hj : bs[j]? = some b) (hr : A[j]? = some r)
    (hx : Box W' b ti (rowc q)) (hg : W.grownBy W' (some b)) : RwM W' tt ti B bs (A.set j q) a3 c3 := by
  have hbx := h.row j b r hj hr
  refine ⟨h.top.kept hg (fun p hp e => ?_), by simp [h.len], fun i y s hi hs => ?_, h.fresh, h.nodup⟩
  · have h1 := own_box h.top hbx hne
    rw [hp] at h1
    exact h1 e.symm
  · by_cases hij : i = j
    · subst hij
      rw [hj] at hi
      injection hi with hi
      subst hi
      rw [List.getElem?_set_self (List.getElem?_eq_some_iff.1 hr).1] at hs
      injection hs with hs
      subst hs
      exact hx
    · rw [List.getElem?_set_ne (fun e => hij e.symm)] at hs
      refine (h.row i y s hi hs).grown hg (fun e => ?_)
      injection e with e
      subst e
      exact hij ((List.getElem?_inj (List.getElem?_eq_some_iff.1 hi).1 h.nodup).1 (hi.trans hj.symm))
section
variable {w : World} {ops : Array Oper} {rest : List Oper} {o : Oper} {act : Act} {Q : Exit → Act → World → Prop}
end
end Go.Proofs.Ytlpkicjijlcbfaa
end

/- the text E4 -/
section
/- Chapter 08: the reference's Translate. -/
set_option linter.unusedVariables false
namespace Go.Proofs.Ytlpkicjijlcbfaa
open Go.RowKit Go.Dx Go.Al
theorem RwM.ngX {ct tt ti : TypeId} {W W' : World} {B : Nat} {bs : List Nat} {A : Nums} {a3 : Option Addr} {c3 : Nat} (h : RwM W tt ti B bs A a3 c3) (hk : KeepsX ct W W') (h1 : tt ≠ ct) (h2 : ti ≠ ct) (h8 : R8 A) : Ng W' a3 bs.length c3 (bs.map fun b => ((some ⟨b, 0, none⟩ : Option Addr), 8, 8)) A := by
  refine ⟨?_, by rw [List.length_map, h.len], fun i x r hx hr => ?_⟩
  · have h3 := Sl.keepX h.top.sl h.top.typ hk h1
    rw [List.map_map]
    exact h3
  · rw [List.getElem?_map] at hx
    cases hb : bs[i]? with
    | none => rw [hb] at hx; cases hx
    | some b =>
      rw [hb] at hx
      injection hx with hx
      subst hx
      have h3 : Box W' b ti (rowc r) := hk _ _ _ _ (h.row i b r hb hr) h2
      have h4 := h8 r (List.mem_of_getElem? hr)
      exact ⟨by simp [h4], Nat.le_refl _, by unfold maxLen; show 8 ≤ _; decide, fun e => (by cases e), fun p hp j u hj => by
        injection hp with hp
        subst hp
        rw [Addr.add_lit, Nat.zero_add]
        exact h3.at_ hj⟩
end Go.Proofs.Ytlpkicjijlcbfaa
end

/- the text D27 -/
section
/- Chapter 08: the law's texts; what the example answers. -/
set_option linter.unusedVariables false
namespace Go.Dx
open Go.RowKit
theorem ex_fits : fitsE exD handL = 0 := by decide +kernel
theorem ex_tr : trE exD handL = 0 := by decide +kernel
theorem ex_cells : cellsP (pathT exD handL) = [8, 28] := exD_path
theorem ex_pl : plE exD handL = 0 := by rw [plE_eq]; exact ex_tr
theorem ex_plC : plC exD handL = [8, 1, 14, 4] := by unfold plC; rw [if_neg (by simp [ex_fits]), exD_plain]; rfl
theorem ex_wd : wdR exD handL [2] = (0, [[2, 2], [2]]) := by decide +kernel
theorem ex_ab : trE exD abL = 6 := by decide +kernel
/-- symbols in a slice, which stand whatever becomes of blocks of type ct -/
def SyF (ct : TypeId) (L : List Sy) (vs : List Value) (w : World) : Prop := ∃ a n c, vs = [.slice a n c] ∧ ∀ w', KeepsX ct w w' → Sl w' 2 a n c (L.flatMap sc)
theorem SyF.keep {ct : TypeId} {L : List Sy} {vs : List Value} {w w' : World} (h : SyF ct L vs w) (hk : KeepsX ct w w') : SyF ct L vs w' := by
  obtain ⟨a, n, c, h1, h2⟩ := h
  exact ⟨a, n, c, h1, fun w2 h3 => h2 w2 (hk.trans h3)⟩
theorem SyF.below {ct : TypeId} {L : List Sy} {vs : List Value} {w w' : World} (h : SyF ct L vs w) (hb : Below w.heap.size w w') : SyF ct L vs w' := h.keep (KeepsX.of hb)
theorem symsOf_hand : symsOf ⟨#[104, 97, 110, 100]⟩ = handL := rfl
theorem symsOf_ab : symsOf ⟨#[97, 32, 98]⟩ = abL := rfl
end Go.Dx
namespace Go.Proofs.Ytlpkicjijlcbfaa
open Go.RowKit Go.Dx Go.Al
set_option maxHeartbeats 1000000 in
theorem law8_word (s : ByteArray) (hsz : s.size ≤ 1000) (w : World) :
    Calls Try.prog 46 #[.string s] w fun e w' => ∃ a c, e = .returned (.slice a (symsOf s).length c) ∧ Go.Dx.Own w' w.heap.size 88 2 a (symsOf s).length c ((symsOf s).flatMap sc) ∧ Below w.heap.size w w' := by
  have hlen : (symsOf s).length = s.size := by unfold symsOf; rw [List.length_map]; exact (size_chars s).symm
  have HLEN := hide hlen
  clear hlen
  rw [HLEN.out]
  go_enter Try.func46, Try.ntmps46
  go_wp2_with fail
  go_loopg [3, 4] s.size (fun gh o v w' => ∃ (k : Nat) (a : Option Addr) (c : Nat), k ≤ s.size ∧ gh = s.size - k ∧ o = .slice a k c ∧ v = .int .i64 (k : Int) ∧ Go.Dx.Own w' w.heap.size 88 2 a k c (((symsOf s).take k).flatMap sc) ∧ Below w.heap.size w w')
  case atStart => exact ⟨0, none, 0, by omega, by omega, rfl, rfl, Go.Dx.Own.nil _ _ _ _, Below.refl _ _⟩
  case round =>
    obtain ⟨k, a, c, hk, hg, rfl, rfl, ho, hb⟩ := hrel
    have HG := hide hg
    clear hg
    by_cases hkl : k < s.size
    · have HST := hide (symsOf_step (chars_get hkl))
      go_wp2_with (at_builtin; refine app_sy rfl _ _ rfl w w.heap.size _ _ _ _ rfl ho ⟨0, s[k]⟩ rfl (by omega) hb.size hb ?_; intro a' c' w' ho' _ hb')
      go_roundg (s.size - (k + 1))
      case measure => have := HG.out; omega
      case rel => exact ⟨k + 1, a', c', by omega, rfl, rfl, by go_num, by rw [HST.out, List.flatMap_append, List.flatMap_singleton]; exact ho', hb'⟩
    · obtain rfl : k = s.size := by omega
      go_wp2
      go_ret
      rw [List.take_of_length_le (by rw [HLEN.out]; exact Nat.le_refl _)] at ho
      exact ⟨a, c, rfl, ho, hb⟩
theorem word_at {s : ByteArray} {L : List Sy} (hL : symsOf s = L) (hsz : s.size ≤ 1000) (ct : TypeId) (hct : 88 ≠ ct) (w : World) :
    Calls Try.prog 46 #[.string s] w fun e w' => ∃ v, e = .returned v ∧ SyF ct L [v] w' ∧ Below w.heap.size w w' := by
  subst hL
  refine (law8_word s hsz w).mono ?_
  rintro e w' ⟨a, c, rfl, ho, hb⟩
  exact ⟨_, rfl, ⟨a, _, c, rfl, fun w2 hk => Sl.keepX ho.sl ho.typ hk hct⟩, hb⟩
end Go.Proofs.Ytlpkicjijlcbfaa
end

/- the text D28 -/
section
/- Chapter 08: the law's example lives. -/
set_option linter.unusedVariables false
namespace Go.Dx
open Go.RowKit
theorem ex_trC : trC exD handL = [8, 28] := by unfold trC; rw [if_pos ex_tr]; exact ex_cells
theorem ex_few : (trC exD handL).length ≤ 1000000 := by rw [ex_trC]; decide
theorem ex_ck : chE exD handL (trC exD handL) (trK exD handL) (trA exD handL) = 0 := by
  unfold trC trK trA
  rw [if_pos ex_tr, if_pos ex_tr, if_pos ex_tr]
  exact chE_path ex_tr
theorem ex_bd : BdN (trA exD handL) 1000000 := by
  unfold trA
  rw [if_pos ex_tr]
  exact bd_num exD handL exD_valid (by decide)
end Go.Dx
namespace Go.Proofs.Ytlpkicjijlcbfaa
open Go.RowKit Go.Dx Go.Al
theorem ints_at {x y : List Int} {a1 a2 : Option Addr} {n1 n2 c1 c2 : Nat} {w : World} (hxy : x = y) (h1 : Sl w 1 a1 n1 c1 (x.map I64)) (h2 : Sl w 1 a2 n2 c2 (y.map I64)) :
    Calls Try.prog 26 #[.slice a1 n1 c1, .slice a2 n2 c2] w fun e w' => e = .returned (.bool true) ∧ Below w.heap.size w w' := by
  refine (ref_SameInts x y a1 a2 n1 n2 c1 c2 w h1 h2).mono ?_
  rintro e w' ⟨rfl, m, hm⟩
  exact ⟨by rw [decide_eq_true hxy], hm ▸ Still.below m⟩
set_option maxRecDepth 100000 in
set_option maxHeartbeats 8000000 in
theorem law8_lives (w : World) : Calls Try.prog 17 #[] w fun e w' => e = .returned (.bool true) ∧ Below w.heap.size w w' := by
  have hex := hide (law8_example w)
  go_enter Try.func17, Try.ntmps17
  go_wp2_with (go_at_call 45; refine hex.out.mono ?_; rintro e w1 ⟨H, rfl, hT, hb1⟩; refine hold ?_)
  refine hide ?_
  clear hex
  have Hm := hide hT
  clear hT
  obtain ⟨⟨a0, n0, c0⟩, ⟨a1, n1, c1⟩, ps0, ps1, ⟨ad, nd, cd⟩, ⟨ac, nc, cc⟩, ⟨an, nn, cn⟩, ⟨af, nf, cf⟩, ⟨aw, nw, cw⟩⟩ := H
  unfold TH.v
  simp only [hdv]
  have Y1 := Box.new w1 29 #[.slice a0 n0 c0, .slice a1 n1 c1, .slice ad nd cd, .slice ac nc cc, .slice an nn cn, .slice af nf cf, .slice aw nw cw]
  have hbY := blo w1 (.cells #[.slice a0 n0 c0, .slice a1 n1 c1, .slice ad nd cd, .slice ac nc cc, .slice an nn cn, .slice af nf cf, .slice aw nw cw] 29)
  go_wp2_with fail
  generalize w1.alloc (.cells _ 29) = W0 at *
  obtain ⟨H, hH⟩ : ∃ H : TH, H = ⟨(a0, n0, c0), (a1, n1, c1), ps0, ps1, (ad, nd, cd), (ac, nc, cc), (an, nn, cn), (af, nf, cf), (aw, nw, cw)⟩ := ⟨_, rfl⟩
  have HX : Box W0 w1.heap.size 29 (tcells H) := by rw [hH]; exact Y1
  have HT : TaIs W0 H exD := by rw [hH]; exact Hm.out.below hbY
  have hbw := hb1.trans (hbY.mono hb1.size)
  clear hH Hm hbY hb1 Y1
  generalize w1.heap.size = gT at *
  clear w1
  refine wp_region_chain4 8 (KeepsX 39) (GTr 39 W0 (trC exD handL) (trK exD handL) (trA exD handL)) [⟨6, 2, [], fun _ _ => True⟩, ⟨7, 85, [0], fun _ _ => True⟩] [⟨0, 12, [12], fun vs _ => vs = [H.v]⟩, ⟨1, 13, [13], SyF 39 handL⟩, ⟨2, 14, [14], TuF 39 0 (trC exD handL) (trK exD handL) (trA exD handL)⟩, ⟨3, 11, [11], TuF 39 0 (trC exD handL) (trK exD handL) (trA exD handL)⟩, ⟨4, 15, [15], VaF 39 (trC exD handL) (trK exD handL) (trA exD handL)⟩, ⟨5, 16, [16], fun vs _ => vs = [.int .i64 0]⟩] (by kernel_rfl) (by kernel_rfl) ?_ (fun _ _ h => KeepsX.of h) GTr.mono ?_ ?_ ?_ ?_
  · exact (Still.below 1 : Below W0.heap.size W0 (W0.drewN 1))
  · simp only [All]
    refine ⟨(fun _ _ _ _ h => h), (fun _ _ _ hk h => h.keep hk), (fun _ _ _ hk h => h.keep hk), (fun _ _ _ hk h => h.keep hk), (fun _ _ _ hk h => h.keep hk), (fun _ _ _ _ h => h), trivial⟩
  · intro m c hc o ho a w' hG hfr hdep
    rcases m with _ | _ | m
    · cases hc
      obtain rfl := Option.some.inj ho
      have hB : Below W0.heap.size W0 w' := hG
      clear hfr hdep hG
      go_wp2_with fail
      exact ⟨rfl, _, rfl, KeepsX.of (blo _ _), w'.heap.size, rfl, hB.size, [.slice none 0 0, .slice none 0 0, .slice none 0 0], rfl, Box.new _ _ _, hB.alloc hB.size _⟩
    · cases hc
      obtain rfl := Option.some.inj ho
      obtain ⟨b9, e9, hlo9, cs9, hl9, hbx9, hB⟩ := hG
      obtain ⟨v9, g9, c9⟩ := hdep 4 _ rfl (by kernel_rfl)
      replace e9 : a.tmps.getD 2 undef = .pointer (some ⟨b9, 0, none⟩) := e9
      replace g9 : a.tmps.getD 15 undef = v9 := by simpa using g9
      obtain ⟨a1, n1, c1, a2, n2, c2, a3, n3, c3, hs9, hv9, -⟩ := c9.ce
      subst hv9
      clear ho hfr hdep
      refine store_all 39 _ _ 39 b9 cs9 [.slice a1 n1 c1, .slice a2 n2 c2, .slice a3 n3 c3] _ size_cert hbx9 e9 g9 rfl (by rw [hl9]; rfl) (by simp [Value.oneCell']) ?_
      intro w10 hx10 hg10 hs10
      have hK := KeepsX.put hbx9 hg10
      have hb10 := hB.grown hg10 hB.size (fun k hk => by cases hk; exact hlo9)
      have E9 := hide e9
      clear e9 g9 hl9 hs10
      go_wp2_with fail
      exact ⟨rfl, undef, rfl, hK, b9, by first | rfl | exact E9.out | simpa using E9.out, hlo9, _, _, _, hx10, c9.keep hK, hb10⟩
    · cases hc
  · simp only [All]
    refine ⟨?_, ?_, ?_, ?_, ?_, ?_, trivial⟩
    · intro o ho a' w' hfr hdep hst
      obtain rfl := Option.some.inj ho
      have hb : Below W0.heap.size W0 w' := by obtain ⟨j, _, _, hG⟩ := hst; exact hG.bel
      have g1 : a'.tmps[1]?.getD undef = .pointer (some ⟨gT, 0, none⟩) := by have h := hfr 1 (by kernel_rfl); simpa using h
      clear ho hfr hdep hst
      refine load_struct 12 29 _ 7 size_tables _ Try.underlying29 ⟨gT, 0, none⟩ (by show a'.tmps.getD 1 undef = _; simpa using g1) (tcells H) rfl (fun j u hj => by rw [Addr.add_lit, Nat.zero_add]; exact (HX.under hb).at_ hj) ?_
      exact ⟨rfl, _, rfl, Below.refl _ _, rfl⟩
    · intro o ho a' w' hfr hdep hst
      obtain rfl := Option.some.inj ho
      have hb : Below W0.heap.size W0 w' := by obtain ⟨j, _, _, hG⟩ := hst; exact hG.bel
      clear ho hfr hdep hst
      have hwd := hide (word_at symsOf_hand (by decide) 39 (by decide) w')
      go_wp2_with (go_at_call 46; refine hwd.out.mono ?_; rintro e w3 ⟨v, rfl, hsy, h3⟩)
      exact ⟨rfl, _, rfl, h3, hsy⟩
    · intro o ho a' w' hfr hdep hst
      obtain rfl := Option.some.inj ho
      have hb : Below W0.heap.size W0 w' := by obtain ⟨j, _, _, hG⟩ := hst; exact hG.bel
      have g12 : a'.tmps[12]?.getD undef = H.v := by have h := hdep 0 _ rfl (by kernel_rfl); simpa using h
      obtain ⟨a13, n13, c13, g13, s13⟩ := hdep 1 _ rfl (by kernel_rfl)
      simp at g13
      clear ho hfr hdep hst
      have htr := hide (tr_at H exD handL a13 n13 c13 w' (HT.below hb) (s13 w' (KeepsX.refl _ _)) ex_tr rfl rfl rfl)
      go_wp2_with (go_at_call 13; refine htr.out.mono ?_; rintro e w3 ⟨⟨v, rfl, hce⟩, h3⟩)
      exact ⟨rfl, _, rfl, h3, _, rfl, hce⟩
    · intro o ho a' w' hfr hdep hst
      obtain rfl := Option.some.inj ho
      obtain ⟨v14, g14, c14⟩ := hdep 2 _ rfl (by kernel_rfl)
      simp at g14
      clear ho hfr hdep hst
      go_wp2_with fail
      exact ⟨rfl, _, rfl, Below.refl _ _, _, rfl, c14⟩
    · intro o ho a' w' hfr hdep hst
      obtain rfl := Option.some.inj ho
      obtain ⟨v11, g11, c11⟩ := hdep 3 _ rfl (by kernel_rfl)
      simp at g11
      clear ho hfr hdep hst
      go_wp2_with fail
      exact ⟨rfl, _, rfl, Below.refl _ _, _, rfl, c11⟩
    · intro o ho a' w' hfr hdep hst
      obtain rfl := Option.some.inj ho
      obtain ⟨v11, g11, c11⟩ := hdep 3 _ rfl (by kernel_rfl)
      simp at g11
      clear ho hfr hdep hst
      go_wp2_with fail
      exact ⟨rfl, _, rfl, Below.refl _ _, rfl⟩
  · intro g w9 hG hp
    obtain ⟨b9, e9, hlo9, s1, s2, s3, hx9, hc9, hb9⟩ := hG
    have p9 := hp 5 _ rfl
    replace e9 : g 2 = .pointer (some ⟨b9, 0, none⟩) := e9
    clear hp
    replace p9 : g 16 = .int .i64 0 := by simpa using p9
    simp only [List.drop_succ_cons, List.drop_zero, List.map_cons, List.map_nil, putAll, Act.put, List.setIfInBounds_toArray, List.set_cons_succ, List.set_cons_zero, List.set_nil, List.cons_append, List.nil_append, e9, p9]
    clear e9 p9
    obtain ⟨a1, n1, c1, a2, n2, c2, a3, n3, c3, hs3, rfl, rfl, rfl, HS1, HS2, HS3⟩ := hc9.parts
    clear hc9 hlo9
    have HC := hx9
    clear hx9
    obtain ⟨bC, rfl⟩ : ∃ z : Nat, z = b9 := ⟨_, rfl⟩
    have HXn := HX.under hb9
    have HTn := HT.below hb9
    have hbn := hbw.trans (hb9.mono hbw.size)
    clear HX HT hbw hb9
    have HX := HXn
    have HT := HTn
    have hbw := hbn
    clear HXn HTn hbn
    clear W0
    obtain ⟨W0, rfl⟩ : ∃ w' : World, w' = w9 := ⟨_, rfl⟩
    go_wp2_with fail
    refine wp_region_free 7 [⟨0, 18, [18], fun vs _ => vs = [H.v]⟩, ⟨1, 19, [19], SyF 39 handL⟩, ⟨2, 20, [20], fun vs w => ∃ a n c, vs = [.tuple #[.slice a n c, .int .i64 0]] ∧ Sl w 1 a n c ((plC exD handL).map B8)⟩, ⟨3, 17, [17], fun vs w => ∃ a n c, vs = [.tuple #[.slice a n c, .int .i64 0]] ∧ Sl w 1 a n c ((plC exD handL).map B8)⟩, ⟨4, 21, [21], fun vs w => ∃ a n c, vs = [.slice a n c] ∧ Sl w 1 a n c ((plC exD handL).map B8)⟩, ⟨5, 22, [22], fun vs _ => vs = [.int .i64 0]⟩, ⟨6, 4, [4], fun vs w => ∃ a n c, vs = [.slice a n c] ∧ Sl w 1 a n c ((plC exD handL).map B8)⟩] (by kernel_rfl) (by kernel_rfl) ?_ ?_ ?_
    · simp only [All]
      refine ⟨fun _ _ _ _ h => h, ?_, ?_, ?_, ?_, fun _ _ _ _ h => h, ?_, trivial⟩
      · exact fun vs w1 w2 hb h => h.below hb
      · exact fun vs w1 w2 hb ⟨a, n, c, h1, h2⟩ => ⟨a, n, c, h1, h2.below hb⟩
      · exact fun vs w1 w2 hb ⟨a, n, c, h1, h2⟩ => ⟨a, n, c, h1, h2.below hb⟩
      · exact fun vs w1 w2 hb ⟨a, n, c, h1, h2⟩ => ⟨a, n, c, h1, h2.below hb⟩
      · exact fun vs w1 w2 hb ⟨a, n, c, h1, h2⟩ => ⟨a, n, c, h1, h2.below hb⟩
    · simp only [All]
      refine ⟨?_, ?_, ?_, ?_, ?_, ?_, ?_, trivial⟩
      · intro o ho a' w' hb hfr hdep
        obtain rfl := Option.some.inj ho
        have g1 : a'.tmps[1]?.getD undef = .pointer (some ⟨gT, 0, none⟩) := by have h := hfr 1 (by kernel_rfl); simpa using h
        clear ho hfr hdep
        refine load_struct 18 29 _ 7 size_tables _ Try.underlying29 ⟨gT, 0, none⟩ (by show a'.tmps.getD 1 undef = _; simpa using g1) (tcells H) rfl (fun j u hj => by rw [Addr.add_lit, Nat.zero_add]; exact (HX.under hb).at_ hj) ?_
        exact ⟨rfl, _, rfl, Below.refl _ _, rfl⟩
      · intro o ho a' w' hb hfr hdep
        obtain rfl := Option.some.inj ho
        clear ho hfr hdep
        have hwd := hide (word_at symsOf_hand (by decide) 39 (by decide) w')
        go_wp2_with (go_at_call 46; refine hwd.out.mono ?_; rintro e w3 ⟨v, rfl, hsy, h3⟩)
        exact ⟨rfl, _, rfl, h3, hsy⟩
      · intro o ho a' w' hb hfr hdep
        obtain rfl := Option.some.inj ho
        have g18 : a'.tmps[18]?.getD undef = H.v := by have h := hdep 0 _ rfl (by kernel_rfl); simpa using h
        obtain ⟨a19, n19, c19, g19, s19⟩ := hdep 1 _ rfl (by kernel_rfl)
        simp at g19
        clear ho hfr hdep
        have hpl := hide (con_Plain H exD handL a19 n19 c19 w' (HT.below hb) (s19 w' (KeepsX.refl _ _)))
        go_wp2_with (go_at_call 18; refine hpl.out.mono ?_; rintro e w3 ⟨⟨a, n, c, rfl, hpa⟩, h3⟩)
        exact ⟨rfl, _, rfl, h3, a, n, c, by rw [ex_pl]; rfl, hpa⟩
      · intro o ho a' w' hb hfr hdep
        obtain rfl := Option.some.inj ho
        obtain ⟨a20, n20, c20, g20, s20⟩ := hdep 2 _ rfl (by kernel_rfl)
        simp at g20
        clear ho hfr hdep
        go_wp2_with fail
        exact ⟨rfl, _, rfl, Below.refl _ _, a20, n20, c20, rfl, s20⟩
      · intro o ho a' w' hb hfr hdep
        obtain rfl := Option.some.inj ho
        obtain ⟨a17, n17, c17, g17, s17⟩ := hdep 3 _ rfl (by kernel_rfl)
        simp at g17
        clear ho hfr hdep
        go_wp2_with fail
        exact ⟨rfl, _, rfl, Below.refl _ _, a17, n17, c17, rfl, s17⟩
      · intro o ho a' w' hb hfr hdep
        obtain rfl := Option.some.inj ho
        obtain ⟨a17, n17, c17, g17, s17⟩ := hdep 3 _ rfl (by kernel_rfl)
        simp at g17
        clear ho hfr hdep
        go_wp2_with fail
        exact ⟨rfl, _, rfl, Below.refl _ _, rfl⟩
      · intro o ho a' w' hb hfr hdep
        obtain rfl := Option.some.inj ho
        obtain ⟨a21, n21, c21, g21, s21⟩ := hdep 4 _ rfl (by kernel_rfl)
        simp at g21
        clear ho hfr hdep
        go_wp2_with fail
        exact ⟨rfl, _, rfl, Below.refl _ _, a21, n21, c21, rfl, s21⟩
    · intro gg w9 hb9 hp'
      obtain ⟨ap, np, cp, e4, hPl⟩ := hp' 6 _ rfl
      have p22 := hp' 5 _ rfl
      clear hp'
      simp at e4 p22
      simp only [List.drop_succ_cons, List.drop_zero, List.map_cons, List.map_nil, putAll, Act.put, List.setIfInBounds_toArray, List.set_cons_succ, List.set_cons_zero, List.cons_append, List.nil_append, e4, p22]
      clear e4 p22
      have HXn := HX.under hb9
      have HTn := HT.below hb9
      have hbn := hbw.trans (hb9.mono hbw.size)
      have HCn := HC.under hb9
      have HS1n := HS1.below hb9
      have HS2n := HS2.below hb9
      have HS3n := HS3.below hb9
      clear HX HT hbw hb9 HC HS1 HS2 HS3
      have HX := HXn
      have HT := HTn
      have hbw := hbn
      have HC := HCn
      have HS1 := HS1n
      have HS2 := HS2n
      have HS3 := HS3n
      clear HXn HTn hbn HCn HS1n HS2n HS3n
      clear W0
      obtain ⟨W0, rfl⟩ : ∃ w' : World, w' = w9 := ⟨_, rfl⟩
      go_wp2_with fail
      refine wp_region_free 8 [⟨0, 24, [24], fun vs _ => vs = [H.v]⟩, ⟨1, 25, [25], SyF 39 handL⟩, ⟨2, 26, [26], fun vs w => ∃ q, vs = [.slice (some ⟨q, 0, none⟩) 1 1] ∧ Sl w 1 (some ⟨q, 0, none⟩) 1 1 (([2] : List Int).map I64)⟩, ⟨3, 27, [27], fun vs w => ∃ a n c hs, vs = [.tuple #[.slice a n c, .int .i64 0]] ∧ Ng w a n c hs [[2, 2], [2]]⟩, ⟨4, 23, [23], fun vs w => ∃ a n c hs, vs = [.tuple #[.slice a n c, .int .i64 0]] ∧ Ng w a n c hs [[2, 2], [2]]⟩, ⟨5, 28, [28], fun vs w => ∃ a n c hs, vs = [.slice a n c] ∧ Ng w a n c hs [[2, 2], [2]]⟩, ⟨6, 29, [29], fun vs _ => vs = [.int .i64 0]⟩, ⟨7, 6, [6], fun vs w => ∃ a n c hs, vs = [.slice a n c] ∧ Ng w a n c hs [[2, 2], [2]]⟩] (by kernel_rfl) (by kernel_rfl) ?_ ?_ ?_
      · simp only [All]
        refine ⟨fun _ _ _ _ h => h, ?_, ?_, ?_, ?_, ?_, fun _ _ _ _ h => h, ?_, trivial⟩
        · exact fun vs w1 w2 hb h => h.below hb
        · exact fun vs w1 w2 hb ⟨q, h1, h2⟩ => ⟨q, h1, h2.below hb⟩
        · exact fun vs w1 w2 hb ⟨a, n, c, hs, h1, h2⟩ => ⟨a, n, c, hs, h1, h2.below hb⟩
        · exact fun vs w1 w2 hb ⟨a, n, c, hs, h1, h2⟩ => ⟨a, n, c, hs, h1, h2.below hb⟩
        · exact fun vs w1 w2 hb ⟨a, n, c, hs, h1, h2⟩ => ⟨a, n, c, hs, h1, h2.below hb⟩
        · exact fun vs w1 w2 hb ⟨a, n, c, hs, h1, h2⟩ => ⟨a, n, c, hs, h1, h2.below hb⟩
      · simp only [All]
        refine ⟨?_, ?_, ?_, ?_, ?_, ?_, ?_, ?_, trivial⟩
        · intro o ho a' w' hb hfr hdep
          obtain rfl := Option.some.inj ho
          have g1 : a'.tmps[1]?.getD undef = .pointer (some ⟨gT, 0, none⟩) := by have h := hfr 1 (by kernel_rfl); simpa using h
          clear ho hfr hdep
          refine load_struct 24 29 _ 7 size_tables _ Try.underlying29 ⟨gT, 0, none⟩ (by show a'.tmps.getD 1 undef = _; simpa using g1) (tcells H) rfl (fun j u hj => by rw [Addr.add_lit, Nat.zero_add]; exact (HX.under hb).at_ hj) ?_
          exact ⟨rfl, _, rfl, Below.refl _ _, rfl⟩
        · intro o ho a' w' hb hfr hdep
          obtain rfl := Option.some.inj ho
          clear ho hfr hdep
          have hwd := hide (word_at symsOf_hand (by decide) 39 (by decide) w')
          go_wp2_with (go_at_call 46; refine hwd.out.mono ?_; rintro e w3 ⟨v, rfl, hsy, h3⟩)
          exact ⟨rfl, _, rfl, h3, hsy⟩
        · intro o ho a' w' hb hfr hdep
          obtain rfl := Option.some.inj ho
          clear ho hfr hdep
          go_wp2_with fail
          exact ⟨rfl, _, rfl, blo _ _, _, rfl, Sl.fresh w' 3 1 1 [.int .i64 2] rfl (by decide)⟩
        · intro o ho a' w' hb hfr hdep
          obtain rfl := Option.some.inj ho
          have g24 : a'.tmps[24]?.getD undef = H.v := by have h := hdep 0 _ rfl (by kernel_rfl); simpa using h
          obtain ⟨a25, n25, c25, g25, s25⟩ := hdep 1 _ rfl (by kernel_rfl)
          simp at g25
          obtain ⟨q26, g26, s26⟩ := hdep 2 _ rfl (by kernel_rfl)
          simp at g26
          clear ho hfr hdep
          have hpl := hide (con_Width H exD handL a25 n25 c25 [2] (some ⟨q26, 0, none⟩) 1 1 w' (HT.below hb) (s25 w' (KeepsX.refl _ _)) s26 (by decide))
          go_wp2_with (go_at_call 24; refine hpl.out.mono ?_; rintro e w3 ⟨⟨a, n, c, hs, rfl, hpa⟩, h3⟩)
          rw [ex_wd] at hpa ⊢
          exact ⟨rfl, _, rfl, h3, a, n, c, hs, rfl, hpa⟩
        · intro o ho a' w' hb hfr hdep
          obtain rfl := Option.some.inj ho
          obtain ⟨a27, n27, c27, h27, g27, s27⟩ := hdep 3 _ rfl (by kernel_rfl)
          simp at g27
          clear ho hfr hdep
          go_wp2_with fail
          exact ⟨rfl, _, rfl, Below.refl _ _, a27, n27, c27, h27, rfl, s27⟩
        · intro o ho a' w' hb hfr hdep
          obtain rfl := Option.some.inj ho
          obtain ⟨a23, n23, c23, h23, g23, s23⟩ := hdep 4 _ rfl (by kernel_rfl)
          simp at g23
          clear ho hfr hdep
          go_wp2_with fail
          exact ⟨rfl, _, rfl, Below.refl _ _, a23, n23, c23, h23, rfl, s23⟩
        · intro o ho a' w' hb hfr hdep
          obtain rfl := Option.some.inj ho
          obtain ⟨a23, n23, c23, h23, g23, s23⟩ := hdep 4 _ rfl (by kernel_rfl)
          simp at g23
          clear ho hfr hdep
          go_wp2_with fail
          exact ⟨rfl, _, rfl, Below.refl _ _, rfl⟩
        · intro o ho a' w' hb hfr hdep
          obtain rfl := Option.some.inj ho
          obtain ⟨a28, n28, c28, h28, g28, s28⟩ := hdep 5 _ rfl (by kernel_rfl)
          simp at g28
          clear ho hfr hdep
          go_wp2_with fail
          exact ⟨rfl, _, rfl, Below.refl _ _, a28, n28, c28, h28, rfl, s28⟩
      · intro gg w9 hb9 hp'
        obtain ⟨aw, nw, cw, hsw, e6, hWd⟩ := hp' 7 _ rfl
        have p29 := hp' 6 _ rfl
        clear hp'
        simp at e6 p29
        simp only [List.drop_succ_cons, List.drop_zero, List.map_cons, List.map_nil, putAll, Act.put, List.setIfInBounds_toArray, List.set_cons_succ, List.set_cons_zero, List.cons_append, List.nil_append, e6, p29]
        clear e6 p29
        have HXn := HX.under hb9
        have HTn := HT.below hb9
        have hbn := hbw.trans (hb9.mono hbw.size)
        have HCn := HC.under hb9
        have HS1n := HS1.below hb9
        have HS2n := HS2.below hb9
        have HS3n := HS3.below hb9
        have hPln := hPl.below hb9
        clear HX HT hbw hb9 HC HS1 HS2 HS3 hPl
        have HX := HXn
        have HT := HTn
        have hbw := hbn
        have HC := HCn
        have HS1 := HS1n
        have HS2 := HS2n
        have HS3 := HS3n
        have hPl := hPln
        clear HXn HTn hbn HCn HS1n HS2n HS3n hPln
        clear W0
        obtain ⟨W0, rfl⟩ : ∃ w' : World, w' = w9 := ⟨_, rfl⟩
        obtain rfl : nw = 2 := hWd.n_eq
        go_wp2_with fail
        refine wp_region_chain4 8 (KeepsX 39) (GTr 39 W0 (trC exD abL) (trK exD abL) (trA exD abL)) [⟨6, 8, [], fun _ _ => True⟩, ⟨7, 85, [0], fun _ _ => True⟩] [⟨0, 31, [31], fun vs _ => vs = [H.v]⟩, ⟨1, 32, [32], SyF 39 abL⟩, ⟨2, 33, [33], TuF 39 6 (trC exD abL) (trK exD abL) (trA exD abL)⟩, ⟨3, 30, [30], TuF 39 6 (trC exD abL) (trK exD abL) (trA exD abL)⟩, ⟨4, 34, [34], VaF 39 (trC exD abL) (trK exD abL) (trA exD abL)⟩, ⟨5, 35, [35], fun vs _ => vs = [.int .i64 6]⟩] (by kernel_rfl) (by kernel_rfl) ?_ (fun _ _ h => KeepsX.of h) GTr.mono ?_ ?_ ?_ ?_
        · exact (Still.below 1 : Below W0.heap.size W0 (W0.drewN 1))
        · simp only [All]
          refine ⟨(fun _ _ _ _ h => h), (fun _ _ _ hk h => h.keep hk), (fun _ _ _ hk h => h.keep hk), (fun _ _ _ hk h => h.keep hk), (fun _ _ _ hk h => h.keep hk), (fun _ _ _ _ h => h), trivial⟩
        · intro m c hc o ho a w' hG hfr hdep
          rcases m with _ | _ | m
          · cases hc
            obtain rfl := Option.some.inj ho
            have hB : Below W0.heap.size W0 w' := hG
            clear hfr hdep hG
            go_wp2_with fail
            exact ⟨rfl, _, rfl, KeepsX.of (blo _ _), w'.heap.size, rfl, hB.size, [.slice none 0 0, .slice none 0 0, .slice none 0 0], rfl, Box.new _ _ _, hB.alloc hB.size _⟩
          · cases hc
            obtain rfl := Option.some.inj ho
            obtain ⟨b9, e9, hlo9, cs9, hl9, hbx9, hB⟩ := hG
            obtain ⟨v9, g9, c9⟩ := hdep 4 _ rfl (by kernel_rfl)
            replace e9 : a.tmps.getD 8 undef = .pointer (some ⟨b9, 0, none⟩) := e9
            replace g9 : a.tmps.getD 34 undef = v9 := by simpa using g9
            obtain ⟨a1, n1, c1, a2, n2, c2, a3, n3, c3, hs9, hv9, -⟩ := c9.ce
            subst hv9
            clear ho hfr hdep
            refine store_all 39 _ _ 39 b9 cs9 [.slice a1 n1 c1, .slice a2 n2 c2, .slice a3 n3 c3] _ size_cert hbx9 e9 g9 rfl (by rw [hl9]; rfl) (by simp [Value.oneCell']) ?_
            intro w10 hx10 hg10 hs10
            have hK := KeepsX.put hbx9 hg10
            have hb10 := hB.grown hg10 hB.size (fun k hk => by cases hk; exact hlo9)
            have E9 := hide e9
            clear e9 g9 hl9 hs10
            go_wp2_with fail
            exact ⟨rfl, undef, rfl, hK, b9, by first | rfl | exact E9.out | simpa using E9.out, hlo9, _, _, _, hx10, c9.keep hK, hb10⟩
          · cases hc
        · simp only [All]
          refine ⟨?_, ?_, ?_, ?_, ?_, ?_, trivial⟩
          · intro o ho a' w' hfr hdep hst
            obtain rfl := Option.some.inj ho
            have hb : Below W0.heap.size W0 w' := by obtain ⟨j, _, _, hG⟩ := hst; exact hG.bel
            have g1 : a'.tmps[1]?.getD undef = .pointer (some ⟨gT, 0, none⟩) := by have h := hfr 1 (by kernel_rfl); simpa using h
            clear ho hfr hdep hst
            refine load_struct 31 29 _ 7 size_tables _ Try.underlying29 ⟨gT, 0, none⟩ (by show a'.tmps.getD 1 undef = _; simpa using g1) (tcells H) rfl (fun j u hj => by rw [Addr.add_lit, Nat.zero_add]; exact (HX.under hb).at_ hj) ?_
            exact ⟨rfl, _, rfl, Below.refl _ _, rfl⟩
          · intro o ho a' w' hfr hdep hst
            obtain rfl := Option.some.inj ho
            have hb : Below W0.heap.size W0 w' := by obtain ⟨j, _, _, hG⟩ := hst; exact hG.bel
            clear ho hfr hdep hst
            have hwd := hide (word_at symsOf_ab (by decide) 39 (by decide) w')
            go_wp2_with (go_at_call 46; refine hwd.out.mono ?_; rintro e w3 ⟨v, rfl, hsy, h3⟩)
            exact ⟨rfl, _, rfl, h3, hsy⟩
          · intro o ho a' w' hfr hdep hst
            obtain rfl := Option.some.inj ho
            have hb : Below W0.heap.size W0 w' := by obtain ⟨j, _, _, hG⟩ := hst; exact hG.bel
            have g31 : a'.tmps[31]?.getD undef = H.v := by have h := hdep 0 _ rfl (by kernel_rfl); simpa using h
            obtain ⟨a32, n32, c32, g32, s32⟩ := hdep 1 _ rfl (by kernel_rfl)
            simp at g32
            clear ho hfr hdep hst
            have htr := hide (tr_at H exD abL a32 n32 c32 w' (HT.below hb) (s32 w' (KeepsX.refl _ _)) ex_ab rfl rfl rfl)
            go_wp2_with (go_at_call 13; refine htr.out.mono ?_; rintro e w3 ⟨⟨v, rfl, hce⟩, h3⟩)
            exact ⟨rfl, _, rfl, h3, _, rfl, hce⟩
          · intro o ho a' w' hfr hdep hst
            obtain rfl := Option.some.inj ho
            obtain ⟨v33, g33, c33⟩ := hdep 2 _ rfl (by kernel_rfl)
            simp at g33
            clear ho hfr hdep hst
            go_wp2_with fail
            exact ⟨rfl, _, rfl, Below.refl _ _, _, rfl, c33⟩
          · intro o ho a' w' hfr hdep hst
            obtain rfl := Option.some.inj ho
            obtain ⟨v30, g30, c30⟩ := hdep 3 _ rfl (by kernel_rfl)
            simp at g30
            clear ho hfr hdep hst
            go_wp2_with fail
            exact ⟨rfl, _, rfl, Below.refl _ _, _, rfl, c30⟩
          · intro o ho a' w' hfr hdep hst
            obtain rfl := Option.some.inj ho
            obtain ⟨v30, g30, c30⟩ := hdep 3 _ rfl (by kernel_rfl)
            simp at g30
            clear ho hfr hdep hst
            go_wp2_with fail
            exact ⟨rfl, _, rfl, Below.refl _ _, rfl⟩
        · intro g w9 hG hp
          obtain ⟨b9, e9, hlo9, s1, s2, s3, hx9, hc9, hb9⟩ := hG
          have p9 := hp 5 _ rfl
          replace e9 : g 8 = .pointer (some ⟨b9, 0, none⟩) := e9
          clear hp
          replace p9 : g 35 = .int .i64 6 := by simpa using p9
          simp only [List.drop_succ_cons, List.drop_zero, List.map_cons, List.map_nil, putAll, Act.put, List.setIfInBounds_toArray, List.set_cons_succ, List.set_cons_zero, List.set_nil, List.cons_append, List.nil_append, e9, p9]
          clear e9 p9
          clear hx9 hc9 hlo9
          have HXn := HX.under hb9
          have HTn := HT.below hb9
          have hbn := hbw.trans (hb9.mono hbw.size)
          have HCn := HC.under hb9
          have HS1n := HS1.below hb9
          have HS2n := HS2.below hb9
          have HS3n := HS3.below hb9
          have hPln := hPl.below hb9
          have hWdn := hWd.below hb9
          clear HX HT hbw hb9 HC HS1 HS2 HS3 hPl hWd
          have HX := HXn
          have HT := HTn
          have hbw := hbn
          have HC := HCn
          have HS1 := HS1n
          have HS2 := HS2n
          have HS3 := HS3n
          have hPl := hPln
          have hWd := hWdn
          clear HXn HTn hbn HCn HS1n HS2n HS3n hPln hWdn
          clear W0
          obtain ⟨W0, rfl⟩ : ∃ w' : World, w' = w9 := ⟨_, rfl⟩
          go_wp2_with fail
          refine wp_region_free 25 [⟨0, 36, [36], fun vs _ => vs = [.int .i64 0]⟩, ⟨1, 37, [37], fun vs _ => vs = [.bool false]⟩, ⟨2, 38, [38], fun vs _ => vs = [.bool false]⟩, ⟨3, 39, [39], fun vs _ => vs = [.int .i64 0]⟩, ⟨4, 40, [40], fun vs _ => vs = [.bool false]⟩, ⟨5, 41, [41], fun vs _ => vs = [.bool false]⟩, ⟨6, 42, [42], fun vs _ => vs = [.bool false]⟩, ⟨7, 43, [43], fun vs _ => vs = [.int .i64 0]⟩, ⟨8, 44, [44], fun vs _ => vs = [.bool false]⟩, ⟨9, 45, [45], fun vs _ => vs = [.bool false]⟩, ⟨10, 46, [46], fun vs _ => vs = [.bool false]⟩, ⟨11, 47, [47], fun vs _ => vs = [.int .i64 6]⟩, ⟨12, 48, [48], fun vs _ => vs = [.bool false]⟩, ⟨13, 49, [49], fun vs _ => vs = [.bool false]⟩, ⟨14, 50, [50], fun vs _ => vs = [.bool false]⟩, ⟨15, 51, [51], fun vs _ => vs = [.slice aw 2 cw]⟩, ⟨16, 52, [52], fun vs _ => vs = [.int .i64 2]⟩, ⟨17, 53, [53], fun vs _ => vs = [.bool false]⟩, ⟨18, 54, [54], fun vs _ => vs = [.bool false]⟩, ⟨19, 55, [55], fun vs _ => vs = [.bool false]⟩, ⟨20, 56, [56], fun vs _ => vs = [H.v]⟩, ⟨21, 57, [57], SyF 39 handL⟩, ⟨22, 58, [58], fun vs _ => vs = [.agg #[.slice a1 n1 c1, .slice a2 n2 c2, .slice a3 n3 c3]]⟩, ⟨23, 59, [59], fun vs _ => vs = [.int .i64 0]⟩, ⟨24, 60, [60], fun vs _ => vs = [.bool false]⟩] (by kernel_rfl) (by kernel_rfl) ?_ ?_ ?_
          · simp only [All]
            refine ⟨fun _ _ _ _ h => h, fun _ _ _ _ h => h, fun _ _ _ _ h => h, fun _ _ _ _ h => h, fun _ _ _ _ h => h, fun _ _ _ _ h => h, fun _ _ _ _ h => h, fun _ _ _ _ h => h, fun _ _ _ _ h => h, fun _ _ _ _ h => h, fun _ _ _ _ h => h, fun _ _ _ _ h => h, fun _ _ _ _ h => h, fun _ _ _ _ h => h, fun _ _ _ _ h => h, fun _ _ _ _ h => h, fun _ _ _ _ h => h, fun _ _ _ _ h => h, fun _ _ _ _ h => h, fun _ _ _ _ h => h, fun _ _ _ _ h => h, ?_, fun _ _ _ _ h => h, fun _ _ _ _ h => h, fun _ _ _ _ h => h, trivial⟩
            · exact fun vs w1 w2 hb h => h.below hb
          · simp only [All]
            refine ⟨?_, ?_, ?_, ?_, ?_, ?_, ?_, ?_, ?_, ?_, ?_, ?_, ?_, ?_, ?_, ?_, ?_, ?_, ?_, ?_, ?_, ?_, ?_, ?_, ?_, trivial⟩
            · intro o ho a' w' hb hfr hdep
              obtain rfl := Option.some.inj ho
              have g3 : a'.tmps[3]?.getD undef = .int .i64 0 := by have h := hfr 3 (by kernel_rfl); simpa using h
              clear ho hfr hdep
              go_wp2_with fail
              exact ⟨rfl, _, rfl, Below.refl _ _, rfl⟩
            · intro o ho a' w' hb hfr hdep
              obtain rfl := Option.some.inj ho
              have g36 : a'.tmps[36]?.getD undef = .int .i64 0 := by have h := hdep 0 _ rfl (by kernel_rfl); simpa using h
              clear ho hfr hdep
              go_wp2_with fail
              exact ⟨rfl, _, rfl, Below.refl _ _, rfl⟩
            · intro o ho a' w' hb hfr hdep
              obtain rfl := Option.some.inj ho
              have g37 : a'.tmps[37]?.getD undef = .bool false := by have h := hdep 1 _ rfl (by kernel_rfl); simpa using h
              clear ho hfr hdep
              go_wp2_with fail
              exact ⟨rfl, _, rfl, Below.refl _ _, rfl⟩
            · intro o ho a' w' hb hfr hdep
              obtain rfl := Option.some.inj ho
              have g5 : a'.tmps[5]?.getD undef = .int .i64 0 := by have h := hfr 5 (by kernel_rfl); simpa using h
              have g38 : a'.tmps[38]?.getD undef = .bool false := by have h := hdep 2 _ rfl (by kernel_rfl); simpa using h
              have q38 := opt_bool g38
              clear ho hfr hdep
              refine unguard_any (by simp [Region.wanted, yielded, q38]) ?_
              go_wp2_with fail
              exact ⟨rfl, _, rfl, Below.refl _ _, rfl⟩
            · intro o ho a' w' hb hfr hdep
              obtain rfl := Option.some.inj ho
              have g39 : a'.tmps[39]?.getD undef = .int .i64 0 := by have h := hdep 3 _ rfl (by kernel_rfl); simpa using h
              have g38 : a'.tmps[38]?.getD undef = .bool false := by have h := hdep 2 _ rfl (by kernel_rfl); simpa using h
              have q38 := opt_bool g38
              clear ho hfr hdep
              refine unguard_any (by simp [Region.wanted, yielded, q38]) ?_
              go_wp2_with fail
              exact ⟨rfl, _, rfl, Below.refl _ _, rfl⟩
            · intro o ho a' w' hb hfr hdep
              obtain rfl := Option.some.inj ho
              have g38 : a'.tmps[38]?.getD undef = .bool false := by have h := hdep 2 _ rfl (by kernel_rfl); simpa using h
              have g40 : a'.tmps[40]?.getD undef = .bool false := by have h := hdep 4 _ rfl (by kernel_rfl); simpa using h
              clear ho hfr hdep
              go_wp2_with fail
              exact ⟨rfl, _, rfl, Below.refl _ _, rfl⟩
            · intro o ho a' w' hb hfr hdep
              obtain rfl := Option.some.inj ho
              have g41 : a'.tmps[41]?.getD undef = .bool false := by have h := hdep 5 _ rfl (by kernel_rfl); simpa using h
              clear ho hfr hdep
              go_wp2_with fail
              exact ⟨rfl, _, rfl, Below.refl _ _, rfl⟩
            · intro o ho a' w' hb hfr hdep
              obtain rfl := Option.some.inj ho
              have g7 : a'.tmps[7]?.getD undef = .int .i64 0 := by have h := hfr 7 (by kernel_rfl); simpa using h
              have g42 : a'.tmps[42]?.getD undef = .bool false := by have h := hdep 6 _ rfl (by kernel_rfl); simpa using h
              have q42 := opt_bool g42
              clear ho hfr hdep
              refine unguard_any (by simp [Region.wanted, yielded, q42]) ?_
              go_wp2_with fail
              exact ⟨rfl, _, rfl, Below.refl _ _, rfl⟩
            · intro o ho a' w' hb hfr hdep
              obtain rfl := Option.some.inj ho
              have g43 : a'.tmps[43]?.getD undef = .int .i64 0 := by have h := hdep 7 _ rfl (by kernel_rfl); simpa using h
              have g42 : a'.tmps[42]?.getD undef = .bool false := by have h := hdep 6 _ rfl (by kernel_rfl); simpa using h
              have q42 := opt_bool g42
              clear ho hfr hdep
              refine unguard_any (by simp [Region.wanted, yielded, q42]) ?_
              go_wp2_with fail
              exact ⟨rfl, _, rfl, Below.refl _ _, rfl⟩
            · intro o ho a' w' hb hfr hdep
              obtain rfl := Option.some.inj ho
              have g42 : a'.tmps[42]?.getD undef = .bool false := by have h := hdep 6 _ rfl (by kernel_rfl); simpa using h
              have g44 : a'.tmps[44]?.getD undef = .bool false := by have h := hdep 8 _ rfl (by kernel_rfl); simpa using h
              clear ho hfr hdep
              go_wp2_with fail
              exact ⟨rfl, _, rfl, Below.refl _ _, rfl⟩
            · intro o ho a' w' hb hfr hdep
              obtain rfl := Option.some.inj ho
              have g45 : a'.tmps[45]?.getD undef = .bool false := by have h := hdep 9 _ rfl (by kernel_rfl); simpa using h
              clear ho hfr hdep
              go_wp2_with fail
              exact ⟨rfl, _, rfl, Below.refl _ _, rfl⟩
            · intro o ho a' w' hb hfr hdep
              obtain rfl := Option.some.inj ho
              have g9 : a'.tmps[9]?.getD undef = .int .i64 6 := by have h := hfr 9 (by kernel_rfl); simpa using h
              have g46 : a'.tmps[46]?.getD undef = .bool false := by have h := hdep 10 _ rfl (by kernel_rfl); simpa using h
              have q46 := opt_bool g46
              clear ho hfr hdep
              refine unguard_any (by simp [Region.wanted, yielded, q46]) ?_
              go_wp2_with fail
              exact ⟨rfl, _, rfl, Below.refl _ _, rfl⟩
            · intro o ho a' w' hb hfr hdep
              obtain rfl := Option.some.inj ho
              have g47 : a'.tmps[47]?.getD undef = .int .i64 6 := by have h := hdep 11 _ rfl (by kernel_rfl); simpa using h
              have g46 : a'.tmps[46]?.getD undef = .bool false := by have h := hdep 10 _ rfl (by kernel_rfl); simpa using h
              have q46 := opt_bool g46
              clear ho hfr hdep
              refine unguard_any (by simp [Region.wanted, yielded, q46]) ?_
              go_wp2_with fail
              exact ⟨rfl, _, rfl, Below.refl _ _, rfl⟩
            · intro o ho a' w' hb hfr hdep
              obtain rfl := Option.some.inj ho
              have g46 : a'.tmps[46]?.getD undef = .bool false := by have h := hdep 10 _ rfl (by kernel_rfl); simpa using h
              have g48 : a'.tmps[48]?.getD undef = .bool false := by have h := hdep 12 _ rfl (by kernel_rfl); simpa using h
              clear ho hfr hdep
              go_wp2_with fail
              exact ⟨rfl, _, rfl, Below.refl _ _, rfl⟩
            · intro o ho a' w' hb hfr hdep
              obtain rfl := Option.some.inj ho
              have g49 : a'.tmps[49]?.getD undef = .bool false := by have h := hdep 13 _ rfl (by kernel_rfl); simpa using h
              clear ho hfr hdep
              go_wp2_with fail
              exact ⟨rfl, _, rfl, Below.refl _ _, rfl⟩
            · intro o ho a' w' hb hfr hdep
              obtain rfl := Option.some.inj ho
              have g6 : a'.tmps[6]?.getD undef = .slice aw 2 cw := by have h := hfr 6 (by kernel_rfl); simpa using h
              have g50 : a'.tmps[50]?.getD undef = .bool false := by have h := hdep 14 _ rfl (by kernel_rfl); simpa using h
              have q50 := opt_bool g50
              clear ho hfr hdep
              refine unguard_any (by simp [Region.wanted, yielded, q50]) ?_
              go_wp2_with fail
              exact ⟨rfl, _, rfl, Below.refl _ _, rfl⟩
            · intro o ho a' w' hb hfr hdep
              obtain rfl := Option.some.inj ho
              have g51 : a'.tmps[51]?.getD undef = .slice aw 2 cw := by have h := hdep 15 _ rfl (by kernel_rfl); simpa using h
              have g50 : a'.tmps[50]?.getD undef = .bool false := by have h := hdep 14 _ rfl (by kernel_rfl); simpa using h
              have q50 := opt_bool g50
              clear ho hfr hdep
              refine unguard_any (by simp [Region.wanted, yielded, q50]) ?_
              go_wp2_with fail
              exact ⟨rfl, _, rfl, Below.refl _ _, rfl⟩
            · intro o ho a' w' hb hfr hdep
              obtain rfl := Option.some.inj ho
              have g52 : a'.tmps[52]?.getD undef = .int .i64 2 := by have h := hdep 16 _ rfl (by kernel_rfl); simpa using h
              have g50 : a'.tmps[50]?.getD undef = .bool false := by have h := hdep 14 _ rfl (by kernel_rfl); simpa using h
              have q50 := opt_bool g50
              clear ho hfr hdep
              refine unguard_any (by simp [Region.wanted, yielded, q50]) ?_
              go_wp2_with fail
              exact ⟨rfl, _, rfl, Below.refl _ _, rfl⟩
            · intro o ho a' w' hb hfr hdep
              obtain rfl := Option.some.inj ho
              have g50 : a'.tmps[50]?.getD undef = .bool false := by have h := hdep 14 _ rfl (by kernel_rfl); simpa using h
              have g53 : a'.tmps[53]?.getD undef = .bool false := by have h := hdep 17 _ rfl (by kernel_rfl); simpa using h
              clear ho hfr hdep
              go_wp2_with fail
              exact ⟨rfl, _, rfl, Below.refl _ _, rfl⟩
            · intro o ho a' w' hb hfr hdep
              obtain rfl := Option.some.inj ho
              have g54 : a'.tmps[54]?.getD undef = .bool false := by have h := hdep 18 _ rfl (by kernel_rfl); simpa using h
              clear ho hfr hdep
              go_wp2_with fail
              exact ⟨rfl, _, rfl, Below.refl _ _, rfl⟩
            · intro o ho a' w' hb hfr hdep
              obtain rfl := Option.some.inj ho
              have g1 : a'.tmps[1]?.getD undef = .pointer (some ⟨gT, 0, none⟩) := by have h := hfr 1 (by kernel_rfl); simpa using h
              have g55 : a'.tmps[55]?.getD undef = .bool false := by have h := hdep 19 _ rfl (by kernel_rfl); simpa using h
              have q55 := opt_bool g55
              clear ho hfr hdep
              refine unguard_any (by simp [Region.wanted, yielded, q55]) ?_
              refine load_struct 56 29 _ 7 size_tables _ Try.underlying29 ⟨gT, 0, none⟩ (by show a'.tmps.getD 1 undef = _; simpa using g1) (tcells H) rfl (fun j u hj => by rw [Addr.add_lit, Nat.zero_add]; exact (HX.under hb).at_ hj) ?_
              exact ⟨rfl, _, rfl, Below.refl _ _, rfl⟩
            · intro o ho a' w' hb hfr hdep
              obtain rfl := Option.some.inj ho
              have g55 : a'.tmps[55]?.getD undef = .bool false := by have h := hdep 19 _ rfl (by kernel_rfl); simpa using h
              have q55 := opt_bool g55
              clear ho hfr hdep
              refine unguard_any (by simp [Region.wanted, yielded, q55]) ?_
              have hwd := hide (word_at symsOf_hand (by decide) 39 (by decide) w')
              go_wp2_with (go_at_call 46; refine hwd.out.mono ?_; rintro e w3 ⟨v, rfl, hsy, h3⟩)
              exact ⟨rfl, _, rfl, h3, hsy⟩
            · intro o ho a' w' hb hfr hdep
              obtain rfl := Option.some.inj ho
              have g2 : a'.tmps[2]?.getD undef = .pointer (some ⟨bC, 0, none⟩) := by have h := hfr 2 (by kernel_rfl); simpa using h
              have g55 : a'.tmps[55]?.getD undef = .bool false := by have h := hdep 19 _ rfl (by kernel_rfl); simpa using h
              have q55 := opt_bool g55
              clear ho hfr hdep
              refine unguard_any (by simp [Region.wanted, yielded, q55]) ?_
              refine load_struct 58 39 _ 3 size_cert _ Try.underlying39 ⟨bC, 0, none⟩ (by show a'.tmps.getD 2 undef = _; simpa using g2) [.slice a1 n1 c1, .slice a2 n2 c2, .slice a3 n3 c3] rfl (fun j u hj => by rw [Addr.add_lit, Nat.zero_add]; exact (HC.under hb).at_ hj) ?_
              exact ⟨rfl, _, rfl, Below.refl _ _, rfl⟩
            · intro o ho a' w' hb hfr hdep
              obtain rfl := Option.some.inj ho
              have g56 : a'.tmps[56]?.getD undef = H.v := by have h := hdep 20 _ rfl (by kernel_rfl); simpa using h
              obtain ⟨a57, n57, c57, g57, s57⟩ := hdep 21 _ rfl (by kernel_rfl)
              simp at g57
              have g58 : a'.tmps[58]?.getD undef = .agg #[.slice a1 n1 c1, .slice a2 n2 c2, .slice a3 n3 c3] := by have h := hdep 22 _ rfl (by kernel_rfl); simpa using h
              have g55 : a'.tmps[55]?.getD undef = .bool false := by have h := hdep 19 _ rfl (by kernel_rfl); simpa using h
              have q55 := opt_bool g55
              clear ho hfr hdep
              refine unguard_any (by simp [Region.wanted, yielded, q55]) ?_
              have hck := hide (con_Check H exD handL a57 n57 c57 (trC exD handL) (trK exD handL) (trA exD handL) hs3 a1 a2 a3 n1 c1 n2 c2 n3 c3 w' (HT.below hb) (s57 w' (KeepsX.refl _ _)) (HS1.below hb) (HS2.below hb) (HS3.below hb) ex_few ex_bd)
              rw [ex_ck] at hck
              go_wp2_with (go_at_call 27; refine hck.out.mono ?_; rintro e w3 ⟨rfl, h3⟩)
              exact ⟨rfl, _, rfl, h3, rfl⟩
            · intro o ho a' w' hb hfr hdep
              obtain rfl := Option.some.inj ho
              have g59 : a'.tmps[59]?.getD undef = .int .i64 0 := by have h := hdep 23 _ rfl (by kernel_rfl); simpa using h
              have g55 : a'.tmps[55]?.getD undef = .bool false := by have h := hdep 19 _ rfl (by kernel_rfl); simpa using h
              have q55 := opt_bool g55
              clear ho hfr hdep
              refine unguard_any (by simp [Region.wanted, yielded, q55]) ?_
              go_wp2_with fail
              exact ⟨rfl, _, rfl, Below.refl _ _, rfl⟩
          · intro gg w9 hb9 hp'
            have p55 := hp' 19 _ rfl
            have p60 := hp' 24 _ rfl
            clear hp'
            simp at p55 p60
            simp only [List.drop_succ_cons, List.drop_zero, List.map_cons, List.map_nil, putAll, Act.put, List.setIfInBounds_toArray, List.set_cons_succ, List.set_cons_zero, List.cons_append, List.nil_append, p55, p60]
            clear p55 p60
            have HXn := HX.under hb9
            have HTn := HT.below hb9
            have hbn := hbw.trans (hb9.mono hbw.size)
            have HCn := HC.under hb9
            have HS1n := HS1.below hb9
            have HS2n := HS2.below hb9
            have HS3n := HS3.below hb9
            have hPln := hPl.below hb9
            have hWdn := hWd.below hb9
            clear HX HT hbw hb9 HC HS1 HS2 HS3 hPl hWd
            have HX := HXn
            have HT := HTn
            have hbw := hbn
            have HC := HCn
            have HS1 := HS1n
            have HS2 := HS2n
            have HS3 := HS3n
            have hPl := hPln
            have hWd := hWdn
            clear HXn HTn hbn HCn HS1n HS2n HS3n hPln hWdn
            clear W0
            obtain ⟨W0, rfl⟩ : ∃ w' : World, w' = w9 := ⟨_, rfl⟩

            clear HX HT HS2 HS3
            have cC : W0.cell? ⟨bC, 0, none⟩ = some (.slice a1 n1 c1) := HC.at_ rfl
            have HS1' := HS1
            rw [ex_trC] at HS1'
            rw [ex_plC] at hPl
            have al1 := blo W0 (.cells #[.int .u8 8, .int .u8 28] 5)
            have hsm1 := hide (same_at (x := [8, 28]) (y := [8, 28]) rfl (HS1'.below al1) (Sl.fresh W0 5 1 2 (([8, 28] : List UInt8).map B8) rfl (by decide)))
            clear HC HS1 HS1'
            go_wp2_with (go_at_call 20; refine hsm1.out.mono ?_; rintro e W1 ⟨rfl, hb1⟩; refine hold ?_)
            refine hide ?_
            have hq := al1.trans (hb1.mono al1.size)
            have hPl1 := hPl.below hq
            have hWd1 := hWd.below hq
            have hbw1 := hbw.trans (hq.mono hbw.size)
            clear hsm1 al1 hb1 hq hPl hWd hbw cC
            have al1 := blo W1 (.cells #[.int .u8 8, .int .u8 1, .int .u8 14, .int .u8 4] 5)
            have hsm1 := hide (same_at (x := [8, 1, 14, 4]) (y := [8, 1, 14, 4]) rfl (hPl1.below al1) (Sl.fresh W1 5 1 4 (([8, 1, 14, 4] : List UInt8).map B8) rfl (by decide)))
            go_wp2_with (first
              | (go_at_call 20; refine hsm1.out.mono ?_; rintro e W2 ⟨rfl, hb1⟩; refine hold ?_)
              | (refine unguard_any (by first | rfl | (simp [Region.wanted, yielded, Act.put]; done)) ?_; go_at_call 20; refine hsm1.out.mono ?_; rintro e W2 ⟨rfl, hb1⟩; refine hold ?_))
            refine hide ?_
            have hq := al1.trans (hb1.mono al1.size)
            have hWd2 := hWd1.below hq
            have hbw2 := hbw1.trans (hq.mono hbw1.size)
            clear hsm1 al1 hb1 hq hPl1 hWd1 hbw1
            obtain ⟨⟨x0, y0, z0⟩, hx0⟩ : ∃ h, hsw[0]? = some h := ⟨_, List.getElem?_eq_getElem (by rw [hWd2.len]; decide)⟩
            obtain ⟨⟨x1, y1, z1⟩, hx1⟩ : ∃ h, hsw[1]? = some h := ⟨_, List.getElem?_eq_getElem (by rw [hWd2.len]; decide)⟩
            have hr0 := hWd2.row 0 _ _ hx0 rfl
            have hr1 := hWd2.row 1 _ _ hx1 rfl
            have hu0 : (hsw.map hdv)[0]? = some (.slice x0 y0 z0) := by rw [List.getElem?_map, hx0]; rfl
            have hu1 : (hsw.map hdv)[1]? = some (.slice x1 y1 z1) := by rw [List.getElem?_map, hx1]; rfl
            have htop := hWd2.top
            clear hx0 hx1 hWd2
            have al1 := blo W2 (.cells #[.int .i64 2, .int .i64 2] 3)
            have hsm1 := hide (ints_at (x := [2, 2]) (y := [2, 2]) rfl (hr0.below al1) (Sl.fresh W2 3 1 2 (([2, 2] : List Int).map I64) rfl (by decide)))
            go_wp2_with (first
              | (refine unguard_any (by first | rfl | (simp [Region.wanted, yielded, Act.put]; done)) ?_; with_reducible refine idx_ii 73 _ _ aw 2 cw _ rfl htop _ _ 0 rfl rfl _ hu0 ?_; intro bI oI hcI hbI)
              | (go_at_call 26; refine hsm1.out.mono ?_; rintro e W3 ⟨rfl, hb1⟩; refine hold ?_))
            refine hide ?_
            have hq := al1.trans (hb1.mono al1.size)
            have hr3 := hr1.below hq
            have htop3 := htop.below hq
            have hbw3 := hbw2.trans (hq.mono hbw2.size)
            clear hsm1 al1 hb1 hq hr0 hr1 htop hbw2 hcI hbI
            have al1 := blo W3 (.cells #[.int .i64 2] 3)
            have hsm1 := hide (ints_at (x := [2]) (y := [2]) rfl (hr3.below al1) (Sl.fresh W3 3 1 1 (([2] : List Int).map I64) rfl (by decide)))
            go_wp2_with (first
              | (refine unguard_any (by first | rfl | (simp [Region.wanted, yielded, Act.put]; done)) ?_; with_reducible refine idx_ii 80 _ _ aw 2 cw _ rfl htop3 _ _ 1 rfl rfl _ hu1 ?_; intro bI oI hcI hbI)
              | (go_at_call 26; refine hsm1.out.mono ?_; rintro e W4 ⟨rfl, hb1⟩; refine hold ?_))
            refine hide ?_
            have hq := al1.trans (hb1.mono al1.size)
            have hbw4 := hbw3.trans (hq.mono hbw3.size)
            clear hsm1 al1 hb1 hq hr3 htop3 hbw3 hcI hbI
            go_wp2_with fail
            go_ret
            exact ⟨rfl, hbw4⟩
end Go.Proofs.Ytlpkicjijlcbfaa
end

/- the text DL1 -/
section
/- Chapter 08: the walk of ContractFewest. -/
set_option linter.unusedVariables false
namespace Go.Dx
open Go.RowKit
theorem trC_len {t : Ta} {l : List Sy} (ht : validE t = 0) (hg : goodS l = true) (he : trE t l = 0) : ((trC t l).length : Int) = numV t l := by
  unfold trC
  rw [if_pos he]
  exact path_cost ht hg (trE_ok he).2
end Go.Dx
namespace Go.Proofs.Ytlpkicjijlcbfaa
open Go.RowKit Go.Dx Go.Al
end Go.Proofs.Ytlpkicjijlcbfaa
end

/- the text E5 -/
section
/- Chapter 08: odd texts; certificates of both kinds; are they equal. -/
set_option linter.unusedVariables false
namespace Go.Proofs.Ytlpkicjijlcbfaa
open Go.RowKit Go.Dx Go.Al
section
variable {w : World} {ops : Array Oper} {rest : List Oper} {o : Oper} {act : Act} {Q : Exit → Act → World → Prop}
/-- 'append(out, l...)' on []Sym -/
theorem app_ysl (hg : o.guard = none) (s x : Operand) (hop : o.op = Op.call { callee := Callee.builtin Builtin.append, args := #[s, x], argTypes := #[31, 31] })
    (w0 : World) (B : Nat) (a : Option Addr) (n c : Nat) (xs : List Value) (hs : act.eval s = .slice a n c) (hown : Go.Dx.Own w B 88 2 a n c xs)
    (a2 : Option Addr) (m c2 : Nat) (ys : List Sy) (hx : act.eval x = .slice a2 m c2) (hy : Sl w 2 a2 m c2 (ys.flatMap sc))
    (hn : n + m ≤ 1000000) (hB : B ≤ w.heap.size) (hbel : Below B w0 w)
    (hK : ∀ a' c' w', Go.Dx.Own w' B 88 2 a' (n + m) c' (xs ++ ys.flatMap sc) → w.grownBy w' (a.map (·.block)) → Below B w0 w' → wpList Try.prog ops Q rest (act.put o.dst (.slice a' (n + m) c')) w') :
    wpList Try.prog ops Q (o :: rest) act w :=
  append_own hg s x 31 hop 88 zeroSym 2 16 Try.underlying31 info_sym rfl w0 B a n c xs hs hown a2 m c2 (ys.flatMap sc) hx hy (one_flat sc_one ys) (by omega) (by unfold maxLen; omega) hB hbel hK
end
/-- the symbol that odd adds -/
def oddS (by_ : Int) : Sy := ⟨(aroundF by_ 5 : Int) - 1, ([97, 31, 127, 126, 49] : List UInt8).getD (aroundF (by_.tdiv 5) 5) 0⟩
set_option maxRecDepth 100000 in
set_option maxHeartbeats 4000000 in
theorem law8_odd (l : List Sy) (a : Option Addr) (n c : Nat) (by_ : Int) (w : World) (hs : Sl w 2 a n c (l.flatMap sc)) (hn : n ≤ 10000) (hby : -9223372036854775808 ≤ by_ ∧ by_ ≤ 9223372036854775807) :
    Calls Try.prog 11 #[.slice a n c, .int .i64 by_] w fun e w' => ∃ a' c', e = .returned (.slice a' (n + 1) c') ∧ Go.Dx.Own w' w.heap.size 88 2 a' (n + 1) c' ((l ++ [oddS by_]).flatMap sc) ∧ Below w.heap.size w w' := by
  obtain ⟨r1, hr1⟩ : ∃ r, Hid (aroundF by_ 5 = r) := ⟨_, hide rfl⟩
  obtain ⟨r2, hr2⟩ : ∃ r, Hid (aroundF (by_.tdiv 5) 5 = r) := ⟨_, hide rfl⟩
  have hl1 : r1 < 5 := by rw [← hr1.out]; exact aroundF_lt (by decide)
  have hl2 : r2 < 5 := by rw [← hr2.out]; exact aroundF_lt (by decide)
  obtain ⟨hd0, hd1⟩ := tdiv_in hby.1 hby.2 (d := 5) (by decide)
  have hA1 := hide (fun w' => ref_Around by_ 5 5 w' rfl hby.1 hby.2 (by decide) (by decide))
  have hA2 := hide (fun w' => ref_Around (by_.tdiv 5) 5 5 w' rfl hd0 hd1 (by decide) (by decide))
  rw [hr1.out] at hA1
  rw [hr2.out] at hA2
  obtain ⟨cc, hcc⟩ : ∃ c, Hid (([97, 31, 127, 126, 49] : List UInt8)[r2]? = some c) := ⟨_, hide (List.getElem?_eq_getElem (by simpa using hl2))⟩
  have hS : Hid (oddS by_ = ⟨(r1 : Int) - 1, cc⟩) := hide (by unfold oddS; rw [hr1.out, hr2.out, List.getD_eq_getElem?_getD, hcc.out]; rfl)
  rw [hS.out]
  have ho := Go.Dx.Own.built w w.heap.size 88 2 0 #[] (Nat.le_refl _) rfl (by decide)
  have hal := blo w (.cells #[] 88)
  have hsz : w.heap.size ≤ (w.alloc (.cells #[] 88)).heap.size := hal.size
  have hs6 := hs.below hal
  clear hs
  go_enter Try.func11, Try.ntmps11
  go_wp2_with (at_builtin; refine app_ysl rfl _ _ rfl w w.heap.size _ 0 0 _ rfl ho a n c l rfl hs6 (by omega) hsz hal ?_; intro aP cP w7 hO7 gb7 hb7; refine hold ?_)
  refine hide ?_
  rw [Nat.zero_add] at hO7
  clear ho hal hsz hs6 gb7
  have hl3 : r2 < 5 := hl2
  have hlit : (w7.alloc (.cells #[.int .u8 97, .int .u8 31, .int .u8 127, .int .u8 126, .int .u8 49] 5)).cell? ⟨w7.heap.size, r2, none⟩ = some (.int .u8 (cc.toNat : Int)) := by
    have h := Box.new w7 5 (([97, 31, 127, 126, 49] : List UInt8).map B8).toArray
    exact h.at_ (j := r2) (by rw [List.toList_toArray, List.getElem?_map, hcc.out]; rfl)
  have hal7 := blo w7 (.cells #[.int .u8 97, .int .u8 31, .int .u8 127, .int .u8 126, .int .u8 49] 5)
  have hO8 := hO7.below hal7
  have hb8 := hb7.trans (hal7.mono hb7.size)
  go_wp2_with (first
    | (go_at_call 23; refine (hA1.out _).mono ?_; rintro e w8 ⟨rfl, rfl⟩; refine hold ?_))
  refine hide ?_
  go_wp2_with (first
    | (go_at_call 23; refine (hA2.out _).mono ?_; rintro e w8 ⟨rfl, rfl⟩; refine hold ?_))
  refine hide ?_
  generalize w7.alloc (.cells #[.int .u8 97, .int .u8 31, .int .u8 127, .int .u8 126, .int .u8 49] 5) = w8 at *
  obtain ⟨g7, hg7⟩ : ∃ g, Hid (w7.heap.size = g) := ⟨_, hide rfl⟩
  rw [hg7.out] at hlit ⊢
  clear hal7 hO7 hb7
  go_wp2_with (first
    | (at_builtin; refine app_sy rfl _ _ rfl w w.heap.size aP n cP _ rfl hO8 ⟨(r1 : Int) - 1, cc⟩ rfl (by omega) hb8.size hb8 ?_; intro a' c' w9 ho9 _ hb9; refine hold ?_))
  refine hide ?_
  go_wp2_with fail
  go_ret
  exact ⟨a', c', rfl, by rw [List.flatMap_append, List.flatMap_singleton]; exact ho9, hb9⟩
end Go.Proofs.Ytlpkicjijlcbfaa
end

/- the text E6 -/
section
/- Chapter 08: what the laws against the reference share. -/
set_option linter.unusedVariables false
namespace Go.Proofs.Ytlpkicjijlcbfaa
open Go.RowKit Go.Dx Go.Al
theorem size_sys : (Try.prog.info? 31).map (·.size) = some 1 := by kernel_rfl
end Go.Proofs.Ytlpkicjijlcbfaa
end

/- the text E7 -/
section
/- Chapter 08: the reference's Plain. -/
set_option linter.unusedVariables false
set_option linter.unusedSimpArgs false
namespace Go.Dx
theorem find_hit {p : Stp → Bool} {L : List Stp} {k : Nat} {x : Stp} (h : L[k]? = some x) (hn : (L.take k).find? p = none) (hp : p x = true) : L.find? p = some x := by
  have e : L.take (k + 1) = L.take k ++ [x] := by rw [List.take_add_one, h]; rfl
  have e2 : L = L.take (k + 1) ++ L.drop (k + 1) := (List.take_append_drop _ _).symm
  rw [e2, List.find?_append, e, List.find?_append, hn]
  simp [hp]
theorem find_miss {p : Stp → Bool} {L : List Stp} {k : Nat} {x : Stp} (h : L[k]? = some x) (hn : (L.take k).find? p = none) (hp : p x = false) : (L.take (k + 1)).find? p = none := by
  have e : L.take (k + 1) = L.take k ++ [x] := by rw [List.take_add_one, h]; rfl
  rw [e, List.find?_append, hn]
  simp [hp]
end Go.Dx
namespace Go.Proofs.Ytlpkicjijlcbfaa
open Go.RowKit Go.Dx Go.Al
set_option maxRecDepth 100000 in
set_option maxHeartbeats 8000000 in
theorem ref8_Plain (H : TH) (t : Ta) (l : List Sy) (a : Option Addr) (n c : Nat) (w : World) (hT : TaIs w H t) (hs : Sl w 2 a n c (l.flatMap sc)) :
    Calls Try.prog 19 #[H.v, .slice a n c] w fun e w' => GivesPl t l e w' ∧ Below w.heap.size w w' := by
  have Hm := hide hT
  have Hs := hide hs
  clear hT hs
  obtain ⟨⟨a0, n0, c0⟩, ⟨a1, n1, c1⟩, ps0, ps1, ⟨ad, nd, cd⟩, ⟨ac, nc, cc⟩, ⟨an, nn, cn⟩, ⟨af, nf, cf⟩, ⟨aw, nw, cw⟩⟩ := H
  unfold TH.v
  simp only [hdv]
  have Y1 := Box.new w 29 #[.slice a0 n0 c0, .slice a1 n1 c1, .slice ad nd cd, .slice ac nc cc, .slice an nn cn, .slice af nf cf, .slice aw nw cw]
  have hba := blo w (.cells #[.slice a0 n0 c0, .slice a1 n1 c1, .slice ad nd cd, .slice ac nc cc, .slice an nn cn, .slice af nf cf, .slice aw nw cw] 29)
  go_enter Try.func19, Try.ntmps19
  go_upto_region 1 with fail
  generalize w.alloc (.cells _ 29) = w1 at *
  obtain ⟨H, hH⟩ : ∃ H : TH, H = ⟨(a0, n0, c0), (a1, n1, c1), ps0, ps1, (ad, nd, cd), (ac, nc, cc), (an, nn, cn), (af, nf, cf), (aw, nw, cw)⟩ := ⟨_, rfl⟩
  have HX1 : Box w1 w.heap.size 29 (tcells H) := by rw [hH]; exact Y1
  have HT1 : TaIs w1 H t := by rw [hH]; exact Hm.out.below hba
  have HS1 := Hs.out.below hba
  clear hH Hm Hs Y1
  obtain ⟨gT, hgT⟩ : ∃ gT, Hid (w.heap.size = gT) := ⟨_, hide rfl⟩
  rw [hgT.out] at HX1 ⊢
  have hfit := hide (ref8_Fits H t l a n c w1 HT1 HS1)
  obtain ⟨FE, hFE⟩ : ∃ FE, Hid (fitsE t l = FE) := ⟨_, hide rfl⟩
  rw [hFE.out] at hfit
  go_wp2_with (first
    | (with_reducible refine load_struct 14 29 _ 7 size_tables _ Try.underlying29 ⟨gT, 0, none⟩ rfl (tcells H) rfl (fun j u hj => by rw [Addr.add_lit, Nat.zero_add]; exact HX1.at_ hj) ?_)
    | (go_at_call 41; refine hfit.out.mono ?_; rintro e w2 ⟨rfl, hb2⟩; refine hold ?_))
  refine hide ?_
  have HX2 := HX1.under hb2
  have HT2 := HT1.below hb2
  have HS2 := HS1.below hb2
  have hgw := hba.size
  have hbl2 := hba.trans (hb2.mono hba.size)
  clear HX1 HT1 HS1 hba hb2 hfit
  by_cases hfe : FE = 0
  · subst hfe
    obtain ⟨hv, hg, h2048⟩ := fitsE_ok hFE.out
    have HV := hide hv
    have HG := hide hg
    have H2 := hide h2048
    have hnl : n = l.length := HS2.nf sc_len (by decide)
    have HNL := hide hnl
    have hn20 : n ≤ 2048 := by omega
    clear hv hg h2048 hnl
    have hZ3 := Box.new w2 70 #[.int .i64 0, .bool false, .bool false]
    have hb3 := blo w2 (.cells #[.int .i64 0, .bool false, .bool false] 70)
    have hs3 : (w2.alloc (.cells #[.int .i64 0, .bool false, .bool false] 70)).heap.size = w2.heap.size + 1 := by simp
    go_upto_region 6 with fail
    generalize w2.alloc (.cells _ 70) = w3 at *
    obtain ⟨gZ, hgZ⟩ : ∃ g, Hid (w2.heap.size = g) := ⟨_, hide rfl⟩
    rw [hgZ.out] at hZ3 hb3 hs3 ⊢
    have hgTZ : gT < gZ := by rw [← hgZ.out]; exact HX2.lt
    have hS3 : gZ + 1 ≤ w3.heap.size := by omega
    have hgwZ : w.heap.size ≤ gZ := by rw [hgT.out]; exact Nat.le_of_lt hgTZ
    clear hs3
    go_wp2_with fail
    go_loopg [7, 9] (measP l 0 s00) (fun gh v7 v9 w' => ∃ (i : Nat) (s : St) (o3 : Option Addr) (n3 c3 : Nat) (out : List UInt8) (f : Nat), gh = measP l i s ∧ v9 = .int .i64 (i : Int) ∧ v7 = .slice o3 n3 c3 ∧ i ≤ n ∧ (s.lang = 0 ∨ s.lang = 1) ∧ Go.Dx.Own w' (gZ + 1) 5 1 o3 n3 c3 (out.map B8) ∧ Box w' gZ 70 (scells s) ∧ Below gZ w2 w' ∧ gZ + 1 ≤ w'.heap.size ∧ n3 + 12 * measP l i s ≤ 12 * (2 * n + 1) ∧ measP l i s ≤ f ∧ plainT t l = (goQ t l f i s).map (out ++ ·))
    case atStart => exact ⟨0, s00, none, 0, 0, [], 2 * l.length + 1, rfl, rfl, rfl, Nat.zero_le _, .inl rfl, Go.Dx.Own.nil _ _ _ _, hZ3, hb3, hS3, by have := meas_le (l := l) (i := 0) (s := s00); have := HNL.out; omega, by have := meas_le (l := l) (i := 0) (s := s00); omega, by unfold plainT; simp⟩
    case round =>
      clear hZ3 hb3 hS3
      obtain ⟨i, s, o3, n3, c3, out, f, hgh, rfl, rfl, hi, hsl, hO, hX, hb, hBw, hbd, hf, hpl⟩ := hrel
      have HGH := hide hgh
      have HBD := hide hbd
      have HF := hide hf
      have HPL := hide hpl
      clear hgh hbd hf hpl
      by_cases hin : i < n
      · have d1 : decide ((i : Int) < (n : Int)) = true := decide_eq_true (by omega)
        have hinl : i < l.length := by have := HNL.out; omega
        have hb' : Below w2.heap.size w2 wr := by rw [hgZ.out]; exact hb
        have HXr : Box wr gT 29 (tcells H) := HX2.below hb hgTZ
        have HTr := HT2.below hb'
        have HSr := HS2.below hb'
        obtain ⟨L, hL⟩ : ∃ L, Hid (stepsL t s l i = L) := ⟨_, hide rfl⟩
        have hstp := hide (rsteps_of8 H t s l (i : Int) hL.out a n c (by have := H2.out; omega) wr HTr HSr)
        obtain ⟨LN, hLN⟩ : ∃ LN, L.length = LN := ⟨_, rfl⟩
        rw [hLN] at hstp
        have HLN := hide hLN
        have hLN6 : LN ≤ 1000000 := by rw [← hLN, ← hL.out]; exact steps_few HV.out s l i
        clear hLN
        go_wp2_with (first
          | (with_reducible refine load_struct 24 29 _ 7 size_tables _ Try.underlying29 ⟨gT, 0, none⟩ rfl (tcells H) rfl (fun j u hj => by rw [Addr.add_lit, Nat.zero_add]; exact HXr.at_ hj) ?_)
          | (with_reducible refine load_struct 25 70 _ 3 size_rst _ Try.underlying70 ⟨gZ, 0, none⟩ rfl (scells s) rfl (fun j u hj => by rw [Addr.add_lit, Nat.zero_add]; exact hX.at_ hj) ?_)
          | (go_at_call 44; refine hstp.out.mono ?_; rintro e w4 ⟨a2, c2, ps2, rfl, hS4, hb4⟩; refine hold ?_))
        refine hide ?_
        have hX4 := hX.under hb4
        have hO4 := hO.below hb4
        have HT4 := HTr.below hb4
        have HX4 := HXr.under hb4
        have hb24 := hb.trans (hb4.mono (by omega))
        have hB4 : gZ + 1 ≤ w4.heap.size := Nat.le_trans hBw hb4.size
        clear HXr HTr HSr hstp hX hO hb hb' hBw hb4
        go_wp2_with fail
        go_loopg [7, 9, 11, 12] LN (fun gh v7 v9 v11 v12 w' => ∃ (k i' : Nat) (s' : St) (o' : Option Addr) (n' c' : Nat) (out' : List UInt8) (fd : Bool), k ≤ LN ∧ gh = LN - k ∧ v12 = .int .i64 (k : Int) ∧ v11 = .bool fd ∧ v9 = .int .i64 (i' : Int) ∧ v7 = .slice o' n' c' ∧ Go.Dx.Own w' (gZ + 1) 5 1 o' n' c' (out'.map B8) ∧ Box w' gZ 70 (scells s') ∧ Below gZ w2 w' ∧ gZ + 1 ≤ w'.heap.size ∧ Hid (fd = false → i' = i ∧ s' = s ∧ n' = n3 ∧ out' = out ∧ Below w4.heap.size w4 w' ∧ (L.take k).find? (plainOk t s) = none) ∧ Hid (fd = true → ∃ x, L.find? (plainOk t s) = some x ∧ x ∈ L ∧ i' = i + x.len.toNat ∧ s' = x.dst ∧ n' = n3 + x.cells.length ∧ out' = out ++ x.cells))
        case atStart => exact ⟨0, i, s, o3, n3, c3, out, false, Nat.zero_le _, rfl, rfl, rfl, rfl, rfl, hO4, hX4, hb24, hB4, hide (fun _ => ⟨rfl, rfl, rfl, rfl, Below.refl _ _, rfl⟩), hide (fun h => by cases h)⟩
        case round =>
          clear hX4 hO4 hb24 hB4
          obtain ⟨k, i', s', o', n', c', out', fd, hk, rfl, rfl, rfl, rfl, rfl, hO, hX, hb, hBw, hF0, hF1⟩ := hrel
          cases fd with
          | false =>
            obtain ⟨rfl, rfl, rfl, rfl, hbw, hfn⟩ := hF0.out rfl
            clear hF0 hF1
            have HFN := hide hfn
            clear hfn
            by_cases hkn : k < LN
            · have d2 : decide ((k : Int) < (LN : Int)) = true := decide_eq_true (by omega)
              have hSr := hS4.below hbw
              have HTr := HT4.below hbw
              have HXr := HX4.under hbw
              obtain ⟨p, hpk⟩ : ∃ p, ps2[k]? = some p := ⟨_, List.getElem?_eq_getElem (by have := congrArg List.length hSr.eq; rw [List.length_map] at this; have := HLN.out; omega)⟩
              have hkx : L[k]? = some p.1 := by rw [← hSr.eq, List.getElem?_map, hpk]; rfl
              have hxm : p.1 ∈ stepsL t s' l i' := by rw [hL.out]; exact List.mem_of_getElem? hkx
              have hrule := step_rule HV.out HG.out hinl hsl hxm
              have hst := step_meas HV.out HG.out hinl hsl hxm
              have hcf := step_cells HV.out hxm
              obtain ⟨PO, hPO⟩ : ∃ PO, Hid (plainOk t s' p.1 = PO) := ⟨_, hide rfl⟩
              obtain ⟨b4, o4, hab, hb4', z0, z1, z2, z3, z4, z5⟩ := st_cells hSr hpk
              subst hab
              have hslc := hSr.row p (List.mem_of_getElem? hpk)
              have hpn := hslc.n_eq
              have HKX := hide hkx
              obtain ⟨⟨⟨sl, sn, si⟩, lnn, cs, ru⟩, ⟨qa, qn, qc⟩⟩ := p
              simp only at z0 z1 z2 z3 z4 z5 hslc hpn hst hcf hrule hPO HKX
              obtain ⟨lk, rfl⟩ : ∃ lk : Nat, lnn = (lk : Int) := ⟨lnn.toNat, by have := hst.2.2.2; omega⟩
              simp only [Int.toNat_natCast] at hst
              have hil : i' + lk ≤ n := by have := HNL.out; omega
              have hqn12 : qn ≤ 12 := by omega
              have HPN := hide hpn
              have HST := hide hst
              have HRU := hide hrule
              have hldc : ∀ j u, ([.int .i64 sl, .bool sn, .bool si, .int .i64 (lk : Int), .slice qa qn qc, .int .i64 ru] : List Value)[j]? = some u → wr.cell? ((⟨b4, o4 + k * 6, none⟩ : Addr).add j) = some u := fun j u hj => by
                rw [Addr.add_lit]
                match j, hj with
                | 0, hj => cases hj; exact z0
                | 1, hj => cases hj; exact z1
                | 2, hj => cases hj; exact z2
                | 3, hj => cases hj; exact z3
                | 4, hj => cases hj; exact z4
                | 5, hj => cases hj; exact z5
                | j + 6, hj => cases hj
              have HLD := hide hldc
              have HP8 := Box.new wr 103 #[.int .i64 sl, .bool sn, .bool si, .int .i64 (lk : Int), .slice qa qn qc, .int .i64 ru]
              have hb78 := blo wr (.cells #[.int .i64 sl, .bool sn, .bool si, .int .i64 (lk : Int), .slice qa qn qc, .int .i64 ru] 103)
              clear hldc z0 z1 z2 z3 z4 z5 hpk hpn hst hcf hSr hkx hxm hrule
              go_upto_region 14 with (first
                | (with_reducible refine index_rowk 41 104 _ _ 103 Try.underlying104 6 size_rf6 b4 o4 LN c2 rfl _ _ k rfl rfl hkn ?_)
                | (with_reducible refine load_struct 42 103 _ 6 size_rf6 _ Try.underlying103 ⟨b4, o4 + k * 6, none⟩ rfl [.int .i64 sl, .bool sn, .bool si, .int .i64 (lk : Int), .slice qa qn qc, .int .i64 ru] rfl HLD.out ?_)
                | (with_reducible refine store_fresh 103 103 _ _ 6 size_rf6 _ rfl (.agg #[.int .i64 sl, .bool sn, .bool si, .int .i64 (lk : Int), .slice qa qn qc, .int .i64 ru]) [.int .i64 sl, .bool sn, .bool si, .int .i64 (lk : Int), .slice qa qn qc, .int .i64 ru] rfl rfl rfl rfl (by simp [Value.oneCell']) ?_))
              generalize wr.alloc (.cells _ 103) = w8 at *
              obtain ⟨gP, hgP⟩ : ∃ g, Hid (wr.heap.size = g) := ⟨_, hide rfl⟩
              rw [hgP.out] at HP8 ⊢
              have HP8 : Box w8 gP 103 [.int .i64 sl, .bool sn, .bool si, .int .i64 (lk : Int), .slice qa qn qc, .int .i64 ru] := HP8
              have hX8 := hX.under hb78
              have hO8 := hO.below hb78
              have HX8 := HXr.under hb78
              have HT8 := HTr.below hb78
              have hsl8 := hslc.below hb78
              have hb28 := hb.trans (hb78.mono (by omega))
              have hbw8 := hbw.trans (hb78.mono hbw.size)
              have hB8 : gZ + 1 ≤ w8.heap.size := Nat.le_trans hBw hb78.size
              have hgP8 : gZ + 1 ≤ gP := by rw [← hgP.out]; exact hBw
              clear hX hO HXr HTr hslc hb hbw hb78 hBw HLD
              go_cut [64] (fun v w' => v = .bool PO ∧ Below w8.heap.size w8 w')
              case first =>
                have c5 : w8.cell? ⟨gP, 5, none⟩ = some (.int .i64 ru) := HP8.at_ rfl
                have c3 : w8.cell? ⟨gP, 3, none⟩ = some (.int .i64 (lk : Int)) := HP8.at_ rfl
                by_cases h0 : ru < 0
                · have d0 : decide (ru < 0) = true := decide_eq_true h0
                  have e : PO = true := by rw [← hPO.out]; unfold plainOk; simp [h0]
                  subst e
                  clear hPO
                  go_quiet (fail)
                  go_wp2_with fail
                  go_meet
                  exact ⟨rfl, Still.below _⟩
                · have d0 : decide (ru < 0) = false := decide_eq_false h0
                  by_cases h1 : lk = 1
                  · subst h1
                    have hlt := HRU.out (by omega)
                    obtain ⟨lg, nm, wd⟩ := s'
                    simp only at hsl hlt
                    obtain ⟨r, rfl⟩ : ∃ r : Nat, ru = (r : Int) := ⟨ru.toNat, by omega⟩
                    obtain ⟨lj, hlj, rfl⟩ : ∃ lj : Nat, lj < 2 ∧ lg = (lj : Int) := by rcases hsl with rfl | rfl; exact ⟨0, by decide, rfl⟩; exact ⟨1, by decide, rfl⟩
                    obtain ⟨ra, rn, rc', ps, e1, hRu, e2⟩ := sel_lang HT8 lj hlj
                    have hlo : langOf t (lj : Int) = langK t lj := by
                      have : lj = 0 ∨ lj = 1 := by omega
                      rcases this with rfl | rfl <;> rfl
                    rw [hlo, ← e2] at hlt
                    simp only [Int.toNat_natCast, rus, List.length_map] at hlt
                    obtain ⟨q, hq⟩ : ∃ q, ps[r]? = some q := ⟨_, List.getElem?_eq_getElem hlt⟩
                    have hkn3 : r < rn := by rw [hRu.n_eq]; exact hlt
                    have cL : w8.cell? ⟨gZ, 0, none⟩ = some (.int .i64 (lj : Int)) := hX8.at_ rfl
                    have cT : w8.cell? ⟨gT, lj, none⟩ = some (.slice ra rn rc') := HX8.at_ (by
                      have : lj = 0 ∨ lj = 1 := by omega
                      rcases this with rfl | rfl
                      · exact e1
                      · exact e1)
                    obtain ⟨rb, ro, hab, hrb, hcell⟩ := hRu.top.ex (by rw [flat_len rc_len]; omega)
                    subst hab
                    have cW : w8.cell? ⟨rb, ro + r * 3 + 1, none⟩ = some (.int .i64 q.1.whr) := by
                      have h := hcell (r * 3 + 1) (.int .i64 q.1.whr) (by rw [flat_get rc_len hq (by decide : 1 < 3)]; rfl)
                      rw [← Nat.add_assoc] at h
                      exact h
                    have e : PO = (q.1.whr == 0) := by
                      rw [← hPO.out]
                      have hq2 : ((langOf t (lj : Int))[r]?).map (·.whr) = some q.1.whr := by rw [hlo, ← e2]; simp [rus, hq]
                      exact plainOk_at (by omega) rfl (by simpa using hq2)
                    obtain ⟨wv, hwv⟩ : ∃ wv, q.1.whr = wv := ⟨_, rfl⟩
                    rw [hwv] at cW e
                    have HE := hide e
                    clear e hwv
                    have hlk2 : decide (lj < 2) = true := decide_eq_true hlj
                    have hkn2 : decide (r < rn) = true := decide_eq_true hkn3
                    clear hPO hRu hq e1 e2 hlo HT8 HX8 hX8 hcell hlt hO8 hsl8 hb28 hbw8 HP8
                    go_quiet (fail)
                    go_wp2_with fail
                    go_meet
                    exact ⟨by rw [HE.out], Still.below _⟩
                  · have d2 : ((lk : Int) == 1) = false := by simp; omega
                    have e : PO = false := by rw [← hPO.out]; unfold plainOk; simp [h0]; omega
                    subst e
                    clear hPO
                    go_quiet (fail)
                    go_wp2_with fail
                    go_meet
                    exact ⟨rfl, Still.below _⟩
              case rest =>
                obtain ⟨rfl, hb9⟩ := hcut
                have HP9 := HP8.under hb9
                have hX9 := hX8.under hb9
                have hO9 := hO8.below hb9
                have hsl9 := hsl8.below hb9
                have hb29 := hb28.trans (hb9.mono (by omega))
                have hbw9 := hbw8.trans (hb9.mono hbw8.size)
                have hB9 : gZ + 1 ≤ wc.heap.size := Nat.le_trans hB8 hb9.size
                clear HP8 hX8 hO8 HX8 HT8 hsl8 hb28 hbw8 hB8 hb9
                cases PO with
                | false =>
                  have hmiss := find_miss HKX.out HFN.out hPO.out
                  have HMI := hide hmiss
                  clear hmiss
                  go_wp2_with fail
                  go_roundg (LN - (k + 1))
                  case measure => omega
                  case rel => exact ⟨k + 1, i', s', o', n', c', out', false, by omega, rfl, by go_num, rfl, rfl, rfl, hO9, hX9, hb29, hB9, hide (fun _ => ⟨rfl, rfl, rfl, rfl, hbw9, HMI.out⟩), hide (fun h => by cases h)⟩
                | true =>
                  have hhit := find_hit HKX.out HFN.out hPO.out
                  have HHI := hide hhit
                  have HXM := hide (List.mem_of_getElem? HKX.out)
                  clear hhit hbw9
                  have cP4 : wc.cell? ⟨gP, 4, none⟩ = some (.slice qa qn qc) := HP9.at_ rfl
                  have hn5 : n' ≤ 50000 := by have := HBD.out; omega
                  go_wp2_with (at_builtin; refine app_bs rfl _ _ rfl wc (gZ + 1) o' n' c' _ rfl hO9 qa qn qc cs rfl hsl9 (by omega) hB9 (Below.refl _ _) ?_; intro o1' x1' w10 hO10 gb10 hb10; refine hold ?_)
                  refine hide ?_
                  have hX10 := hX9.grown gb10 (own_lt hO9 (by omega))
                  have HP10 := HP9.grown gb10 (own_box hO9 HP9 (by decide))
                  have hb210 := hb29.grown gb10 (by omega) (fun q hq => by have := own_ge hO9 q hq; omega)
                  have hB10 : gZ + 1 ≤ w10.heap.size := Nat.le_trans hB9 gb10.size
                  have cP3 : w10.cell? ⟨gP, 3, none⟩ = some (.int .i64 (lk : Int)) := HP10.at_ rfl
                  have hldS : ∀ j u, ([.int .i64 sl, .bool sn, .bool si] : List Value)[j]? = some u → w10.cell? ((⟨gP, 0, none⟩ : Addr).add j) = some u := fun j u hj => by
                    rw [Addr.add_lit, Nat.zero_add]
                    match j, hj with
                    | 0, hj => cases hj; exact HP10.at_ rfl
                    | 1, hj => cases hj; exact HP10.at_ rfl
                    | 2, hj => cases hj; exact HP10.at_ rfl
                    | j + 3, hj => cases hj
                  have HLS := hide hldS
                  clear hldS hX9 HP9 hO9 hb29 hsl9 cP4 gb10 hb10
                  go_wp2_with (first
                    | (with_reducible refine load_struct 74 70 _ 3 size_rst _ Try.underlying70 ⟨gP, 0, none⟩ rfl [.int .i64 sl, .bool sn, .bool si] rfl HLS.out ?_)
                    | (with_reducible refine hold_store ?_))
                  refine hide ?_
                  refine store_all 70 _ _ 70 gZ (scells s') [.int .i64 sl, .bool sn, .bool si] (.agg #[.int .i64 sl, .bool sn, .bool si]) size_rst hX10 rfl rfl rfl rfl (by simp [Value.oneCell']) ?_; intro w13 hZ13 gb13 zb13
                  have hO13 := hO10.keptK gb13 (Nat.lt_succ_self _)
                  have hb213 := hb210.grown gb13 (by omega) (fun q hq => by cases hq; omega)
                  have hB13 : gZ + 1 ≤ w13.heap.size := Nat.le_trans hB10 gb13.size
                  clear hX10 HP10 hO10 hb210 cP3 HLS gb13 zb13
                  go_wp2_with fail
                  go_roundg (LN - (k + 1))
                  case measure => omega
                  case rel => exact ⟨k + 1, i' + lk, ⟨sl, sn, si⟩, o1', n' + qn, x1', out' ++ cs, true, by omega, rfl, by go_num, rfl, by go_num, rfl, by rw [List.map_append]; exact hO13, hZ13, hb213, hB13, hide (fun h => by cases h), hide (fun _ => ⟨_, HHI.out, HXM.out, rfl, rfl, by have := HPN.out; show n' + qn = n' + cs.length; omega, rfl⟩)⟩
            · obtain rfl : k = LN := by omega
              have d2 : decide ((k : Int) < (k : Int)) = false := by simp
              have hgo : goQ t l f i' s' = none := by
                obtain ⟨f', rfl⟩ : ∃ f', f = f' + 1 := ⟨f - 1, by have h1 := meas_pos (l := l) (i := i') (s := s') hinl; have h2 := HF.out; omega⟩
                refine goQ_stuck hinl ?_
                have h3 := HFN.out
                rw [List.take_of_length_le (by have := HLN.out; omega)] at h3
                rw [hL.out]
                exact h3
              have e2 : plainT t l = none := by rw [HPL.out, hgo]; rfl
              have HE2 := hide e2
              clear hgo e2
              go_wp2_with fail
              go_ret2
              exact ⟨⟨none, 0, 0, by unfold plE; rw [hFE.out, if_neg (by simp), if_pos HE2.out]; rfl, by unfold plC; rw [hFE.out, if_neg (by simp), HE2.out]; exact Sl.empty _ _⟩, hbl2.trans (hb.mono hgwZ)⟩
          | true =>
            obtain ⟨x, hfx, hxm, rfl, rfl, rfl, rfl⟩ := hF1.out rfl
            clear hF0 hF1
            obtain ⟨f', rfl⟩ : ∃ f', f = f' + 1 := ⟨f - 1, by have h1 := meas_pos (l := l) (i := i) (s := s) hinl; have h2 := HF.out; omega⟩
            have hgo := goQ_step (f := f') hinl (by rw [hL.out]; exact hfx)
            rw [← hL.out] at hxm
            have hst := step_meas HV.out HG.out hinl hsl hxm
            have hcf := step_cells HV.out hxm
            have HGO := hide hgo
            have HST := hide hst
            have HCF := hide hcf
            clear hgo hst hcf hfx hxm
            have hend : ∃ (i1 : Nat) (s : St) (o3 : Option Addr) (m3 c3 : Nat) (out1 : List UInt8) (f : Nat), measP l (i + x.len.toNat) x.dst = measP l i1 s ∧ Value.int .i64 ((i + x.len.toNat : Nat) : Int) = .int .i64 (i1 : Int) ∧ Value.slice o' (n3 + x.cells.length) c' = .slice o3 m3 c3 ∧ i1 ≤ n ∧ (s.lang = 0 ∨ s.lang = 1) ∧ Go.Dx.Own wr (gZ + 1) 5 1 o3 m3 c3 (out1.map B8) ∧ Box wr gZ 70 (scells s) ∧ Below gZ w2 wr ∧ gZ + 1 ≤ wr.heap.size ∧ m3 + 12 * measP l i1 s ≤ 12 * (2 * n + 1) ∧ measP l i1 s ≤ f ∧ plainT t l = (goQ t l f i1 s).map (out1 ++ ·) := ⟨i + x.len.toNat, x.dst, o', n3 + x.cells.length, c', out ++ x.cells, f', rfl, rfl, rfl, by have := HST.out; have := HNL.out; omega, HST.out.2.2.1, hO, hX, hb, hBw, by have := HST.out; have := HBD.out; have := HCF.out; omega, by have := HST.out; have := HF.out; omega, by rw [HPL.out, HGO.out, Option.map_map]; congr 1; funext z; simp⟩
            have HEND := hide hend
            clear hend
            by_cases hkn : k < LN
            · have d2 : decide ((k : Int) < (LN : Int)) = true := decide_eq_true (by omega)
              go_wp2_with fail
              go_roundg (measP l (i + x.len.toNat) x.dst)
              case measure => have := HGH.out; have := HST.out; omega
              case rel => exact HEND.out
            · have d2 : decide ((k : Int) < (LN : Int)) = false := decide_eq_false (by omega)
              go_wp2_with fail
              go_roundg (measP l (i + x.len.toNat) x.dst)
              case measure => have := HGH.out; have := HST.out; omega
              case rel => exact HEND.out
      · have d1 : decide ((i : Int) < (n : Int)) = false := decide_eq_false (by omega)
        have e1 := HPL.out
        rw [goQ_end (by have := HNL.out; omega)] at e1
        simp only [Option.map_some, List.append_nil] at e1
        have HE1 := hide e1
        clear e1
        go_wp2_with fail
        go_ret2
        exact ⟨⟨o3, n3, c3, by unfold plE; rw [hFE.out, if_neg (by simp), HE1.out, if_neg (by simp)]; rfl, by unfold plC; rw [hFE.out, if_neg (by simp), HE1.out]; exact hO.sl⟩, hbl2.trans (hb.mono hgwZ)⟩
  · have d1 : (FE == 0) = false := by simp [hfe]
    go_wp2_with fail
    go_ret2
    exact ⟨⟨none, 0, 0, by unfold plE; rw [hFE.out, if_pos hfe]; rfl, by unfold plC; rw [hFE.out, if_pos hfe]; exact Sl.empty _ _⟩, hbl2⟩
end Go.Proofs.Ytlpkicjijlcbfaa
end
