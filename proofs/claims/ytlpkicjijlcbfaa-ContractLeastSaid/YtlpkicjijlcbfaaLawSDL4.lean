/- Chapter 08: the walk of ContractLeast. -/
import Derived.Test.YtlpkicjijlcbfaaBaseSI
set_option linter.unusedVariables false
set_option linter.unusedSimpArgs false
namespace Go.Proofs.Ytlpkicjijlcbfaa
open Go.RowKit Go.Dx Go.Al
set_option maxRecDepth 100000 in
set_option maxHeartbeats 16000000 in
theorem walk_ContractLeast (n : Int) (l : List Int) (a : Option Addr) (ln lc : Nat) (at_ how by_ : Int) (w : World) (hs : Sl w 1 a ln lc (l.map I64)) (hl : ∀ x ∈ l, -9223372036854775808 ≤ x ∧ x ≤ 9223372036854775807)
    (hn : -9223372036854775808 ≤ n ∧ n ≤ 9223372036854775807) (hat : -9223372036854775808 ≤ at_ ∧ at_ ≤ 9223372036854775807) (hhow : -9223372036854775808 ≤ how ∧ how ≤ 9223372036854775807) (hby : -9223372036854775808 ≤ by_ ∧ by_ ≤ 9223372036854775807) :
    Calls Try.prog 3 #[.int .i64 n, .slice a ln lc, .int .i64 at_, .int .i64 how, .int .i64 by_] w fun e w' => e = .returned (.bool true) ∧ Below w.heap.size w w' := by
  have HAT := hide hat
  have HHOW := hide hhow
  have HBY := hide hby
  clear hat hhow hby
  obtain ⟨S, HSS⟩ : ∃ S, Hid (symsL l = S) := ⟨_, hide rfl⟩
  have hSok := symsL_ok l
  rw [HSS.out] at hSok
  have hS24 := hSok.2
  have hgS : goodS S = true := by
    unfold goodS
    rw [List.all_eq_true]
    intro x hx
    have h := hSok.1 x hx
    unfold plainSy at h
    rw [Bool.and_eq_true] at h
    exact h.1
  have HGS := hide hgS
  clear hSok hgS
  go_enter Try.func3, Try.ntmps3
  go_wp2_with fail
  refine (ref_Tables n hn.1 hn.2 w).mono ?_
  rintro e w1 ⟨H, t, rfl, hT, hG, hb1⟩
  have HV : Hid (validE t = 0) := hide hG.ok
  have HZT : Hid (BSz 900 t) := hide (bsz_good8 hG)
  clear hG
  have Hm := hide hT
  clear hT
  obtain ⟨⟨a0, n0, c0⟩, ⟨a1, n1, c1⟩, ps0, ps1, ⟨ad, nd, cd⟩, ⟨ac, nc, cc⟩, ⟨an, nn, cn⟩, ⟨af, nf, cf⟩, ⟨aw, nw, cw⟩⟩ := H
  unfold TH.v
  simp only [hdv]
  have Y1 := Box.new w1 29 #[.slice a0 n0 c0, .slice a1 n1 c1, .slice ad nd cd, .slice ac nc cc, .slice an nn cn, .slice af nf cf, .slice aw nw cw]
  have hbY := blo w1 (.cells #[.slice a0 n0 c0, .slice a1 n1 c1, .slice ad nd cd, .slice ac nc cc, .slice an nn cn, .slice af nf cf, .slice aw nw cw] 29)
  go_wp2_with fail
  generalize w1.alloc (.cells _ 29) = w2 at *
  obtain ⟨H, hH⟩ : ∃ H : TH, H = ⟨(a0, n0, c0), (a1, n1, c1), ps0, ps1, (ad, nd, cd), (ac, nc, cc), (an, nn, cn), (af, nf, cf), (aw, nw, cw)⟩ := ⟨_, rfl⟩
  have hX2 : Box w2 w1.heap.size 29 (tcells H) := by rw [hH]; exact Y1
  have hT2 : TaIs w2 H t := by rw [hH]; exact Hm.out.below hbY
  have hB2 := hb1.trans (hbY.mono hb1.size)
  clear hH Hm hbY hb1 Y1
  generalize w1.heap.size = gT at *
  refine (ref_Syms l hl a ln lc w2 (hs.below hB2)).mono ?_
  rintro e w3 ⟨a3, c3, rfl, hO3, hb3⟩
  rw [HSS.out] at hO3 ⊢
  have HX3 := hX2.under hb3
  have HT3 := hT2.below hb3
  have hB3 := hB2.trans (hb3.mono hB2.size)
  have HS3 := hO3.sl
  clear hO3 hX2 hT2 hB2 hb3 hs hn hl HSS
  obtain ⟨N, hN⟩ : ∃ N, Hid (S.length = N) := ⟨_, hide rfl⟩
  rw [hN.out] at HS3 hS24 ⊢
  obtain ⟨X0, hX0⟩ : ∃ x, oddS by_ = x := ⟨_, rfl⟩
  have hodd1 := hide (law8_odd S a3 N c3 by_ w3 HS3 (by omega) HBY.out)
  rw [hX0] at hodd1
  go_wp2_with (go_at_call 11; refine hodd1.out.mono ?_; rintro e w4 ⟨a4, c4, rfl, hO4, hb4⟩; refine hold ?_)
  refine hide ?_
  have hodd2 := hide (law8_odd [] none 0 0 by_ w4 (Sl.empty _ _) (by decide) HBY.out)
  rw [hX0] at hodd2
  have HX4 := HX3.under hb4
  have HT4 := HT3.below hb4
  have HS4 := HS3.below hb4
  have hB4 := hB3.trans (hb4.mono hB3.size)
  clear HX3 HT3 HS3 hB3 hb4 hodd1 hX0
  go_wp2_with (go_at_call 11; refine hodd2.out.mono ?_; rintro e w5 ⟨a5, c5, rfl, hO5, hb5⟩; refine hold ?_)
  refine hide ?_
  have HX5 := HX4.under hb5
  have HT5 := HT4.below hb5
  have HS5 := HS4.below hb5
  have hO45 := hO4.sl.below hb5
  have hO55 := hO5.sl
  have hB5 := hB4.trans (hb5.mono hB4.size)
  clear HX4 HT4 HS4 hB4 hb5 hodd2 hO4 hO5
  have hL6 := Box.new w5 31 #[.slice a3 N c3, .slice a4 (N + 1) c4, .slice a5 (0 + 1) c5, .slice none 0 0]
  have hb6 := blo w5 (.cells #[.slice a3 N c3, .slice a4 (N + 1) c4, .slice a5 (0 + 1) c5, .slice none 0 0] 31)
  rw [Nat.zero_add] at hL6 hb6
  go_upto_region 4 with fail
  generalize w5.alloc (.cells _ 31) = w6 at *
  obtain ⟨gX, hgX⟩ : ∃ g, Hid (w5.heap.size = g) := ⟨_, hide rfl⟩
  rw [hgX.out] at hL6 ⊢
  have HX6 := HX5.under hb6
  have HT6 := HT5.below hb6
  have htx : Hid (∀ k, k < 4 → ∃ (xa : Option Addr) (xn xc : Nat) (X : List Sy), ([.slice a3 N c3, .slice a4 (N + 1) c4, .slice a5 1 c5, .slice none 0 0] : List Value)[k]? = some (.slice xa xn xc) ∧ Sl w6 2 xa xn xc (X.flatMap sc)) := hide (fun k hk => by
    match k, hk with
    | 0, _ => exact ⟨_, _, _, S, rfl, HS5.below hb6⟩
    | 1, _ => exact ⟨_, _, _, _, rfl, hO45.below hb6⟩
    | 2, _ => exact ⟨_, _, _, _, rfl, by have h := hO55.below hb6; exact h⟩
    | 3, _ => exact ⟨_, _, _, [], rfl, Sl.empty _ _⟩
    | k + 4, h => omega)
  have hB6 := hB5.trans (hb6.mono hB5.size)
  have hL6 : Box w6 gX 31 [.slice a3 N c3, .slice a4 (N + 1) c4, .slice a5 1 c5, .slice none 0 0] := hL6
  obtain ⟨HDS, hHD⟩ : ∃ L : List Value, Hid (L = [.slice a3 N c3, .slice a4 (N + 1) c4, .slice a5 1 c5, .slice none 0 0]) := ⟨_, hide rfl⟩
  rw [← hHD.out] at hL6 htx
  clear HX5 HT5 HS5 hO45 hO55 hB5 hb6 hHD
  refine wp_region_free 7 [⟨0, 32, [32], fun vs _ => vs = [H.v]⟩, ⟨1, 33, [33], fun vs _ => vs = [H.v]⟩, ⟨2, 34, [34], fun vs _ => vs = [.int .i64 at_]⟩, ⟨3, 35, [35], fun vs _ => vs = [.int .i64 how]⟩, ⟨4, 36, [36], fun vs _ => vs = [.int .i64 by_]⟩, ⟨5, 37, [37], fun vs w => ∃ H' t', vs = [TH.v H'] ∧ TaIs w H' t'⟩, ⟨6, 38, [38], fun vs w => ∃ b H' t', vs = [.slice (some ⟨b, 0, none⟩) 2 2] ∧ Box w b 29 (tcells H ++ tcells H') ∧ TaIs w H' t'⟩] (by kernel_rfl) (by kernel_rfl) ?_ ?_ ?_
  · simp only [All]
    refine ⟨fun _ _ _ _ h => h, fun _ _ _ _ h => h, fun _ _ _ _ h => h, fun _ _ _ _ h => h, fun _ _ _ _ h => h, ?_, ?_, trivial⟩
    · exact fun vs w1 w2 hb ⟨H', t', h1, h2⟩ => ⟨H', t', h1, h2.below hb⟩
    · exact fun vs w1 w2 hb ⟨b, H', t', h1, h2, h3⟩ => ⟨b, H', t', h1, h2.under hb, h3.below hb⟩
  · simp only [All]
    refine ⟨?_, ?_, ?_, ?_, ?_, ?_, ?_, trivial⟩
    · intro o ho a' w' hb hfr hdep
      obtain rfl := Option.some.inj ho
      have g11 : a'.tmps[11]?.getD undef = .pointer (some ⟨gT, 0, none⟩) := by have h := hfr 11 (by kernel_rfl); simpa using h
      clear ho hfr hdep
      refine load_struct 32 29 _ 7 size_tables _ Try.underlying29 ⟨gT, 0, none⟩ (by show a'.tmps.getD 11 undef = _; simpa using g11) (tcells H) rfl (fun j u hj => by rw [Addr.add_lit, Nat.zero_add]; exact (HX6.under hb).at_ hj) ?_
      exact ⟨rfl, _, rfl, Below.refl _ _, rfl⟩
    · intro o ho a' w' hb hfr hdep
      obtain rfl := Option.some.inj ho
      have g11 : a'.tmps[11]?.getD undef = .pointer (some ⟨gT, 0, none⟩) := by have h := hfr 11 (by kernel_rfl); simpa using h
      clear ho hfr hdep
      refine load_struct 33 29 _ 7 size_tables _ Try.underlying29 ⟨gT, 0, none⟩ (by show a'.tmps.getD 11 undef = _; simpa using g11) (tcells H) rfl (fun j u hj => by rw [Addr.add_lit, Nat.zero_add]; exact (HX6.under hb).at_ hj) ?_
      exact ⟨rfl, _, rfl, Below.refl _ _, rfl⟩
    · intro o ho a' w' hb hfr hdep
      obtain rfl := Option.some.inj ho
      have g2 : a'.tmps[2]?.getD undef = .int .i64 at_ := by have h := hfr 2 (by kernel_rfl); simpa using h
      clear ho hfr hdep
      go_wp2_with fail
      exact ⟨rfl, _, rfl, Below.refl _ _, rfl⟩
    · intro o ho a' w' hb hfr hdep
      obtain rfl := Option.some.inj ho
      have g3 : a'.tmps[3]?.getD undef = .int .i64 how := by have h := hfr 3 (by kernel_rfl); simpa using h
      clear ho hfr hdep
      go_wp2_with fail
      exact ⟨rfl, _, rfl, Below.refl _ _, rfl⟩
    · intro o ho a' w' hb hfr hdep
      obtain rfl := Option.some.inj ho
      have g4 : a'.tmps[4]?.getD undef = .int .i64 by_ := by have h := hfr 4 (by kernel_rfl); simpa using h
      clear ho hfr hdep
      go_wp2_with fail
      exact ⟨rfl, _, rfl, Below.refl _ _, rfl⟩
    · intro o ho a' w' hb hfr hdep
      obtain rfl := Option.some.inj ho
      have g33 : a'.tmps[33]?.getD undef = H.v := by have h := hdep 1 _ rfl (by kernel_rfl); simpa using h
      have g34 : a'.tmps[34]?.getD undef = .int .i64 at_ := by have h := hdep 2 _ rfl (by kernel_rfl); simpa using h
      have g35 : a'.tmps[35]?.getD undef = .int .i64 how := by have h := hdep 3 _ rfl (by kernel_rfl); simpa using h
      have g36 : a'.tmps[36]?.getD undef = .int .i64 by_ := by have h := hdep 4 _ rfl (by kernel_rfl); simpa using h
      clear ho hfr hdep
      have hbt := hide (ref_Bent H t 900 (by decide) at_ how by_ HAT.out HHOW.out HBY.out w' (HT6.below hb) HZT.out)
      go_wp2_with (go_at_call 12; refine hbt.out.mono ?_; rintro e w2 ⟨H', t', rfl, hT', -, h2⟩)
      exact ⟨rfl, _, rfl, h2, H', t', rfl, hT'⟩
    · intro o ho a' w' hb hfr hdep
      obtain rfl := Option.some.inj ho
      have g32 : a'.tmps[32]?.getD undef = H.v := by have h := hdep 0 _ rfl (by kernel_rfl); simpa using h
      obtain ⟨H7, t7, g37, T37⟩ := hdep 5 _ rfl (by kernel_rfl)
      simp at g37
      clear ho hfr hdep
      have hn := Box.new w' 29 (tcells H ++ tcells H7).toArray
      have hT9 := T37.below (blo w' (.cells (tcells H ++ tcells H7).toArray 29))
      unfold TH.v at g32 g37
      unfold tcells at hn hT9
      go_wp2_with fail
      first | exact ⟨rfl, _, rfl, blo _ _, _, rfl, H7, hn, t7, hT9⟩ | exact ⟨rfl, _, rfl, blo _ _, _, H7, t7, rfl, hn, hT9⟩
  · intro gg w7 hbl hp'
    obtain ⟨gA, H7, t7, e38, hBX, hT7⟩ := hp' 6 _ rfl
    clear hp'
    simp at e38
    simp only [List.drop_succ_cons, List.drop_zero, List.map_cons, List.map_nil, putAll, Act.put, List.setIfInBounds_toArray, List.set_cons_succ, List.set_cons_zero, List.cons_append, List.nil_append, e38]
    clear e38
    have HL7 := hL6.under hbl
    have HT7 := HT6.below hbl
    have hB7 := hB6.trans (hbl.mono hB6.size)
    have HTX : Hid (∀ k, k < 4 → ∃ (xa : Option Addr) (xn xc : Nat) (X : List Sy), HDS[k]? = some (.slice xa xn xc) ∧ Sl w7 2 xa xn xc (X.flatMap sc)) := hide (fun k hk => by
      obtain ⟨xa, xn, xc, X, h1, h2⟩ := htx.out k hk
      exact ⟨xa, xn, xc, X, h1, h2.below hbl⟩)
    have HTB : Hid (∀ i, i < 2 → ∃ (Hi : TH) (ti : Ta), (∀ j u, (tcells Hi)[j]? = some u → w7.cell? ⟨gA, i * 7 + j, none⟩ = some u) ∧ TaIs w7 Hi ti) := hide (fun i hi => by
      match i, hi with
      | 0, _ => exact ⟨H, t, fun j u hj => by rw [Nat.zero_mul, Nat.zero_add]; exact hBX.at_ (by rw [List.getElem?_append_left (by have := (List.getElem?_eq_some_iff.1 hj).1; exact this)]; exact hj), HT7⟩
      | 1, _ => exact ⟨H7, t7, fun j u hj => by rw [Nat.one_mul]; exact hBX.at_ (by rw [List.getElem?_append_right (by show 7 ≤ 7 + j; omega), show 7 + j - (tcells H).length = j from by show 7 + j - 7 = j; omega]; exact hj), hT7⟩
      | i + 2, h => omega)
    clear hL6 HT6 HX6 hB6 htx hbl hBX HT7 hT7
    go_wp2_with fail
    go_loopg [15] 2 (fun gh v w' => ∃ i : Nat, i ≤ 2 ∧ gh = 2 - i ∧ v = .int .i64 (i : Int) ∧ Below w7.heap.size w7 w')
    case atStart => exact ⟨0, Nat.zero_le _, rfl, rfl, Below.refl _ _⟩
    case round =>
      obtain ⟨i, hi, rfl, rfl, hb⟩ := hrel
      by_cases hi2 : i < 2
      · have d0 : decide ((i : Int) < 2) = true := decide_eq_true (by omega)
        obtain ⟨Hi, ti, hcl0, hTi0⟩ := HTB.out i hi2
        have HCI := hide hcl0
        have HTI := hide hTi0
        clear hcl0 hTi0
        go_wp2_with fail
        go_loopg [16] 4 (fun gh v w' => ∃ k : Nat, k ≤ 4 ∧ gh = 4 - k ∧ v = .int .i64 (k : Int) ∧ Below w7.heap.size w7 w')
        case atStart => exact ⟨0, Nat.zero_le _, rfl, rfl, hb⟩
        case round =>
          clear hb
          obtain ⟨k, hk, rfl, rfl, hb⟩ := hrel
          by_cases hk4 : k < 4
          · have d1 : decide ((k : Int) < 4) = true := decide_eq_true (by omega)
            obtain ⟨xa, xn, xc, X, hxk, hXS0⟩ := HTX.out k hk4
            have HXK := hide hxk
            have hXS := hXS0.below hb
            have hTI := HTI.out.below hb
            have hci : ∀ j u, (tcells Hi)[j]? = some u → wr.cell? ⟨gA, i * 7 + j, none⟩ = some u := fun j u hj => cell_below (HCI.out j u hj) hb
            have cX : wr.cell? ⟨gX, k, none⟩ = some (.slice xa xn xc) := cell_below (HL7.at_ hxk) hb
            clear hxk hXS0
            obtain ⟨TX, hTX⟩ : ∃ X', Hid (trE ti X = X') := ⟨_, hide rfl⟩
            obtain ⟨TC, hTC⟩ : ∃ X', Hid (trC ti X = X') := ⟨_, hide rfl⟩
            obtain ⟨TK, hTK⟩ : ∃ X', Hid (trK ti X = X') := ⟨_, hide rfl⟩
            obtain ⟨TA, hTA⟩ : ∃ X', Hid (trA ti X = X') := ⟨_, hide rfl⟩
            go_wp2_with fail
            refine wp_region_chain4 14 (KeepsX 39) (GTr 39 wr (TC) (TK) (TA)) [⟨12, 17, [], fun _ _ => True⟩, ⟨13, 84, [0], fun _ _ => True⟩] [⟨0, 50, [50], fun vs _ => vs = [.slice (some ⟨gA, 0, none⟩) 2 2]⟩, ⟨1, 51, [51], fun vs _ => vs = [.int .i64 (i : Int)]⟩, ⟨2, 52, [52], fun vs _ => vs = [.pointer (some ⟨gA, i * 7, none⟩)]⟩, ⟨3, 53, [53], fun vs _ => vs = [Hi.v]⟩, ⟨4, 54, [54], fun vs _ => vs = [.slice (some ⟨gX, 0, none⟩) 4 4]⟩, ⟨5, 55, [55], fun vs _ => vs = [.int .i64 (k : Int)]⟩, ⟨6, 56, [56], fun vs _ => vs = [.pointer (some ⟨gX, k, none⟩)]⟩, ⟨7, 57, [57], fun vs _ => vs = [.slice xa xn xc]⟩, ⟨8, 58, [58], TuF 39 TX (TC) (TK) (TA)⟩, ⟨9, 49, [49], TuF 39 TX (TC) (TK) (TA)⟩, ⟨10, 59, [59], VaF 39 (TC) (TK) (TA)⟩, ⟨11, 60, [60], fun vs _ => vs = [.int .i64 TX]⟩] (by kernel_rfl) (by kernel_rfl) ?_ (fun _ _ h => KeepsX.of h) GTr.mono ?_ ?_ ?_ ?_
            · exact (Still.below 1 : Below wr.heap.size wr (wr.drewN 1))
            · simp only [All]
              refine ⟨(fun _ _ _ _ h => h), (fun _ _ _ _ h => h), (fun _ _ _ _ h => h), (fun _ _ _ _ h => h), (fun _ _ _ _ h => h), (fun _ _ _ _ h => h), (fun _ _ _ _ h => h), (fun _ _ _ _ h => h), (fun _ _ _ hk h => h.keep hk), (fun _ _ _ hk h => h.keep hk), (fun _ _ _ hk h => h.keep hk), (fun _ _ _ _ h => h), trivial⟩
            · intro m c hc o ho a w' hG hfr hdep
              rcases m with _ | _ | m
              · cases hc
                obtain rfl := Option.some.inj ho
                have hB : Below wr.heap.size wr w' := hG
                clear hfr hdep hG
                go_wp2_with fail
                exact ⟨rfl, _, rfl, KeepsX.of (blo _ _), w'.heap.size, rfl, hB.size, [.slice none 0 0, .slice none 0 0, .slice none 0 0], rfl, Box.new _ _ _, hB.alloc hB.size _⟩
              · cases hc
                obtain rfl := Option.some.inj ho
                obtain ⟨b9, e9, hlo9, cs9, hl9, hbx9, hB⟩ := hG
                obtain ⟨v9, g9, c9⟩ := hdep 10 _ rfl (by kernel_rfl)
                replace e9 : a.tmps.getD 17 undef = .pointer (some ⟨b9, 0, none⟩) := e9
                replace g9 : a.tmps.getD 59 undef = v9 := by simpa using g9
                obtain ⟨a1, n1, c1, a2, n2, c2, a3, n3, c3, hs9, hv9, -⟩ := c9.ce
                subst hv9
                clear ho hfr hdep
                refine store_all 39 _ _ 39 b9 cs9 [.slice a1 n1 c1, .slice a2 n2 c2, .slice a3 n3 c3] _ size_cert hbx9 e9 g9 rfl (by rw [hl9]; rfl) (by simp [Value.oneCell']) ?_
                intro w10 hx10 hg10 hs10
                have hK := KeepsX.put hbx9 hg10
                have hb10 := hB.grown hg10 hB.size (fun k hk => by cases hk; exact hlo9)
                have E9 := hide e9
                clear e9 g9 hl9 hs10
                go_wp2_with fail
                exact ⟨rfl, undef, rfl, hK, b9, by first | rfl | exact E9.out | simpa using E9.out, hlo9, _, _, _, hx10, c9.keep hK, hb10⟩
              · cases hc
            · simp only [All]
              refine ⟨?_, ?_, ?_, ?_, ?_, ?_, ?_, ?_, ?_, ?_, ?_, ?_, trivial⟩
              · intro o ho a' w' hfr hdep hst
                obtain rfl := Option.some.inj ho
                have hb : Below wr.heap.size wr w' := by obtain ⟨j, _, _, hG⟩ := hst; exact hG.bel
                have g14 : a'.tmps[14]?.getD undef = .slice (some ⟨gA, 0, none⟩) 2 2 := by have h := hfr 14 (by kernel_rfl); simpa using h
                clear ho hfr hdep hst
                go_wp2_with fail
                exact ⟨rfl, _, rfl, Below.refl _ _, rfl⟩
              · intro o ho a' w' hfr hdep hst
                obtain rfl := Option.some.inj ho
                have hb : Below wr.heap.size wr w' := by obtain ⟨j, _, _, hG⟩ := hst; exact hG.bel
                have g15 : a'.tmps[15]?.getD undef = .int .i64 (i : Int) := by have h := hfr 15 (by kernel_rfl); simpa using h
                clear ho hfr hdep hst
                go_wp2_with fail
                exact ⟨rfl, _, rfl, Below.refl _ _, rfl⟩
              · intro o ho a' w' hfr hdep hst
                obtain rfl := Option.some.inj ho
                have hb : Below wr.heap.size wr w' := by obtain ⟨j, _, _, hG⟩ := hst; exact hG.bel
                have g50 : a'.tmps[50]?.getD undef = .slice (some ⟨gA, 0, none⟩) 2 2 := by have h := hdep 0 _ rfl (by kernel_rfl); simpa using h
                have g51 : a'.tmps[51]?.getD undef = .int .i64 (i : Int) := by have h := hdep 1 _ rfl (by kernel_rfl); simpa using h
                clear ho hfr hdep hst
                refine index_rowk 52 36 _ _ 29 Try.underlying36 7 size_tables gA 0 2 2 (by show a'.tmps.getD 50 undef = _; simpa using g50) _ _ i (by show a'.tmps.getD 51 undef = _; simpa using g51) rfl hi2 ?_
                rw [Nat.zero_add]
                exact ⟨rfl, _, rfl, Below.refl _ _, rfl⟩
              · intro o ho a' w' hfr hdep hst
                obtain rfl := Option.some.inj ho
                have hb : Below wr.heap.size wr w' := by obtain ⟨j, _, _, hG⟩ := hst; exact hG.bel
                have g52 : a'.tmps[52]?.getD undef = .pointer (some ⟨gA, i * 7, none⟩) := by have h := hdep 2 _ rfl (by kernel_rfl); simpa using h
                clear ho hfr hdep hst
                refine load_struct 53 29 _ 7 size_tables _ Try.underlying29 ⟨gA, i * 7, none⟩ (by show a'.tmps.getD 52 undef = _; simpa using g52) (tcells Hi) rfl (fun j u hj => by rw [Addr.add_lit]; exact cell_below (hci j u hj) hb) ?_
                exact ⟨rfl, _, rfl, Below.refl _ _, rfl⟩
              · intro o ho a' w' hfr hdep hst
                obtain rfl := Option.some.inj ho
                have hb : Below wr.heap.size wr w' := by obtain ⟨j, _, _, hG⟩ := hst; exact hG.bel
                have g13 : a'.tmps[13]?.getD undef = .slice (some ⟨gX, 0, none⟩) 4 4 := by have h := hfr 13 (by kernel_rfl); simpa using h
                clear ho hfr hdep hst
                go_wp2_with fail
                exact ⟨rfl, _, rfl, Below.refl _ _, rfl⟩
              · intro o ho a' w' hfr hdep hst
                obtain rfl := Option.some.inj ho
                have hb : Below wr.heap.size wr w' := by obtain ⟨j, _, _, hG⟩ := hst; exact hG.bel
                have g16 : a'.tmps[16]?.getD undef = .int .i64 (k : Int) := by have h := hfr 16 (by kernel_rfl); simpa using h
                clear ho hfr hdep hst
                go_wp2_with fail
                exact ⟨rfl, _, rfl, Below.refl _ _, rfl⟩
              · intro o ho a' w' hfr hdep hst
                obtain rfl := Option.some.inj ho
                have hb : Below wr.heap.size wr w' := by obtain ⟨j, _, _, hG⟩ := hst; exact hG.bel
                have g54 : a'.tmps[54]?.getD undef = .slice (some ⟨gX, 0, none⟩) 4 4 := by have h := hdep 4 _ rfl (by kernel_rfl); simpa using h
                have g55 : a'.tmps[55]?.getD undef = .int .i64 (k : Int) := by have h := hdep 5 _ rfl (by kernel_rfl); simpa using h
                clear ho hfr hdep hst
                refine index_known 56 34 _ _ 31 Try.underlying34 size_sys gX 4 4 (by show a'.tmps.getD 54 undef = _; simpa using g54) _ _ k (by show a'.tmps.getD 55 undef = _; simpa using g55) rfl hk4 ?_
                exact ⟨rfl, _, rfl, Below.refl _ _, rfl⟩
              · intro o ho a' w' hfr hdep hst
                obtain rfl := Option.some.inj ho
                have hb : Below wr.heap.size wr w' := by obtain ⟨j, _, _, hG⟩ := hst; exact hG.bel
                have g56 : a'.tmps[56]?.getD undef = .pointer (some ⟨gX, k, none⟩) := by have h := hdep 6 _ rfl (by kernel_rfl); simpa using h
                clear ho hfr hdep hst
                have hcl := cell_below cX hb
                go_wp2_with fail
                exact ⟨rfl, _, rfl, Below.refl _ _, rfl⟩
              · intro o ho a' w' hfr hdep hst
                obtain rfl := Option.some.inj ho
                have hb : Below wr.heap.size wr w' := by obtain ⟨j, _, _, hG⟩ := hst; exact hG.bel
                have g53 : a'.tmps[53]?.getD undef = Hi.v := by have h := hdep 3 _ rfl (by kernel_rfl); simpa using h
                have g57 : a'.tmps[57]?.getD undef = .slice xa xn xc := by have h := hdep 7 _ rfl (by kernel_rfl); simpa using h
                clear ho hfr hdep hst
                have htr := hide (tr_at Hi ti X xa xn xc w' (hTI.below hb) (hXS.below hb) hTX.out hTC.out hTK.out hTA.out)
                go_wp2_with (go_at_call 13; refine htr.out.mono ?_; rintro e w3 ⟨⟨v, rfl, hce⟩, h3⟩)
                exact ⟨rfl, _, rfl, h3, _, rfl, hce⟩
              · intro o ho a' w' hfr hdep hst
                obtain rfl := Option.some.inj ho
                obtain ⟨v58, g58, c58⟩ := hdep 8 _ rfl (by kernel_rfl)
                simp at g58
                clear ho hfr hdep hst
                go_wp2_with fail
                exact ⟨rfl, _, rfl, Below.refl _ _, _, rfl, c58⟩
              · intro o ho a' w' hfr hdep hst
                obtain rfl := Option.some.inj ho
                obtain ⟨v49, g49, c49⟩ := hdep 9 _ rfl (by kernel_rfl)
                simp at g49
                clear ho hfr hdep hst
                go_wp2_with fail
                exact ⟨rfl, _, rfl, Below.refl _ _, _, rfl, c49⟩
              · intro o ho a' w' hfr hdep hst
                obtain rfl := Option.some.inj ho
                obtain ⟨v49, g49, c49⟩ := hdep 9 _ rfl (by kernel_rfl)
                simp at g49
                clear ho hfr hdep hst
                go_wp2_with fail
                exact ⟨rfl, _, rfl, Below.refl _ _, rfl⟩
            · intro g w9 hG hp
              obtain ⟨b9, e9, hlo9, s1, s2, s3, hx9, hc9, hb9⟩ := hG
              have p9 := hp 11 _ rfl
              replace e9 : g 17 = .pointer (some ⟨b9, 0, none⟩) := e9
              clear hp
              replace p9 : g 60 = .int .i64 TX := by simpa using p9
              simp only [List.drop_succ_cons, List.drop_zero, List.map_cons, List.map_nil, putAll, Act.put, List.setIfInBounds_toArray, List.set_cons_succ, List.set_cons_zero, List.set_nil, List.cons_append, List.nil_append, e9, p9]
              clear e9 p9
              have hTI8 := hTI.below hb9
              have hXS8 := hXS.below hb9
              have hci8 : ∀ j u, (tcells Hi)[j]? = some u → w9.cell? ⟨gA, i * 7 + j, none⟩ = some u := fun j u hj => cell_below (hci j u hj) hb9
              have cX8 := cell_below cX hb9
              have hb8 := hb.trans (hb9.mono hb.size)
              have hce8 := hc9.ce
              have hxA := hx9
              clear hTI hXS hci cX hb9 hb hc9 hx9 hlo9
              obtain ⟨bA, rfl⟩ : ∃ z : Nat, z = b9 := ⟨_, rfl⟩
              obtain ⟨w8, rfl⟩ : ∃ z : World, z = w9 := ⟨_, rfl⟩
              obtain ⟨u1, u2, u3, hu⟩ : ∃ u1 u2 u3, Hid (u1 = s1 ∧ u2 = s2 ∧ u3 = s3) := ⟨_, _, _, hide ⟨rfl, rfl, rfl⟩⟩
              obtain ⟨rfl, rfl, rfl⟩ := hu.out
              clear hu
              go_wp2_with fail
              refine wp_region_chain4 14 (KeepsX 43) (GTr 43 w8 (TC) (TK) (TA)) [⟨12, 19, [], fun _ _ => True⟩, ⟨13, 84, [0], fun _ _ => True⟩] [⟨0, 62, [62], fun vs _ => vs = [.slice (some ⟨gA, 0, none⟩) 2 2]⟩, ⟨1, 63, [63], fun vs _ => vs = [.int .i64 (i : Int)]⟩, ⟨2, 64, [64], fun vs _ => vs = [.pointer (some ⟨gA, i * 7, none⟩)]⟩, ⟨3, 65, [65], fun vs _ => vs = [Hi.v]⟩, ⟨4, 66, [66], fun vs _ => vs = [.slice (some ⟨gX, 0, none⟩) 4 4]⟩, ⟨5, 67, [67], fun vs _ => vs = [.int .i64 (k : Int)]⟩, ⟨6, 68, [68], fun vs _ => vs = [.pointer (some ⟨gX, k, none⟩)]⟩, ⟨7, 69, [69], fun vs _ => vs = [.slice xa xn xc]⟩, ⟨8, 70, [70], TuF 43 TX (TC) (TK) (TA)⟩, ⟨9, 61, [61], TuF 43 TX (TC) (TK) (TA)⟩, ⟨10, 71, [71], VaF 43 (TC) (TK) (TA)⟩, ⟨11, 72, [72], fun vs _ => vs = [.int .i64 TX]⟩] (by kernel_rfl) (by kernel_rfl) ?_ (fun _ _ h => KeepsX.of h) GTr.mono ?_ ?_ ?_ ?_
              · exact (Still.below 1 : Below w8.heap.size w8 (w8.drewN 1))
              · simp only [All]
                refine ⟨(fun _ _ _ _ h => h), (fun _ _ _ _ h => h), (fun _ _ _ _ h => h), (fun _ _ _ _ h => h), (fun _ _ _ _ h => h), (fun _ _ _ _ h => h), (fun _ _ _ _ h => h), (fun _ _ _ _ h => h), (fun _ _ _ hk h => h.keep hk), (fun _ _ _ hk h => h.keep hk), (fun _ _ _ hk h => h.keep hk), (fun _ _ _ _ h => h), trivial⟩
              · intro m c hc o ho a w' hG hfr hdep
                rcases m with _ | _ | m
                · cases hc
                  obtain rfl := Option.some.inj ho
                  have hB : Below w8.heap.size w8 w' := hG
                  clear hfr hdep hG
                  go_wp2_with fail
                  exact ⟨rfl, _, rfl, KeepsX.of (blo _ _), w'.heap.size, rfl, hB.size, [.slice none 0 0, .slice none 0 0, .slice none 0 0], rfl, Box.new _ _ _, hB.alloc hB.size _⟩
                · cases hc
                  obtain rfl := Option.some.inj ho
                  obtain ⟨b9, e9, hlo9, cs9, hl9, hbx9, hB⟩ := hG
                  obtain ⟨v9, g9, c9⟩ := hdep 10 _ rfl (by kernel_rfl)
                  replace e9 : a.tmps.getD 19 undef = .pointer (some ⟨b9, 0, none⟩) := e9
                  replace g9 : a.tmps.getD 71 undef = v9 := by simpa using g9
                  obtain ⟨a1, n1, c1, a2, n2, c2, a3, n3, c3, hs9, hv9, -⟩ := c9.ce
                  subst hv9
                  clear ho hfr hdep
                  refine store_all 43 _ _ 43 b9 cs9 [.slice a1 n1 c1, .slice a2 n2 c2, .slice a3 n3 c3] _ size_rcert hbx9 e9 g9 rfl (by rw [hl9]; rfl) (by simp [Value.oneCell']) ?_
                  intro w10 hx10 hg10 hs10
                  have hK := KeepsX.put hbx9 hg10
                  have hb10 := hB.grown hg10 hB.size (fun k hk => by cases hk; exact hlo9)
                  have E9 := hide e9
                  clear e9 g9 hl9 hs10
                  go_wp2_with fail
                  exact ⟨rfl, undef, rfl, hK, b9, by first | rfl | exact E9.out | simpa using E9.out, hlo9, _, _, _, hx10, c9.keep hK, hb10⟩
                · cases hc
              · simp only [All]
                refine ⟨?_, ?_, ?_, ?_, ?_, ?_, ?_, ?_, ?_, ?_, ?_, ?_, trivial⟩
                · intro o ho a' w' hfr hdep hst
                  obtain rfl := Option.some.inj ho
                  have hb : Below w8.heap.size w8 w' := by obtain ⟨j, _, _, hG⟩ := hst; exact hG.bel
                  have g14 : a'.tmps[14]?.getD undef = .slice (some ⟨gA, 0, none⟩) 2 2 := by have h := hfr 14 (by kernel_rfl); simpa using h
                  clear ho hfr hdep hst
                  go_wp2_with fail
                  exact ⟨rfl, _, rfl, Below.refl _ _, rfl⟩
                · intro o ho a' w' hfr hdep hst
                  obtain rfl := Option.some.inj ho
                  have hb : Below w8.heap.size w8 w' := by obtain ⟨j, _, _, hG⟩ := hst; exact hG.bel
                  have g15 : a'.tmps[15]?.getD undef = .int .i64 (i : Int) := by have h := hfr 15 (by kernel_rfl); simpa using h
                  clear ho hfr hdep hst
                  go_wp2_with fail
                  exact ⟨rfl, _, rfl, Below.refl _ _, rfl⟩
                · intro o ho a' w' hfr hdep hst
                  obtain rfl := Option.some.inj ho
                  have hb : Below w8.heap.size w8 w' := by obtain ⟨j, _, _, hG⟩ := hst; exact hG.bel
                  have g62 : a'.tmps[62]?.getD undef = .slice (some ⟨gA, 0, none⟩) 2 2 := by have h := hdep 0 _ rfl (by kernel_rfl); simpa using h
                  have g63 : a'.tmps[63]?.getD undef = .int .i64 (i : Int) := by have h := hdep 1 _ rfl (by kernel_rfl); simpa using h
                  clear ho hfr hdep hst
                  refine index_rowk 64 36 _ _ 29 Try.underlying36 7 size_tables gA 0 2 2 (by show a'.tmps.getD 62 undef = _; simpa using g62) _ _ i (by show a'.tmps.getD 63 undef = _; simpa using g63) rfl hi2 ?_
                  rw [Nat.zero_add]
                  exact ⟨rfl, _, rfl, Below.refl _ _, rfl⟩
                · intro o ho a' w' hfr hdep hst
                  obtain rfl := Option.some.inj ho
                  have hb : Below w8.heap.size w8 w' := by obtain ⟨j, _, _, hG⟩ := hst; exact hG.bel
                  have g64 : a'.tmps[64]?.getD undef = .pointer (some ⟨gA, i * 7, none⟩) := by have h := hdep 2 _ rfl (by kernel_rfl); simpa using h
                  clear ho hfr hdep hst
                  refine load_struct 65 29 _ 7 size_tables _ Try.underlying29 ⟨gA, i * 7, none⟩ (by show a'.tmps.getD 64 undef = _; simpa using g64) (tcells Hi) rfl (fun j u hj => by rw [Addr.add_lit]; exact cell_below (hci8 j u hj) hb) ?_
                  exact ⟨rfl, _, rfl, Below.refl _ _, rfl⟩
                · intro o ho a' w' hfr hdep hst
                  obtain rfl := Option.some.inj ho
                  have hb : Below w8.heap.size w8 w' := by obtain ⟨j, _, _, hG⟩ := hst; exact hG.bel
                  have g13 : a'.tmps[13]?.getD undef = .slice (some ⟨gX, 0, none⟩) 4 4 := by have h := hfr 13 (by kernel_rfl); simpa using h
                  clear ho hfr hdep hst
                  go_wp2_with fail
                  exact ⟨rfl, _, rfl, Below.refl _ _, rfl⟩
                · intro o ho a' w' hfr hdep hst
                  obtain rfl := Option.some.inj ho
                  have hb : Below w8.heap.size w8 w' := by obtain ⟨j, _, _, hG⟩ := hst; exact hG.bel
                  have g16 : a'.tmps[16]?.getD undef = .int .i64 (k : Int) := by have h := hfr 16 (by kernel_rfl); simpa using h
                  clear ho hfr hdep hst
                  go_wp2_with fail
                  exact ⟨rfl, _, rfl, Below.refl _ _, rfl⟩
                · intro o ho a' w' hfr hdep hst
                  obtain rfl := Option.some.inj ho
                  have hb : Below w8.heap.size w8 w' := by obtain ⟨j, _, _, hG⟩ := hst; exact hG.bel
                  have g66 : a'.tmps[66]?.getD undef = .slice (some ⟨gX, 0, none⟩) 4 4 := by have h := hdep 4 _ rfl (by kernel_rfl); simpa using h
                  have g67 : a'.tmps[67]?.getD undef = .int .i64 (k : Int) := by have h := hdep 5 _ rfl (by kernel_rfl); simpa using h
                  clear ho hfr hdep hst
                  refine index_known 68 34 _ _ 31 Try.underlying34 size_sys gX 4 4 (by show a'.tmps.getD 66 undef = _; simpa using g66) _ _ k (by show a'.tmps.getD 67 undef = _; simpa using g67) rfl hk4 ?_
                  exact ⟨rfl, _, rfl, Below.refl _ _, rfl⟩
                · intro o ho a' w' hfr hdep hst
                  obtain rfl := Option.some.inj ho
                  have hb : Below w8.heap.size w8 w' := by obtain ⟨j, _, _, hG⟩ := hst; exact hG.bel
                  have g68 : a'.tmps[68]?.getD undef = .pointer (some ⟨gX, k, none⟩) := by have h := hdep 6 _ rfl (by kernel_rfl); simpa using h
                  clear ho hfr hdep hst
                  have hcl := cell_below cX8 hb
                  go_wp2_with fail
                  exact ⟨rfl, _, rfl, Below.refl _ _, rfl⟩
                · intro o ho a' w' hfr hdep hst
                  obtain rfl := Option.some.inj ho
                  have hb : Below w8.heap.size w8 w' := by obtain ⟨j, _, _, hG⟩ := hst; exact hG.bel
                  have g65 : a'.tmps[65]?.getD undef = Hi.v := by have h := hdep 3 _ rfl (by kernel_rfl); simpa using h
                  have g69 : a'.tmps[69]?.getD undef = .slice xa xn xc := by have h := hdep 7 _ rfl (by kernel_rfl); simpa using h
                  clear ho hfr hdep hst
                  have htr := hide (rtr_at Hi ti X xa xn xc w' (hTI8.below hb) (hXS8.below hb) hTX.out hTC.out hTK.out hTA.out)
                  go_wp2_with (go_at_call 14; refine htr.out.mono ?_; rintro e w3 ⟨⟨v, rfl, hce⟩, h3⟩)
                  exact ⟨rfl, _, rfl, h3, _, rfl, hce⟩
                · intro o ho a' w' hfr hdep hst
                  obtain rfl := Option.some.inj ho
                  obtain ⟨v70, g70, c70⟩ := hdep 8 _ rfl (by kernel_rfl)
                  simp at g70
                  clear ho hfr hdep hst
                  go_wp2_with fail
                  exact ⟨rfl, _, rfl, Below.refl _ _, _, rfl, c70⟩
                · intro o ho a' w' hfr hdep hst
                  obtain rfl := Option.some.inj ho
                  obtain ⟨v61, g61, c61⟩ := hdep 9 _ rfl (by kernel_rfl)
                  simp at g61
                  clear ho hfr hdep hst
                  go_wp2_with fail
                  exact ⟨rfl, _, rfl, Below.refl _ _, _, rfl, c61⟩
                · intro o ho a' w' hfr hdep hst
                  obtain rfl := Option.some.inj ho
                  obtain ⟨v61, g61, c61⟩ := hdep 9 _ rfl (by kernel_rfl)
                  simp at g61
                  clear ho hfr hdep hst
                  go_wp2_with fail
                  exact ⟨rfl, _, rfl, Below.refl _ _, rfl⟩
              · intro g w9 hG hp
                obtain ⟨b9, e9, hlo9, s1, s2, s3, hx9, hc9, hb9⟩ := hG
                have p9 := hp 11 _ rfl
                replace e9 : g 19 = .pointer (some ⟨b9, 0, none⟩) := e9
                clear hp
                replace p9 : g 72 = .int .i64 TX := by simpa using p9
                simp only [List.drop_succ_cons, List.drop_zero, List.map_cons, List.map_nil, putAll, Act.put, List.setIfInBounds_toArray, List.set_cons_succ, List.set_cons_zero, List.set_nil, List.cons_append, List.nil_append, e9, p9]
                clear e9 p9
                have hb10 := hb8.trans (hb9.mono hb8.size)
                have hce1 := hce8.below hb9
                have hce2 := hc9.ce
                have hxA9 := hxA.under hb9
                clear hTI8 hXS8 hci8 cX8 hb8 hb9 hce8 hc9 hxA hlo9
                obtain ⟨p1, p2, p3, q1, q2, q3, r1, r2, r3, hs5, e1, hE1, hK1, hL1⟩ := hce1
                have hce1 : Ce w9 (.agg #[u1, u2, u3]) TC TK TA := ⟨p1, p2, p3, q1, q2, q3, r1, r2, r3, hs5, e1, hE1, hK1, hL1⟩
                simp at e1
                obtain ⟨rfl, rfl, rfl⟩ := e1
                clear hE1 hK1 hL1
                have dX : (TX != TX) = false := by simp
                go_wp2_with fail
                refine wp_region_free 9 [⟨0, 73, [73], fun vs _ => vs = [.int .i64 TX]⟩, ⟨1, 74, [74], fun vs _ => vs = [.int .i64 TX]⟩, ⟨2, 75, [75], fun vs _ => vs = [.bool false]⟩, ⟨3, 76, [76], fun vs _ => vs = [.bool false]⟩, ⟨4, 77, [77], fun vs _ => vs = [.agg #[.slice p1 p2 p3, .slice q1 q2 q3, .slice r1 r2 r3]]⟩, ⟨5, 78, [78], fun vs _ => vs = [.agg #[.slice p1 p2 p3, .slice q1 q2 q3, .slice r1 r2 r3]]⟩, ⟨6, 79, [79], fun vs _ => vs = [.agg #[s1, s2, s3]]⟩, ⟨7, 80, [80], fun vs _ => vs = [.bool true]⟩, ⟨8, 81, [81], fun vs _ => vs = [.bool false]⟩] (by kernel_rfl) (by kernel_rfl) ?_ ?_ ?_
                · simp only [All]
                  refine ⟨fun _ _ _ _ h => h, fun _ _ _ _ h => h, fun _ _ _ _ h => h, fun _ _ _ _ h => h, fun _ _ _ _ h => h, fun _ _ _ _ h => h, fun _ _ _ _ h => h, fun _ _ _ _ h => h, fun _ _ _ _ h => h, trivial⟩
                · simp only [All]
                  refine ⟨?_, ?_, ?_, ?_, ?_, ?_, ?_, ?_, ?_, trivial⟩
                  · intro o ho a' w' hb hfr hdep
                    obtain rfl := Option.some.inj ho
                    have g18 : a'.tmps[18]?.getD undef = .int .i64 TX := by have h := hfr 18 (by kernel_rfl); simpa using h
                    clear ho hfr hdep
                    go_wp2_with fail
                    exact ⟨rfl, _, rfl, Below.refl _ _, rfl⟩
                  · intro o ho a' w' hb hfr hdep
                    obtain rfl := Option.some.inj ho
                    have g20 : a'.tmps[20]?.getD undef = .int .i64 TX := by have h := hfr 20 (by kernel_rfl); simpa using h
                    clear ho hfr hdep
                    go_wp2_with fail
                    exact ⟨rfl, _, rfl, Below.refl _ _, rfl⟩
                  · intro o ho a' w' hb hfr hdep
                    obtain rfl := Option.some.inj ho
                    have g73 : a'.tmps[73]?.getD undef = .int .i64 TX := by have h := hdep 0 _ rfl (by kernel_rfl); simpa using h
                    have g74 : a'.tmps[74]?.getD undef = .int .i64 TX := by have h := hdep 1 _ rfl (by kernel_rfl); simpa using h
                    clear ho hfr hdep
                    go_wp2_with fail
                    exact ⟨rfl, _, rfl, Below.refl _ _, rfl⟩
                  · intro o ho a' w' hb hfr hdep
                    obtain rfl := Option.some.inj ho
                    have g75 : a'.tmps[75]?.getD undef = .bool false := by have h := hdep 2 _ rfl (by kernel_rfl); simpa using h
                    clear ho hfr hdep
                    go_wp2_with fail
                    exact ⟨rfl, _, rfl, Below.refl _ _, rfl⟩
                  · intro o ho a' w' hb hfr hdep
                    obtain rfl := Option.some.inj ho
                    have g17 : a'.tmps[17]?.getD undef = .pointer (some ⟨bA, 0, none⟩) := by have h := hfr 17 (by kernel_rfl); simpa using h
                    have g76 : a'.tmps[76]?.getD undef = .bool false := by have h := hdep 3 _ rfl (by kernel_rfl); simpa using h
                    have q76 := opt_bool g76
                    clear ho hfr hdep
                    refine unguard_any (by simp [Region.wanted, yielded, q76]) ?_
                    refine load_struct 77 39 _ 3 size_cert _ Try.underlying39 ⟨bA, 0, none⟩ (by show a'.tmps.getD 17 undef = _; simpa using g17) [.slice p1 p2 p3, .slice q1 q2 q3, .slice r1 r2 r3] rfl (fun j u hj => by rw [Addr.add_lit, Nat.zero_add]; exact (hxA9.under hb).at_ hj) ?_
                    exact ⟨rfl, _, rfl, Below.refl _ _, rfl⟩
                  · intro o ho a' w' hb hfr hdep
                    obtain rfl := Option.some.inj ho
                    have g77 : a'.tmps[77]?.getD undef = .agg #[.slice p1 p2 p3, .slice q1 q2 q3, .slice r1 r2 r3] := by have h := hdep 4 _ rfl (by kernel_rfl); simpa using h
                    have g76 : a'.tmps[76]?.getD undef = .bool false := by have h := hdep 3 _ rfl (by kernel_rfl); simpa using h
                    have q76 := opt_bool g76
                    clear ho hfr hdep
                    refine unguard_any (by simp [Region.wanted, yielded, q76]) ?_
                    have hpl := hide (law8_plain p1 q1 r1 p2 p3 q2 q3 r2 r3 w')
                    go_wp2_with (go_at_call 16; refine hpl.out.mono ?_; rintro e w2 ⟨rfl, h2⟩)
                    exact ⟨rfl, _, rfl, h2, rfl⟩
                  · intro o ho a' w' hb hfr hdep
                    obtain rfl := Option.some.inj ho
                    have g19 : a'.tmps[19]?.getD undef = .pointer (some ⟨b9, 0, none⟩) := by have h := hfr 19 (by kernel_rfl); simpa using h
                    have g76 : a'.tmps[76]?.getD undef = .bool false := by have h := hdep 3 _ rfl (by kernel_rfl); simpa using h
                    have q76 := opt_bool g76
                    clear ho hfr hdep
                    refine unguard_any (by simp [Region.wanted, yielded, q76]) ?_
                    refine load_struct 79 43 _ 3 size_rcert _ Try.underlying43 ⟨b9, 0, none⟩ (by show a'.tmps.getD 19 undef = _; simpa using g19) [s1, s2, s3] rfl (fun j u hj => by rw [Addr.add_lit, Nat.zero_add]; exact (hx9.under hb).at_ hj) ?_
                    exact ⟨rfl, _, rfl, Below.refl _ _, rfl⟩
                  · intro o ho a' w' hb hfr hdep
                    obtain rfl := Option.some.inj ho
                    have g78 : a'.tmps[78]?.getD undef = .agg #[.slice p1 p2 p3, .slice q1 q2 q3, .slice r1 r2 r3] := by have h := hdep 5 _ rfl (by kernel_rfl); simpa using h
                    have g79 : a'.tmps[79]?.getD undef = .agg #[s1, s2, s3] := by have h := hdep 6 _ rfl (by kernel_rfl); simpa using h
                    have g76 : a'.tmps[76]?.getD undef = .bool false := by have h := hdep 3 _ rfl (by kernel_rfl); simpa using h
                    have q76 := opt_bool g76
                    clear ho hfr hdep
                    refine unguard_any (by simp [Region.wanted, yielded, q76]) ?_
                    have hsm := hide (law8_same TC TK TA _ _ w' (hce1.below hb) (hce2.below hb))
                    go_wp2_with (go_at_call 15; refine hsm.out.mono ?_; rintro e w2 ⟨rfl, h2⟩)
                    exact ⟨rfl, _, rfl, h2, rfl⟩
                  · intro o ho a' w' hb hfr hdep
                    obtain rfl := Option.some.inj ho
                    have g80 : a'.tmps[80]?.getD undef = .bool true := by have h := hdep 7 _ rfl (by kernel_rfl); simpa using h
                    have g76 : a'.tmps[76]?.getD undef = .bool false := by have h := hdep 3 _ rfl (by kernel_rfl); simpa using h
                    have q76 := opt_bool g76
                    clear ho hfr hdep
                    refine unguard_any (by simp [Region.wanted, yielded, q76]) ?_
                    go_wp2_with fail
                    exact ⟨rfl, _, rfl, Below.refl _ _, rfl⟩
                · intro gg w11 hbl hp'
                  have p76 := hp' 3 _ rfl
                  have p81 := hp' 8 _ rfl
                  clear hp'
                  simp at p76 p81
                  simp only [List.drop_succ_cons, List.drop_zero, List.map_cons, List.map_nil, putAll, Act.put, List.setIfInBounds_toArray, List.set_cons_succ, List.set_cons_zero, List.cons_append, List.nil_append, p76, p81]
                  clear p76 p81
                  have hb11 := hb10.trans (hbl.mono hb10.size)
                  clear hb10 hce1 hce2 hxA9 hx9 hbl
                  go_wp2_with fail
                  go_roundg (4 - (k + 1))
                  case measure => omega
                  case rel => exact ⟨k + 1, by omega, rfl, by go_num, hb11⟩
          · obtain rfl : k = 4 := by omega
            have d1 : decide (((4 : Nat) : Int) < 4) = false := by decide
            go_wp2_with fail
            go_roundg (2 - (i + 1))
            case measure => omega
            case rel => exact ⟨i + 1, by omega, rfl, by go_num, hb⟩
      · obtain rfl : i = 2 := by omega
        have d0 : decide (((2 : Nat) : Int) < 2) = false := by decide
        have hlv := hide (law8_lives wr)
        have hbl := hB7.trans (hb.mono hB7.size)
        go_wp2_with (go_at_call 17; refine hlv.out.mono ?_; rintro e w9 ⟨rfl, hb9⟩)
        go_ret
        exact ⟨rfl, hbl.trans (hb9.mono hbl.size)⟩
end Go.Proofs.Ytlpkicjijlcbfaa
