/- The contracts of the functions that the law reaches, joined into one text. -/
import Derived.Test.YtmjkhmebpciopaaBaseT30B
import Derived.WalkMore
set_option linter.unusedVariables false
set_option linter.unusedSimpArgs false

/- the text T16 -/
section
/- Chapter 15: the reference's layout. -/
namespace Go.Proofs.Ytmjkhmebpciopaa
open Go.RowKit Go.Dx

theorem errT_zero {X : List (List (List UInt8))} {W : Int} (h : errT X W = 0) : VX X ∧ 1 ≤ W ∧ W ≤ 1000 ∧ FitW (colW X) (nCols X) W := by
  unfold errT at h
  by_cases h1 : validT X = true ∧ 1 ≤ W ∧ W ≤ 1000
  · rw [if_pos h1] at h
    by_cases h2 : FitW (colW X) (nCols X) W
    · exact ⟨VX.of h1.1, h1.2.1, h1.2.2, h2⟩
    · rw [if_neg h2] at h; cases h
  · rw [if_neg h1] at h; cases h
theorem errT_cases (X : List (List (List UInt8))) (W : Int) : errT X W = 0 ∨ errT X W = 1 ∨ errT X W = 14 := by
  unfold errT
  split
  · split
    · exact .inl rfl
    · exact .inr (.inr rfl)
  · exact .inr (.inl rfl)
set_option maxRecDepth 100000 in
set_option maxHeartbeats 400000 in
theorem ref15_Layout_no_N (X : List (List (List UInt8))) (hs : List Hd) (a : Option Addr) (n c : Nat) (W : Int) (w : World) (hp : Pg3 w a n c hs X) (hW : -9223372036854775808 ≤ W ∧ W ≤ 9223372036854775807) (hE : errT X W ≠ 0) :
    Calls Try.prog 11 #[.slice a n c, .int .i64 W] w (GivesLayN [] [] [] (errT X W) w) := by
  have hb0 := blo w (.cells #[.slice none 0 0, .slice none 0 0] 35)
  have he := ref15_Error X hs a n c W _ (hp.below hb0) hW
  have hx0 := Box.new w 35 #[.slice none 0 0, .slice none 0 0]
  have hne : (errT X W != 0) = true := by simp [hE]
  generalize errT X W = E at *
  clear hE
  go_enter Try.func11, Try.ntmps11
  go_wp2_with fail
  refine he.mono ?_
  rintro e w2 ⟨rfl, rfl⟩
  go_wp2_with (with_reducible refine store_all 35 _ _ 35 _ _ [.slice none 0 0, .slice none 0 0] _ (size_rcert _ _) hx0 rfl rfl rfl (Eq.refl 2) (by simp [Value.oneCell']) ?_; intro w7 hx7 hg7 hs7)
  refine bodyPost_ret (results_cell3 rfl rfl rfl rfl isAgg_rcert (size_rcert _ _) hx7) rfl ⟨none, 0, [], none, 0, none, 0, rfl, ⟨Sl.empty _ _, rfl, fun i h r h1 => by cases h1⟩, Sl.empty _ _, Sl.empty _ _, hb0.grown hg7 hb0.size (fun k hk => by cases hk; exact Nat.le_refl _), KindLay.nil _⟩

set_option maxRecDepth 100000 in
set_option maxHeartbeats 1000000 in
theorem ref15_Layout_N (X : List (List (List UInt8))) (hs : List Hd) (a : Option Addr) (n c : Nat) (W : Int) (L T : Nat → Nat) (w : World) (hp : Pg3 w a n c hs X) (hW : -9223372036854775808 ≤ W ∧ W ≤ 9223372036854775807) (hE : errT X W = 0) (hS : Sol (colW X) (nCols X) X.length W L T 1) :
    Calls Try.prog 11 #[.slice a n c, .int .i64 W] w (GivesLayN (pageT (colW X) X (nCols X) T) (chain (nCols X) T (nCols X) 1) (leastL (nCols X) L) 0 w) := by
  obtain rfl := hp.n_eq
  obtain ⟨HX, hW1, hW2, hfit⟩ := errT_zero hE
  have hb0 := blo w (.cells #[.slice none 0 0, .slice none 0 0] 35)
  have he := ref15_Error X hs a X.length c W _ (hp.below hb0) hW
  rw [hE] at he
  have hx0 := Box.new w 35 #[.slice none 0 0, .slice none 0 0]
  have hl := ref15_Least X hs a X.length c W L T _ (hp.below hb0) HX.row HX.r1 HX.r2 HX.c2 HX.c1 HX.le hfit.cols hS
  have HSM := hide (hS.small hfit.cols HX.c2 HX.r2)
  obtain ⟨x0, hxx⟩ : ∃ x, X[0]? = some x := ⟨X[0]'(by have := HX.r1; omega), by simp⟩
  obtain ⟨ax0, cx0, ks0, hux0, hpx0⟩ := hp.get hxx
  rw [← nCols_of hxx] at hux0
  have HUX0 := hide hux0
  have hC : ∀ (j m : Nat) (w' : World), Below w.heap.size w w' → j + m ≤ nCols X → Calls Try.prog 34 #[.slice a X.length c, .int .i64 (j : Int), .int .i64 ((j : Int) + (m : Int))] w' fun e w2 => e = .returned (.int .i64 (sizeW (colW X) j m : Int)) ∧ w' = w2 := fun j m w' h hm => by
    have h1 := ref15_Size X hs a X.length c (nCols X) j (j + m) w' (hp.below h) HX.row HX.c1 hm (by have := HX.c2; omega) (by have := HX.c2; omega) HX.le
    rw [Nat.add_sub_cancel_left, Int.natCast_add] at h1; exact h1
  have hLN : ∀ (j k : Nat) (w' : World), Below w.heap.size w w' → j ≤ k → k ≤ nCols X → Calls Try.prog 16 #[.slice a X.length c, .int .i64 (j : Int), .int .i64 (k : Int)] w' fun e w2 => ∃ a' c' hs', e = .returned (.slice a' X.length c') ∧ OPage w2 w'.heap.size a' c' hs' (linesL (colW X) X j (k - j)) ∧ Below w'.heap.size w' w2 := fun j k w' h hjk hk =>
    ref15_Lines X hs a X.length c j k w' (hp.below h) HX.row HX.r2 HX.c1 HX.c2 HX.le hjk hk
  have HSZ : Hid (∀ j m, sizeW (colW X) j m ≤ 40 + 42 * m) := hide (fun j m => sizeW_le HX.le j m)
  have hpt := hp.top.below hb0
  have hn1 := HX.c1
  have hn2 := HX.c2
  have hr2 := HX.r2
  have HS := hide hS
  have HPE : Hid (pageT (colW X) X (nCols X) T = if nCols X = 1 then linesL (colW X) X 1 0 else pageG (colW X) X (nCols X) T (nCols X) 1) := hide rfl
  have HLL : Hid (∀ j m, (linesL (colW X) X j m).length = X.length) := hide (fun j m => linesL_len _ _ _ _)
  have HPS : Hid (∀ k, 1 ≤ k → k < nCols X → pageG (colW X) X (nCols X) T (nCols X) k = (if 1 < k then [[]] else []) ++ (linesL (colW X) X k (T k - k) ++ pageG (colW X) X (nCols X) T (nCols X) (T k))) := hide (fun k h1 h2 => pageG_step hS.gt h1 h2)
  have HPL : Hid ((pageG (colW X) X (nCols X) T (nCols X) 1).length ≤ 200) := hide (by
    have h1 := pageG_len (f := colW X) (X := X) (n := nCols X) (T := T) (nCols X) 1
    have h2 : nCols X * (X.length + 1) ≤ 12 * 13 := Nat.mul_le_mul hn2 (by omega)
    omega)
  clear hxx hux0 hpx0 hE hS hfit HX hp
  generalize pageT (colW X) X (nCols X) T = PT at *
  generalize colW X = f at *
  generalize nCols X = N at *
  go_enter Try.func11, Try.ntmps11
  go_wp2_with fail
  refine he.mono ?_
  rintro e w2 ⟨rfl, rfl⟩
  go_wp2_with (with_reducible refine idx_3 23 _ _ _ _ _ hs rfl hpt _ _ 0 rfl rfl _ HUX0.out ?_; intro b o hcell hbo)
  refine hl.mono ?_
  rintro e w2 ⟨aL, rfl, hsl, haL, hb2⟩
  have hkL := KindOf.of haL
  clear hcell hbo he hl
  have hb2' : Below w.heap.size w (w2.alloc (.cells #[.slice none 0 0, .slice aL N N] 35)) := (hb0.trans (hb2.mono hb0.size)).trans ((blo w2 _).mono (Nat.le_trans hb0.size hb2.size))
  have hlt5 := hx0.lt
  have hneL : ∀ q, aL = some q → some q.block ≠ some w.heap.size := fun q hq e => by
    have h1 := (haL q hq).1
    have h2 : q.block = w.heap.size := by simpa using e
    simp at h1
    omega
  by_cases hN1 : N = 1
  · subst hN1
    have hx5 := (hx0.under hb2).under (blo w2 (.cells #[.slice none 0 0, .slice aL 1 1] 35))
    have hx9 := Box.new w2 35 #[.slice none 0 0, .slice aL 1 1]
    have hslA := hsl.below (blo w2 (.cells #[.slice none 0 0, .slice aL 1 1] 35))
    have hkLA := hkL.below (blo w2 (.cells #[.slice none 0 0, .slice aL 1 1] 35))
    go_wp2_with fail
    generalize w2.alloc (.cells #[.slice none 0 0, .slice aL 1 1] 35) = wA at *
    have hL1 : ∀ w', Below wA.heap.size wA w' → Calls Try.prog 16 #[.slice a X.length c, .int .i64 1, .int .i64 1] w' fun e w2 => ∃ a' c' hs', e = .returned (.slice a' X.length c') ∧ OPage w2 w'.heap.size a' c' hs' (linesL f X 1 0) ∧ Below w'.heap.size w' w2 := fun w' h => hLN 1 1 w' (hb2'.trans (h.mono hb2'.size)) (by omega) (by omega)
    refine wp_region_free 4 [⟨0, 32, [32], fun vs _ => vs = [.slice a X.length c]⟩, ⟨1, 33, [33], fun vs w' => ∃ a' c' hs', vs = [.slice a' X.length c'] ∧ OPage w' wA.heap.size a' c' hs' (linesL f X 1 0)⟩, ⟨2, 34, [34], fun vs _ => vs = [.agg #[.slice none 0 0, .slice aL 1 1]]⟩, ⟨3, 4, [4], fun vs w' => ∃ a' c' hs', vs = [.slice a' X.length c'] ∧ OPage w' wA.heap.size a' c' hs' (linesL f X 1 0)⟩] (by kernel_rfl) (by kernel_rfl) ?_ ?_ ?_
    · simp only [All]
      refine ⟨fun _ _ _ _ h => h, ?_, fun _ _ _ _ h => h, ?_, trivial⟩
      · rintro vs w w' hb ⟨a', c', hs', h1, h2⟩
        exact ⟨a', c', hs', h1, h2.below hb⟩
      · rintro vs w w' hb ⟨a', c', hs', h1, h2⟩
        exact ⟨a', c', hs', h1, h2.below hb⟩
    · simp only [All]
      refine ⟨?_, ?_, ?_, ?_, trivial⟩
      · intro o ho a' w' hb hfr hdep
        obtain rfl := Option.some.inj ho
        have g0 : a'.tmps[0]?.getD undef = .slice a X.length c := by have h := hfr 0 (by kernel_rfl); simpa using h
        clear ho hfr hdep
        go_wp2_with fail
        exact ⟨rfl, _, rfl, Below.refl _ _, rfl⟩
      · intro o ho a' w' hb hfr hdep
        obtain rfl := Option.some.inj ho
        have g32 : a'.tmps[32]?.getD undef = .slice a X.length c := by have h := hdep 0 _ rfl (by kernel_rfl); simpa using h
        clear ho hfr hdep
        go_wp2_with fail
        refine (hL1 _ hb).mono ?_
        rintro e w3 ⟨a4, c4, hs4, rfl, ho4, hb4⟩
        go_wp2_with fail
        exact ⟨rfl, _, rfl, hb4, a4, c4, hs4, rfl, ho4.mono hb.size⟩
      · intro o ho a' w' hb hfr hdep
        obtain rfl := Option.some.inj ho
        have g9 : a'.tmps[9]?.getD undef = .pointer (some ⟨w2.heap.size, 0, none⟩) := by have h := hfr 9 (by kernel_rfl); simpa using h
        clear ho hfr hdep
        refine load_box 34 35 _ 35 _ 0 _ [.slice none 0 0, .slice aL 1 1] isAgg_rcert (size_rcert _ _) (hx9.under hb) (by show a'.tmps.getD 9 undef = _; simpa using g9) (fun j u hj => by rw [Nat.zero_add]; exact hj) ?_
        go_wp2_with fail
        exact ⟨rfl, _, rfl, Below.refl _ _, rfl⟩
      · intro o ho a' w' hb hfr hdep
        obtain rfl := Option.some.inj ho
        obtain ⟨a4, c4, hs4, g33, ho4⟩ := hdep 1 _ rfl (by kernel_rfl)
        simp at g33
        clear ho hfr hdep
        go_wp2_with fail
        exact ⟨rfl, _, rfl, Below.refl _ _, a4, c4, hs4, rfl, ho4⟩
    · intro g w3 hb3 hp
      obtain ⟨a4, c4, hs4, q4, ho4⟩ := hp 3 _ rfl
      have p34 := hp 2 _ rfl
      clear hp
      simp at p34 q4
      simp only [List.drop_succ_cons, List.drop_zero, List.map_cons, List.map_nil, putAll, Act.put, List.setIfInBounds_toArray, List.set_cons_succ, List.set_cons_zero, q4, p34]
      go_wp2_with (with_reducible refine store_all 35 _ _ 35 _ _ [.slice none 0 0, .slice aL 1 1] _ (size_rcert _ _) (hx5.under hb3) rfl rfl rfl (Eq.refl 2) (by simp [Value.oneCell']) ?_; intro w7 hx7 hg7 hs7)
      have hbw := hb2'.trans (hb3.mono hb2'.size)
      have hpo := (ho4.kept hg7 (fun q hq => by
        rw [hq] at ho4; have h1 := ho4.top.base.1; have h3 := hx5.lt; simp; omega) (fun i x q hx hq => by
        obtain ⟨r, h1⟩ := ho4.row_own hx
        rw [hq] at h1; have h1 := h1.base.1; have h3 := hx5.lt; simp; omega))
      have hpg := hpo.pg
      have hs7 := (hslA.below hb3).grown hg7 hneL
      rw [HPE.out, if_pos (by trivial)]
      refine bodyPost_ret (results_cell3 rfl rfl rfl rfl isAgg_rcert (size_rcert _ _) hx7) rfl ⟨a4, c4, hs4, none, 0, aL, 1, ?_, hpg, Sl.empty _ _, ?_, hbw.grown hg7 hbw.size (fun k hk => by cases hk; exact Nat.le_refl _), hpo.kinds (KindOf.none _ _) ((hkLA.below hb3).grown hg7 hneL)⟩
      · rw [linesL_len, leastL_len, chain_stop (by omega)]; rfl
      · rw [leastL_len]; exact hs7
  · have e1 : ((N : Int) == 1) = false := beq_eq_false_iff_ne.2 (by omega)
    have hx5A := (hx0.under hb2).under (blo w2 (.cells #[.slice none 0 0, .slice aL N N] 35))
    have hx9A := Box.new w2 35 #[.slice none 0 0, .slice aL N N]
    have hbA := blo w2 (.cells #[.slice none 0 0, .slice aL N N] 35)
    have hzA : (w2.alloc (.cells #[.slice none 0 0, .slice aL N N] 35)).heap.size = w2.heap.size + 1 := by simp
    have hbw2 := hb0.trans (hb2.mono hb0.size)
    have hx52 := hx0.under hb2
    have hsz02 : w.heap.size ≤ w2.heap.size := Nat.le_trans hb0.size hb2.size
    have hsz02' : w.heap.size + 1 ≤ w2.heap.size := by have := hb2.size; simp at this; omega
    have hcl := chain_len (n := N) (T := T) N 1
    go_wp2_with fail
    generalize w2.alloc (.cells #[.slice none 0 0, .slice aL N N] 35) = wA at *
    go_loopg [10, 11] (N - 1) (fun g p i w' => ∃ (k : Nat) (ap : Option Addr) (cp : Nat) (hs1 : List Hd) (pre : List (List UInt8)) (a1 : Option Addr) (c1 : Nat) (fs : List Nat), 1 ≤ k ∧ k ≤ N ∧ g = N - k ∧ pre ++ pageG f X N T N k = pageG f X N T N 1 ∧ fs ++ chain N T N k = chain N T N 1 ∧ p = .slice ap pre.length cp ∧ i = .int .i64 (k : Int)
      ∧ Below w2.heap.size w2 w' ∧ Box w' w2.heap.size 35 [.slice a1 fs.length c1, .slice aL N N] ∧ OPage w' (w2.heap.size + 1) ap cp hs1 pre ∧ Own w' (w2.heap.size + 1) 3 1 a1 fs.length c1 ((ints fs).map I64))
    case atStart => exact ⟨1, none, 0, [], [], none, 0, [], by omega, by omega, rfl, rfl, rfl, rfl, rfl, hbA, hx9A, OPage.nil _ _, Own.nil _ _ _ _⟩
    case round =>
      clear hx5A hx9A hbA hzA
      obtain ⟨k, ap, cp, hs1, pre, a1, c1, fs, hk1, hkN, hg, hpr, hfs, rfl, rfl, hbk, hx9, hop, hfi⟩ := hrel
      have HG := hide hg
      have HPR := hide hpr
      have HFS := hide hfs
      have hprl : pre.length + (pageG f X N T N k).length ≤ 200 := by rw [← List.length_append, HPR.out]; exact HPL.out
      have hfsl : fs.length + (chain N T N k).length ≤ N := by rw [← List.length_append, HFS.out]; exact hcl
      clear hg hpr hfs
      by_cases hkl : k < N
      · obtain ⟨q, rfl⟩ : ∃ q, k = q + 1 := ⟨k - 1, by omega⟩
        rw [show ((q + 1 : Nat) : Int) = (q : Int) + 1 by omega]
        have d0 : decide ((q : Int) + 1 < (N : Int)) = true := decide_eq_true (by omega)
        have HB := hide (HS.out (q + 1) (by omega) hkl)
        have HST := hide (chain_step HS.out.gt (by omega : 1 ≤ q + 1) hkl)
        have HPG := hide (HPS.out (q + 1) (by omega) hkl)
        have hTg := HB.out.lt
        have hTl := HB.out.le
        obtain ⟨t, Ht⟩ : ∃ t, Hid (T (q + 1) = t) := ⟨_, hide rfl⟩
        obtain ⟨l0, Hl0⟩ : ∃ l0, Hid (L (q + 1) = l0) := ⟨_, hide rfl⟩
        have hl05 : l0 ≤ 155 := by rw [← Hl0.out]; exact HSM.out (q + 1) (by omega) hkl
        have HLQ : Hid ((ints (leastL N L))[q]? = some (l0 : Int)) := hide (by rw [ints_get (leastL_get L (by omega : q < N)), if_pos hkl, Hl0.out])
        rw [Ht.out] at hTg hTl HST HPG
        have hbz0 := hbw2.trans (hbk.mono hsz02)
        have c9 := hx9.at_ (j := 1) rfl
        have hsly := hsl.below hbk
        obtain ⟨wy, rfl⟩ : ∃ wy : World, wy = wr := ⟨_, rfl⟩
        go_wp2_with fail
        go_loopg [12, 13, 14] (N + 1) (fun g nx j _ w' => ∃ y v : Nat, q + 1 ≤ y ∧ y ≤ N ∧ g = N + 1 - y + (q + 1) ∧ nx = .int .i64 (v : Int) ∧ j = .int .i64 ((y : Int) + 1) ∧ (T (q + 1) ≤ y → v = T (q + 1)) ∧ wy = w')
        case atStart => exact ⟨q + 1, q + 1, by omega, by omega, by omega, by go_num, by go_num, fun h => by rw [Ht.out] at h; omega, rfl⟩
        case round =>
          obtain ⟨y, v, hqy, hyN, hg1, rfl, rfl, hv, rfl⟩ := hrel
          have HG1 := hide hg1
          clear hg1
          by_cases hyl : y < N
          · have hc := hC (q + 1) (y + 1 - (q + 1)) _ hbz0 (by omega)
            obtain ⟨s, Hs⟩ : ∃ s, Hid (sizeW f (q + 1) (y + 1 - (q + 1)) = s) := ⟨_, hide rfl⟩
            have hs1 : s ≤ 600 := by have := HSZ.out (q + 1) (y + 1 - (q + 1)); rw [← Hs.out]; omega
            rw [Hs.out, show ((q + 1 : Nat) : Int) + ((y + 1 - (q + 1) : Nat) : Int) = (y : Int) + 1 by omega, show ((q + 1 : Nat) : Int) = (q : Int) + 1 by omega] at hc
            by_cases hyN2 : y + 1 < N
            · obtain ⟨m, Hm⟩ : ∃ m, Hid (L (y + 1) = m) := ⟨_, hide rfl⟩
              have hm5 : m ≤ 155 := by rw [← Hm.out]; exact HSM.out (y + 1) (by omega) hyN2
              have Hu : Hid (valL N X.length L (y + 1) = X.length + (1 + m)) := hide (by rw [valL_in hyN2, Hm.out])
              have HLY : Hid ((ints (leastL N L))[y]? = some (m : Int)) := hide (by rw [ints_get (leastL_get L hyl), if_pos hyN2, Hm.out])
              have d2 : decide ((y : Int) + 1 < (N : Int)) = true := decide_eq_true (by omega)
              by_cases hsW : (s : Int) ≤ W
              · have d1 : decide ((s : Int) ≤ W) = true := decide_eq_true hsW
                by_cases heq : X.length + (1 + m) = l0
                · have e1 : ((X.length : Int) + (1 + (m : Int)) == (l0 : Int)) = true := by
                    have : (X.length : Int) + (1 + (m : Int)) = (l0 : Int) := by omega
                    simp [this]
                  have HV : Hid (T (q + 1) ≤ y + 1 → y + 1 = T (q + 1)) := hide (fun h => by
                    have h1 := (HB.out.min (y + 1) (by omega) (by omega) (by rw [Hs.out]; exact hsW)).2 (by rw [Hu.out, Hl0.out]; omega)
                    omega)
                  clear heq
                  go_wp2_with (with_reducible refine idx_i 53 _ _ _ _ _ _ rfl hsly _ _ y rfl (by omega) _ HLY.out ?_; intro b o hcell hbo)
                  refine hc.mono ?_
                  rintro e w3 ⟨rfl, rfl⟩
                  go_wp2_with (refine unguard (by simp [Region.wanted, yielded, d1]) ?_; with_reducible refine idx_i 71 _ _ _ _ _ _ rfl hsly _ _ q rfl (by omega) _ HLQ.out ?_; intro b3 o3 hcell3 hbo3)
                  go_roundg (N + 1 - (y + 1) + (q + 1))
                  case measure => have := HG1.out; omega
                  case rel => exact ⟨y + 1, y + 1, by omega, by omega, rfl, by go_num, by go_num, HV.out, rfl⟩
                · have e1 : ((X.length : Int) + (1 + (m : Int)) == (l0 : Int)) = false := beq_eq_false_iff_ne.2 (by omega)
                  have HV : Hid (T (q + 1) ≤ y + 1 → v = T (q + 1)) := hide (fun h => by
                    by_cases he : T (q + 1) = y + 1
                    · have h1 := HB.out.val
                      rw [he, Hu.out, Hl0.out] at h1
                      omega
                    · exact hv (by omega))
                  clear heq
                  go_wp2_with (with_reducible refine idx_i 53 _ _ _ _ _ _ rfl hsly _ _ y rfl (by omega) _ HLY.out ?_; intro b o hcell hbo)
                  refine hc.mono ?_
                  rintro e w3 ⟨rfl, rfl⟩
                  go_wp2_with (refine unguard (by simp [Region.wanted, yielded, d1]) ?_; with_reducible refine idx_i 71 _ _ _ _ _ _ rfl hsly _ _ q rfl (by omega) _ HLQ.out ?_; intro b3 o3 hcell3 hbo3)
                  go_roundg (N + 1 - (y + 1) + (q + 1))
                  case measure => have := HG1.out; omega
                  case rel => exact ⟨y + 1, v, by omega, by omega, rfl, by go_num, by go_num, HV.out, rfl⟩
              · have d1 : decide ((s : Int) ≤ W) = false := decide_eq_false hsW
                have HV : Hid (T (q + 1) ≤ y + 1 → v = T (q + 1)) := hide (fun h => by
                  by_cases he : T (q + 1) = y + 1
                  · have h1 := HB.out.ok
                    rw [he, Hs.out] at h1
                    exact absurd h1 hsW
                  · exact hv (by omega))
                go_wp2_with (with_reducible refine idx_i 53 _ _ _ _ _ _ rfl hsly _ _ y rfl (by omega) _ HLY.out ?_; intro b o hcell hbo)
                refine hc.mono ?_
                rintro e w3 ⟨rfl, rfl⟩
                go_wp2_with fail
                go_roundg (N + 1 - (y + 1) + (q + 1))
                case measure => have := HG1.out; omega
                case rel => exact ⟨y + 1, v, by omega, by omega, rfl, by go_num, by go_num, HV.out, rfl⟩
            · have Hu : Hid (valL N X.length L (y + 1) = X.length) := hide (valL_end hyN2)
              have d2 : decide ((y : Int) + 1 < (N : Int)) = false := decide_eq_false (by omega)
              by_cases hsW : (s : Int) ≤ W
              · have d1 : decide ((s : Int) ≤ W) = true := decide_eq_true hsW
                by_cases heq : X.length + (0) = l0
                · have e1 : ((X.length : Int) + 0 == (l0 : Int)) = true := by
                    have : (X.length : Int) + 0 = (l0 : Int) := by omega
                    simp [this]
                  have HV : Hid (T (q + 1) ≤ y + 1 → y + 1 = T (q + 1)) := hide (fun h => by
                    have h1 := (HB.out.min (y + 1) (by omega) (by omega) (by rw [Hs.out]; exact hsW)).2 (by rw [Hu.out, Hl0.out]; omega)
                    omega)
                  clear heq
                  go_wp2_with fail
                  refine hc.mono ?_
                  rintro e w3 ⟨rfl, rfl⟩
                  go_wp2_with (refine unguard (by simp [Region.wanted, yielded, d1]) ?_; with_reducible refine idx_i 71 _ _ _ _ _ _ rfl hsly _ _ q rfl (by omega) _ HLQ.out ?_; intro b3 o3 hcell3 hbo3)
                  go_roundg (N + 1 - (y + 1) + (q + 1))
                  case measure => have := HG1.out; omega
                  case rel => exact ⟨y + 1, y + 1, by omega, by omega, rfl, by go_num, by go_num, HV.out, rfl⟩
                · have e1 : ((X.length : Int) + 0 == (l0 : Int)) = false := beq_eq_false_iff_ne.2 (by omega)
                  have HV : Hid (T (q + 1) ≤ y + 1 → v = T (q + 1)) := hide (fun h => by
                    by_cases he : T (q + 1) = y + 1
                    · have h1 := HB.out.val
                      rw [he, Hu.out, Hl0.out] at h1
                      omega
                    · exact hv (by omega))
                  clear heq
                  go_wp2_with fail
                  refine hc.mono ?_
                  rintro e w3 ⟨rfl, rfl⟩
                  go_wp2_with (refine unguard (by simp [Region.wanted, yielded, d1]) ?_; with_reducible refine idx_i 71 _ _ _ _ _ _ rfl hsly _ _ q rfl (by omega) _ HLQ.out ?_; intro b3 o3 hcell3 hbo3)
                  go_roundg (N + 1 - (y + 1) + (q + 1))
                  case measure => have := HG1.out; omega
                  case rel => exact ⟨y + 1, v, by omega, by omega, rfl, by go_num, by go_num, HV.out, rfl⟩
              · have d1 : decide ((s : Int) ≤ W) = false := decide_eq_false hsW
                have HV : Hid (T (q + 1) ≤ y + 1 → v = T (q + 1)) := hide (fun h => by
                  by_cases he : T (q + 1) = y + 1
                  · have h1 := HB.out.ok
                    rw [he, Hs.out] at h1
                    exact absurd h1 hsW
                  · exact hv (by omega))
                go_wp2_with fail
                refine hc.mono ?_
                rintro e w3 ⟨rfl, rfl⟩
                go_wp2_with fail
                go_roundg (N + 1 - (y + 1) + (q + 1))
                case measure => have := HG1.out; omega
                case rel => exact ⟨y + 1, v, by omega, by omega, rfl, by go_num, by go_num, HV.out, rfl⟩
          · obtain rfl : N = y := by omega
            have hvT := hv (by rw [Ht.out]; omega)
            rw [Ht.out] at hvT
            obtain rfl : t = v := hvT.symm
            clear hv hvT HB Hl0 HLQ c9 hsly hC
            go_upto_if 77 with fail
            go_cut [10] (fun p w' => ∃ (apz : Option Addr) (cpz : Nat) (hsz : List Hd) (pz : List (List UInt8)), p = .slice apz pz.length cpz ∧ Hid (pz = pre ++ (if 1 < q + 1 then [[]] else [])) ∧ Below w2.heap.size w2 w' ∧ Box w' w2.heap.size 35 [.slice a1 fs.length c1, .slice aL N N] ∧ OPage w' (w2.heap.size + 1) apz cpz hsz pz ∧ Own w' (w2.heap.size + 1) 3 1 a1 fs.length c1 ((ints fs).map I64))
            case first =>
              rcases Nat.eq_zero_or_pos q with hq0 | hq0
              · subst hq0
                go_wp2_with fail
                go_meet
                exact ⟨ap, cp, hs1, pre, rfl, hide (by simp), hbk, hx9, hop, hfi⟩
              · have d8 : decide (1 < (q : Int) + 1) = true := decide_eq_true (by omega)
                have hszy := hx9.lt
                have hb1 := blo wy (.cells #[.slice none 0 0] 47)
                go_wp2_with (at_builtin; refine app_pn rfl _ _ rfl wy (w2.heap.size + 1) _ _ _ hs1 pre rfl rfl hop rfl (by omega) (by omega) (Below.refl _ _) ?_; intro a5 c5 w5 ho5 hgr5 hb5)
                go_meet
                exact ⟨a5, c5, _, _, by rw [List.length_append]; rfl, hide (by rw [if_pos (by omega)]), hbk.trans (hb5.mono (by have := hbk.size; omega)), hx9.below hb5 (by omega), ho5, Own.page (hfi.below hb1) (hop.below hb1) hgr5⟩
            case rest =>
              obtain ⟨apz, cpz, hsz, pz, rfl, HPZ, hbz, hx9z, hopz, hfiz⟩ := hcut
              have hszz := hx9z.lt
              have hbz1 := hbw2.trans (hbz.mono hsz02)
              have HPZL : pz.length ≤ 201 := by rw [HPZ.out, List.length_append]; split <;> simp <;> omega
              have hcall := hLN (q + 1) t _ hbz1 (by omega) (by omega)
              rw [show ((q + 1 : Nat) : Int) = (q : Int) + 1 by omega] at hcall
              clear hx9 hop hfi hLN
              go_wp2_with fail
              refine hcall.mono ?_
              rintro e w3 ⟨a3, c3, hs3, rfl, ho3, hb3⟩
              have hx93 := hx9z.under hb3
              have hsz3 := hx93.lt
              go_wp2_with (first
                | (at_builtin; refine app_pp rfl _ _ rfl w3 (w2.heap.size + 1) _ _ _ hsz pz rfl rfl (hopz.below hb3) _ _ _ hs3 _ (HLL.out _ _) rfl (ho3.mono (by omega)) (by omega) (by omega) (Below.refl _ _) ?_; intro a5 c5 w5 ho5 hgr5 hb5; have hx95 := hx93.below hb5 (by omega); have hfi5 := Own.page (hfiz.below hb3) (hopz.below hb3) hgr5; have c0 := hx95.at_ (j := 0) rfl; have hsz5 := hx95.lt)
                | (at_builtin; refine app_i rfl _ _ rfl w5 (w2.heap.size + 1) _ _ _ _ rfl hfi5 _ rfl (by omega) (by omega) (Below.refl _ _) ?_; intro a6 c6 w6 ho6 hgr6 hb6; have hx96 := hx95.below hb6 (by omega); have hsz6 := hx96.lt)
                | (with_reducible refine store_cell 22 _ _ 35 w2.heap.size 0 _ _ size_ints hx96 rfl rfl rfl rfl (by simp) ?_; intro w8 hx8 hg8 hs8))
              have hbz8 := (((hbz.trans (hb3.mono (by omega))).trans (hb5.mono (by omega))).trans (hb6.mono (by omega))).grown hg8 (by omega) (fun k hk => by cases hk; exact Nat.le_refl _)
              go_roundg (N - t)
              case measure => have := HG.out; omega
              case rel =>
                refine ⟨t, a5, c5, hsz ++ hs3, pz ++ linesL f X (q + 1) (t - (q + 1)), a6, c6, fs ++ [q + 1], by omega, by omega, rfl, ?_, ?_, ?_, by go_num, hbz8, ?_, (ho5.ints hfi5 hgr6).over hg8, ?_⟩
                · rw [← HPR.out, HPG.out, HPZ.out, List.append_assoc, List.append_assoc]
                · rw [← HFS.out, HST.out, List.append_assoc]; rfl
                · rw [List.length_append, HLL.out]
                · rw [List.length_append]; exact hx8
                · have h9 := own_over ho6 hg8
                  rw [List.length_append]
                  unfold ints at h9 ⊢
                  rw [List.map_append, List.map_append]; exact h9
      · have hkN' := hkl
        obtain rfl : N = k := by omega
        have hx5k := hx52.under hbk
        go_wp2_with fail
        refine wp_region_free 3 [⟨0, 94, [94], fun vs _ => vs = [.slice ap pre.length cp]⟩, ⟨1, 95, [95], fun vs _ => vs = [.agg #[.slice a1 fs.length c1, .slice aL N N]]⟩, ⟨2, 4, [4], fun vs _ => vs = [.slice ap pre.length cp]⟩] (by kernel_rfl) (by kernel_rfl) ?_ ?_ ?_
        · simp only [All]
          refine ⟨fun _ _ _ _ h => h, fun _ _ _ _ h => h, fun _ _ _ _ h => h, trivial⟩
        · simp only [All]
          refine ⟨?_, ?_, ?_, trivial⟩
          · intro o ho a' w' hb hfr hdep
            obtain rfl := Option.some.inj ho
            have g10 : a'.tmps[10]?.getD undef = .slice ap pre.length cp := by have h := hfr 10 (by kernel_rfl); simpa using h
            clear ho hfr hdep
            go_wp2_with fail
            exact ⟨rfl, _, rfl, Below.refl _ _, rfl⟩
          · intro o ho a' w' hb hfr hdep
            obtain rfl := Option.some.inj ho
            have g9 : a'.tmps[9]?.getD undef = .pointer (some ⟨w2.heap.size, 0, none⟩) := by have h := hfr 9 (by kernel_rfl); simpa using h
            clear ho hfr hdep
            refine load_box 95 35 _ 35 _ 0 _ [.slice a1 fs.length c1, .slice aL N N] isAgg_rcert (size_rcert _ _) (hx9.under hb) (by show a'.tmps.getD 9 undef = _; simpa using g9) (fun j u hj => by rw [Nat.zero_add]; exact hj) ?_
            go_wp2_with fail
            exact ⟨rfl, _, rfl, Below.refl _ _, rfl⟩
          · intro o ho a' w' hb hfr hdep
            obtain rfl := Option.some.inj ho
            have g94 : a'.tmps[94]?.getD undef = .slice ap pre.length cp := by have h := hdep 0 _ rfl (by kernel_rfl); simpa using h
            clear ho hfr hdep
            go_wp2_with fail
            exact ⟨rfl, _, rfl, Below.refl _ _, rfl⟩
        · intro g w3 hb3 hp
          have p4 := hp 2 _ rfl
          have p95 := hp 1 _ rfl
          clear hp
          simp at p4 p95
          simp only [List.drop_succ_cons, List.drop_zero, List.map_cons, List.map_nil, putAll, Act.put, List.setIfInBounds_toArray, List.set_cons_succ, List.set_cons_zero, p4, p95]
          go_wp2_with (with_reducible refine store_all 35 _ _ 35 _ _ [.slice a1 fs.length c1, .slice aL N N] _ (size_rcert _ _) (hx5k.under hb3) rfl rfl rfl (Eq.refl 2) (by simp [Value.oneCell']) ?_; intro w7 hx7 hg7 hs7)
          have hbw := (hbw2.trans (hbk.mono hsz02)).trans (hb3.mono (Nat.le_trans hsz02 hbk.size))
          have ho3 := hop.below hb3
          have hf3 := hfi.below hb3
          have hlt5 := hx0.lt
          have hsz2 := hb2.size
          have hpo := (ho3.kept hg7 (fun q hq => by
            rw [hq] at ho3; have h1 := ho3.top.base.1; simp; simp at hlt5; omega) (fun i x q hx hq => by
            obtain ⟨r, h1⟩ := ho3.row_own hx
            rw [hq] at h1; have h1 := h1.base.1; simp; simp at hlt5; omega))
          have hpg := hpo.pg
          have hneF : ∀ q, a1 = some q → some q.block ≠ some w.heap.size := (fun q hq => by
            rw [hq] at hf3; have h1 := hf3.base.1; simp; simp at hlt5; omega)
          have hfs := hf3.sl.grown hg7 hneF
          have hs8 := ((hsl.below hbk).below hb3).grown hg7 hneL
          have hfe : fs = chain N T N 1 := by have := HFS.out; rw [chain_stop hkN', List.append_nil] at this; exact this
          have hpe : pre = pageG f X N T N 1 := by have := HPR.out; rw [pageG_stop hkN', List.append_nil] at this; exact this
          rw [HPE.out, if_neg hN1, ← hpe, ← hfe]
          refine bodyPost_ret (results_cell3 rfl rfl rfl rfl isAgg_rcert (size_rcert _ _) hx7) rfl ⟨ap, cp, hs1, a1, c1, aL, N, ?_, hpg, hfs, ?_, hbw.grown hg7 hbw.size (fun k hk => by cases hk; exact Nat.le_refl _), hpo.kinds ((KindOf.own hf3).grown hg7 hneF) (((hkL.below hbk).below hb3).grown hg7 hneL)⟩
          · rw [leastL_len]; rfl
          · rw [leastL_len]; exact hs8
theorem ref15_Layout_no (X : List (List (List UInt8))) (hs : List Hd) (a : Option Addr) (n c : Nat) (W : Int) (w : World) (hp : Pg3 w a n c hs X) (hW : -9223372036854775808 ≤ W ∧ W ≤ 9223372036854775807) (hE : errT X W ≠ 0) :
    Calls Try.prog 11 #[.slice a n c, .int .i64 W] w (GivesLay [] [] [] (errT X W) w) := (ref15_Layout_no_N X hs a n c W w hp hW hE).mono GivesLay.of
theorem ref15_Layout (X : List (List (List UInt8))) (hs : List Hd) (a : Option Addr) (n c : Nat) (W : Int) (L T : Nat → Nat) (w : World) (hp : Pg3 w a n c hs X) (hW : -9223372036854775808 ≤ W ∧ W ≤ 9223372036854775807) (hE : errT X W = 0) (hS : Sol (colW X) (nCols X) X.length W L T 1) :
    Calls Try.prog 11 #[.slice a n c, .int .i64 W] w (GivesLay (pageT (colW X) X (nCols X) T) (chain (nCols X) T (nCols X) 1) (leastL (nCols X) L) 0 w) := (ref15_Layout_N X hs a n c W L T w hp hW hE hS).mono GivesLay.of
end Go.Proofs.Ytmjkhmebpciopaa
end

/- the text T17 -/
section
/- Chapter 15: the layout. -/
namespace Go.Dx
open Go.RowKit
/-- 'arr[lo:hi]' of a local array -/
theorem cut_local {P : Program} {w : World} {ops : Array Oper} {rest : List Oper} {act : Act} {Q : Exit → Act → World → Prop} {ty : TypeId} {pos : String} {after : Array Edge}
    (d : Nat) (t e : TypeId) (n : Nat) (x lo hi : Operand) (ht : P.underlying t = some (.array n e)) (hsz : (P.info? e).map (·.size) = some 1)
    (g : Nat) (hx : act.eval x = .pointer (some ⟨g, 0, none⟩)) (kl ku : IntKind) (lv uv : Int) (l u : Nat) (hl : act.eval lo = .int kl lv) (hu : act.eval hi = .int ku uv) (hlv : lv = (l : Int)) (huv : uv = (u : Int)) (hlu : l ≤ u) (hun : u ≤ n) (hln : l < n)
    (hK : wpList P ops Q rest (act.put (some d) (.slice (some ⟨g, l, none⟩) (u - l) (n - l))) w) :
    wpList P ops Q ({ dst := some d, op := .slice t x (some lo) (some hi) none, type := ty, pos := pos, after := after, guard := none } :: rest) act w := by
  refine wpList_plain rfl fun K hK' => ?_
  subst hlv huv
  obtain ⟨i0, hi0, hs0⟩ := Option.map_eq_some_iff.1 hsz
  have h2 : (0 : Int) ≤ l ∧ (l : Int) ≤ u := by omega
  have h3 : (0 : Int) ≤ u ∧ (u : Int) ≤ n := by omega
  have hne : ¬ n = l := by omega
  have hrun : (Instr.sliceAt t (.pointer (some ⟨g, 0, none⟩)) (some (.int kl (l : Int))) (some (.int ku (u : Int))) none).run P w = .ok (.slice (some ⟨g, l, none⟩) (u - l) (n - l)) w := by
    simp [Instr.sliceAt, Instr.sureAddr, Instr.sliceBounds, Instr.sliceBound, asIntOf, run_underlying ht, sizeOf, typeInfo, hi0, hs0, h2, h3, Addr.add_lit, hne, hlu, hun]
  unfold Oper.wp
  simp only [execOp, Option.map_some, Option.map_none, hx, hl, hu, Sem.run_bind, hrun, Result.andThen, Sem.run_pure]
  exact hK' _ _ hK
end Go.Dx
namespace Go.Proofs.Ytmjkhmebpciopaa
open Go.RowKit Go.Dx

theorem hold_st {P : Program} {w : World} {ops : Array Oper} {rest : List Oper} {act : Act} {Q : Exit → Act → World → Prop} {dst : Option Tmp} {t ty : TypeId} {x y : Operand} {pos : String} {after : Array Edge} {g : Option (Nat × Bool)}
    (h : Hid (wpList P ops Q ({ dst := dst, op := .store t x y, type := ty, pos := pos, after := after, guard := g } :: rest) act w)) : wpList P ops Q ({ dst := dst, op := .store t x y, type := ty, pos := pos, after := after, guard := g } :: rest) act w := h
theorem bestL_get (N : Nat) (L : Nat → Nat) {i : Nat} (h : i < 13) : (bestL N L)[i]? = some (solveF N L 1 i) := by unfold bestL; rw [List.getElem?_map, List.getElem?_range h]; rfl
theorem best_sl {w : World} {g : Nat} {t : TypeId} {N : Nat} {L : Nat → Nat} (h : Box w g t (bestL N L)) (hN : N ≤ 12) : Sl w 1 (some ⟨g, 1, none⟩) N 12 ((ints (leastL N L)).map I64) := by
  refine h.sl 1 N 12 1 _ (by unfold ints; rw [List.length_map, List.length_map, leastL_len]; omega) hN (by unfold maxLen; omega) ?_
  intro j u hj
  have hjN : j < N := by
    have := (List.getElem?_eq_some_iff.1 hj).1
    unfold ints at this; rw [List.length_map, List.length_map, leastL_len] at this; exact this
  rw [List.getElem?_map, ints_get (leastL_get L hjN)] at hj
  rw [bestL_get N L (by omega), ← hj]
  unfold solveF
  by_cases h1 : j + 1 < N
  · rw [if_pos ⟨by omega, by omega⟩, if_pos h1, Nat.add_comm]; rfl
  · rw [if_neg (by omega), if_neg h1]; rfl
theorem fit_w {X : List (List (List UInt8))} {W : Int} (h : 1 ≤ nCols X) : FitW (wAt (widthsL X)) (nCols X) W ↔ FitW (colW X) (nCols X) W := FitW.congr h (wAt_widths X)
theorem fits_dec {X : List (List (List UInt8))} {W : Int} (h : 1 ≤ nCols X) : ((wAt (widthsL X) 0 : Int) + (great ((widthsL X).drop 1) : Int) ≤ W) ↔ FitW (colW X) (nCols X) W := by
  rw [fits_iff, widthsL_len, fit_w h]

set_option maxRecDepth 100000 in
set_option maxHeartbeats 400000 in
theorem tab_Layout_no_N (X : List (List (List UInt8))) (hs : List Hd) (a : Option Addr) (n c : Nat) (W : Int) (w : World) (hp : Pg3 w a n c hs X) (hE : errT X W ≠ 0) :
    Calls Try.prog 10 #[.slice a n c, .int .i64 W] w (GivesLayN [] [] [] (errT X W) w) := by
  have hb0 := blo w (.cells #[.slice none 0 0, .slice none 0 0] 31)
  have hv := tab_valid X hs a n c _ (hp.below hb0)
  have hx0 := Box.new w 31 #[.slice none 0 0, .slice none 0 0]
  by_cases hval : validT X = true ∧ 1 ≤ W ∧ W ≤ 1000
  · by_cases hfit : FitW (colW X) (nCols X) W
    · exact absurd (errT_ok hval hfit) hE
    · have HE := hide (errT_wide hval hfit)
      obtain ⟨hval, h1, h2⟩ := hval
      have HX := VX.of hval
      rw [hval] at hv
      have hwd := fun w' h => tab_widths X hs a n c w' (hp.below h) HX.row HX.r1 HX.c2
      have hft := fun w' a' h => tab_fits (widthsL X) W a' (nCols X) (nCols X) w' h (by rw [widthsL_len]; exact HX.c1) HX.le_w
      have hfd : decide ((wAt (widthsL X) 0 : Int) + (great ((widthsL X).drop 1) : Int) ≤ W) = false := decide_eq_false (fun h => hfit ((fits_dec HX.c1).1 h))
      rw [hfd] at hft
      have d1 : decide (W < 1) = false := decide_eq_false (by omega)
      have d2 : decide (1000 < W) = false := decide_eq_false (by omega)
      clear hfd hval hfit hE
      go_enter Try.func10, Try.ntmps10
      go_wp2_with fail
      refine hv.mono ?_
      rintro e w2 ⟨rfl, hb2⟩
      have hbw2 := hb0.trans (hb2.mono hb0.size)
      go_wp2_with fail
      refine (hwd _ hbw2).mono ?_
      rintro e w3 ⟨a3, rfl, hs3, hb3⟩
      go_wp2_with fail
      refine (hft _ _ hs3).mono ?_
      rintro e w4 ⟨rfl, rfl⟩
      go_wp2_with (with_reducible refine store_all 31 _ _ 31 _ _ [.slice none 0 0, .slice none 0 0] _ (size_tcert _ _) ((hx0.under hb2).under hb3) rfl rfl rfl (Eq.refl 2) (by simp [Value.oneCell']) ?_; intro w7 hx7 hg7 hs7)
      rw [HE.out]
      refine bodyPost_ret (results_cell3 rfl rfl rfl rfl isAgg_tcert (size_tcert _ _) hx7) rfl ⟨none, 0, [], none, 0, none, 0, rfl, ⟨Sl.empty _ _, rfl, fun i h r h1 => by cases h1⟩, Sl.empty _ _, Sl.empty _ _, (hbw2.trans (hb3.mono hbw2.size)).grown hg7 (Nat.le_trans hbw2.size hb3.size) (fun k hk => by cases hk; exact Nat.le_refl _), KindLay.nil _⟩
  · have HE := hide (errT_arg hval)
    have fin : ∀ w2, Below (w.alloc (.cells #[.slice none 0 0, .slice none 0 0] 31)).heap.size (w.alloc (.cells #[.slice none 0 0, .slice none 0 0] 31)) w2 → ∀ w7, w2.grownBy w7 (some w.heap.size) → Below w.heap.size w w7 := fun w2 hb2 w7 hg7 => (hb0.trans (hb2.mono hb0.size)).grown hg7 (Nat.le_trans hb0.size hb2.size) (fun k hk => by cases hk; exact Nat.le_refl _)
    have HD : Hid (validT X = false ∨ validT X = true ∧ decide (W < 1) = true ∨ validT X = true ∧ decide (W < 1) = false ∧ decide (1000 < W) = true) := hide (by
      cases hv : validT X
      · exact .inl rfl
      · by_cases h1 : W < 1
        · exact .inr (.inl ⟨rfl, decide_eq_true h1⟩)
        · exact .inr (.inr ⟨rfl, decide_eq_false h1, decide_eq_true (by
            rcases Int.lt_or_le 1000 W with h | h
            · exact h
            · exact absurd ⟨hv, by omega, h⟩ hval)⟩))
    clear hval hE
    rcases HD.out with h1 | ⟨h1, d1⟩ | ⟨h1, d1, d2⟩ <;> rw [h1] at hv <;> clear h1 HD
    all_goals
      go_enter Try.func10, Try.ntmps10
      go_wp2_with fail
      refine hv.mono ?_
      rintro e w2 ⟨rfl, hb2⟩
      go_wp2_with (with_reducible refine store_all 31 _ _ 31 _ _ [.slice none 0 0, .slice none 0 0] _ (size_tcert _ _) (hx0.under hb2) rfl rfl rfl (Eq.refl 2) (by simp [Value.oneCell']) ?_; intro w7 hx7 hg7 hs7)
      rw [HE.out]
      refine bodyPost_ret (results_cell3 rfl rfl rfl rfl isAgg_tcert (size_tcert _ _) hx7) rfl ⟨none, 0, [], none, 0, none, 0, rfl, ⟨Sl.empty _ _, rfl, fun i h r h1 => by cases h1⟩, Sl.empty _ _, Sl.empty _ _, fin _ hb2 _ hg7, KindLay.nil _⟩

set_option maxRecDepth 100000 in
set_option maxHeartbeats 1000000 in
theorem tab_Layout_N (X : List (List (List UInt8))) (hs : List Hd) (a : Option Addr) (n c : Nat) (W : Int) (L T : Nat → Nat) (w : World) (hp : Pg3 w a n c hs X) (hE : errT X W = 0) (hS : Sol (colW X) (nCols X) X.length W L T 1) :
    Calls Try.prog 10 #[.slice a n c, .int .i64 W] w (GivesLayN (pageT (colW X) X (nCols X) T) (chain (nCols X) T (nCols X) 1) (leastL (nCols X) L) 0 w) := by
  obtain rfl := hp.n_eq
  obtain ⟨HX, hW1, hW2, hfit⟩ := errT_zero hE
  have hb0 := blo w (.cells #[.slice none 0 0, .slice none 0 0] 31)
  have hx0 := Box.new w 31 #[.slice none 0 0, .slice none 0 0]
  have hv := tab_valid X hs a X.length c _ (hp.below hb0)
  rw [HX.back] at hv
  have hwd := fun w' h => tab_widths X hs a X.length c w' (hp.below h) HX.row HX.r1 HX.c2
  have hft := fun w' a' h => tab_fits (widthsL X) W a' (nCols X) (nCols X) w' h (by rw [widthsL_len]; exact HX.c1) HX.le_w
  have hfd : decide ((wAt (widthsL X) 0 : Int) + (great ((widthsL X).drop 1) : Int) ≤ W) = true := decide_eq_true ((fits_dec HX.c1).2 hfit)
  rw [hfd] at hft
  have hsv := fun w' a' h => tab_solve (widthsL X) a' (nCols X) (nCols X) X.length W L T w' h (by rw [widthsL_len]; exact HX.c1) (by rw [widthsL_len]; exact HX.c2) HX.r2 HX.le_w (by rw [widthsL_len]; exact ((fit_w HX.c1).2 hfit).cols) (by rw [widthsL_len]; exact hS.widths (fun i hi => (wAt_widths X i hi).symm))
  rw [widthsL_len] at hsv
  have hLN : ∀ (j k : Nat) (aw : Option Addr) (w' : World), Below w.heap.size w w' → Sl w' 1 aw (nCols X) (nCols X) ((ints (widthsL X)).map I64) → j ≤ k → k ≤ nCols X → Calls Try.prog 31 #[.slice a X.length c, .slice aw (nCols X) (nCols X), .int .i64 (j : Int), .int .i64 (k : Int)] w' fun e w2 => ∃ a' c' hs', e = .returned (.slice a' X.length c') ∧ OPage w2 w'.heap.size a' c' hs' (linesL (colW X) X j (k - j)) ∧ Below w'.heap.size w' w2 := fun j k aw w' h hw hjk hk =>
    tab_lines X hs a X.length c aw (nCols X) (nCols X) j k w' (hp.below h) HX.row HX.r2 HX.c1 HX.c2 HX.le hw hjk hk
  have d1 : decide (W < 1) = false := decide_eq_false (by omega)
  have d2 : decide (1000 < W) = false := decide_eq_false (by omega)
  have hn1 := HX.c1
  have hn2 := HX.c2
  have hr2 := HX.r2
  have HGT := hide hS.gt
  have HLE := hide hS.le
  have HPE : Hid (pageT (colW X) X (nCols X) T = if nCols X = 1 then linesL (colW X) X 1 0 else pageG (colW X) X (nCols X) T (nCols X) 1) := hide rfl
  have HLL : Hid (∀ j m, (linesL (colW X) X j m).length = X.length) := hide (fun j m => linesL_len _ _ _ _)
  have HPS : Hid (∀ k, 1 ≤ k → k < nCols X → pageG (colW X) X (nCols X) T (nCols X) k = (if 1 < k then [[]] else []) ++ (linesL (colW X) X k (T k - k) ++ pageG (colW X) X (nCols X) T (nCols X) (T k))) := hide (fun k h1 h2 => pageG_step hS.gt h1 h2)
  have HPL : Hid ((pageG (colW X) X (nCols X) T (nCols X) 1).length ≤ 200) := hide (by
    have h1 := pageG_len (f := colW X) (X := X) (n := nCols X) (T := T) (nCols X) 1
    have h2 : nCols X * (X.length + 1) ≤ 12 * 13 := Nat.mul_le_mul hn2 (by omega)
    omega)
  clear hfd hE hS hfit HX hp
  generalize pageT (colW X) X (nCols X) T = PT at *
  generalize colW X = f at *
  generalize nCols X = N at *
  generalize widthsL X = ws at *
  obtain ⟨F, HF⟩ : ∃ F, Hid (chain N T N 1 = F) := ⟨_, hide rfl⟩
  have hcl := chain_len (n := N) (T := T) N 1
  rw [HF.out] at hsv hcl ⊢
  go_enter Try.func10, Try.ntmps10
  go_wp2_with fail
  refine hv.mono ?_
  rintro e w2 ⟨rfl, hb2⟩
  have hbw2 := hb0.trans (hb2.mono hb0.size)
  go_wp2_with fail
  refine (hwd _ hbw2).mono ?_
  rintro e w3 ⟨a3, rfl, hs3, hb3⟩
  have hbw3 := hbw2.trans (hb3.mono hbw2.size)
  go_wp2_with fail
  refine (hft _ _ hs3).mono ?_
  rintro e w4 ⟨rfl, rfl⟩
  go_wp2_with fail
  refine (hsv _ _ hs3).mono ?_
  rintro e w4 ⟨a4, c4, rfl, hs4, ha4, hb4⟩
  have hbw4 := hbw3.trans (hb4.mono hbw3.size)
  clear hv hwd hft hsv
  go_wp2_with (with_reducible refine hold_st ?_)
  refine hide ?_
  refine store_all 62 _ _ 62 w4.heap.size _ (bestL N L) (.agg (bestL N L).toArray) (size_best N L) (Box.new w4 _ _) rfl rfl rfl (by rw [bestL_len]; rfl) (bestL_one N L) ?_
  intro w5 hx5 hg5 hs5
  go_wp2_with (with_reducible refine cut_local 48 62 3 13 _ _ _ Try.underlying62 size_int w4.heap.size rfl _ _ _ _ 1 (N + 1) rfl rfl rfl (by omega) (by omega) (by omega) (by omega) ?_)
  have hb5 : Below w4.heap.size w4 w5 := (blo w4 _).grown hg5 (by simp) (fun k hk => by cases hk; exact Nat.le_refl _)
  refine (clone_i (ints (leastL N L)) _ N _ _ (best_sl hx5 (by omega)) (by omega)).mono ?_
  rintro e w6 ⟨a6, c6, rfl, ho6, hb6⟩
  have hb56 := hb5.trans (hb6.mono hb5.size)
  have hbw6 := hbw4.trans (hb56.mono hbw4.size)
  have hs36 := (hs3.below hb4).below hb56
  have hs46 := hs4.below hb56
  have hk46 := (KindOf.of ha4).below hb56
  have hk6 := KindOf.own ho6
  have hs6 := ho6.sl
  have hx06 := (((hx0.under hb2).under hb3).under hb4).under hb56
  have hbA := blo w6 (.cells #[.slice a4 F.length c4, .slice a6 N c6] 31)
  have hx9A := Box.new w6 31 #[.slice a4 F.length c4, .slice a6 N c6]
  have hlt3 : w.heap.size < w3.heap.size := (((hx0.under hb2).under hb3)).lt
  have hlt5 : w.heap.size < w5.heap.size := ((((hx0.under hb2).under hb3).under hb4).under hb5).lt
  have ha6 : ∀ q, a6 = some q → w5.heap.size ≤ q.block := fun q hq => by rw [hq] at ho6; exact ho6.base.1
  clear ho6 hs3 hs4 hx0 hb0 hbw2 hbw3 hbw4 hb2 hb3 hb4 hb5 hb6 hb56 hx5 hg5 hs5
  go_upto_region 9 with fail
  have hbwA := hbw6.trans (hbA.mono hbw6.size)
  have hs3A := hs36.below hbA
  have hs4A := hs46.below hbA
  have hk4A := hk46.below hbA
  have hk6A := hk6.below hbA
  have hs6A := hs6.below hbA
  have hx0A := hx06.under hbA
  have hne4 : ∀ q, a4 = some q → some q.block ≠ some w.heap.size := fun q hq e => by
    have h1 := (ha4 q hq).1
    have h2 : q.block = w.heap.size := by simpa using e
    omega
  have hne6 : ∀ q, a6 = some q → some q.block ≠ some w.heap.size := fun q hq e => by
    have h1 := ha6 q hq
    have h2 : q.block = w.heap.size := by simpa using e
    omega
  clear hs36 hs46 hs6 hk46 hk6 hx06 hbw6
  generalize w6.alloc (.cells #[.slice a4 F.length c4, .slice a6 N c6] 31) = wA at *
  by_cases hN1 : N = 1
  · subst hN1
    go_wp2_with fail
    have hL1 : ∀ w', Below wA.heap.size wA w' → Calls Try.prog 31 #[.slice a X.length c, .slice a3 1 1, .int .i64 1, .int .i64 1] w' fun e w2 => ∃ a' c' hs', e = .returned (.slice a' X.length c') ∧ OPage w2 w'.heap.size a' c' hs' (linesL f X 1 0) ∧ Below w'.heap.size w' w2 := fun w' h => hLN 1 1 a3 w' (hbwA.trans (h.mono hbwA.size)) (hs3A.below h) (by omega) (by omega)
    refine wp_region_free 5 [⟨0, 53, [53], fun vs _ => vs = [.slice a X.length c]⟩, ⟨1, 54, [54], fun vs _ => vs = [.slice a3 1 1]⟩, ⟨2, 55, [55], fun vs w' => ∃ a' c' hs', vs = [.slice a' X.length c'] ∧ OPage w' wA.heap.size a' c' hs' (linesL f X 1 0)⟩, ⟨3, 56, [56], fun vs _ => vs = [.agg #[.slice a4 F.length c4, .slice a6 1 c6]]⟩, ⟨4, 4, [4], fun vs w' => ∃ a' c' hs', vs = [.slice a' X.length c'] ∧ OPage w' wA.heap.size a' c' hs' (linesL f X 1 0)⟩] (by kernel_rfl) (by kernel_rfl) ?_ ?_ ?_
    · simp only [All]
      refine ⟨fun _ _ _ _ h => h, fun _ _ _ _ h => h, ?_, fun _ _ _ _ h => h, ?_, trivial⟩
      · rintro vs w w' hb ⟨a', c', hs', h1, h2⟩
        exact ⟨a', c', hs', h1, h2.below hb⟩
      · rintro vs w w' hb ⟨a', c', hs', h1, h2⟩
        exact ⟨a', c', hs', h1, h2.below hb⟩
    · simp only [All]
      refine ⟨?_, ?_, ?_, ?_, ?_, trivial⟩
      · intro o ho a' w' hb hfr hdep
        obtain rfl := Option.some.inj ho
        have g0 : a'.tmps[0]?.getD undef = .slice a X.length c := by have h := hfr 0 (by kernel_rfl); simpa using h
        clear ho hfr hdep
        go_wp2_with fail
        exact ⟨rfl, _, rfl, Below.refl _ _, rfl⟩
      · intro o ho a' w' hb hfr hdep
        obtain rfl := Option.some.inj ho
        have g7 : a'.tmps[7]?.getD undef = .slice a3 1 1 := by have h := hfr 7 (by kernel_rfl); simpa using h
        clear ho hfr hdep
        go_wp2_with fail
        exact ⟨rfl, _, rfl, Below.refl _ _, rfl⟩
      · intro o ho a' w' hb hfr hdep
        obtain rfl := Option.some.inj ho
        have g53 : a'.tmps[53]?.getD undef = .slice a X.length c := by have h := hdep 0 _ rfl (by kernel_rfl); simpa using h
        have g54 : a'.tmps[54]?.getD undef = .slice a3 1 1 := by have h := hdep 1 _ rfl (by kernel_rfl); simpa using h
        clear ho hfr hdep
        go_wp2_with fail
        refine (hL1 _ hb).mono ?_
        rintro e w8 ⟨a9, c9, hs9, rfl, ho9, hb9⟩
        go_wp2_with fail
        exact ⟨rfl, _, rfl, hb9, a9, c9, hs9, rfl, ho9.mono hb.size⟩
      · intro o ho a' w' hb hfr hdep
        obtain rfl := Option.some.inj ho
        have g11 : a'.tmps[11]?.getD undef = .pointer (some ⟨w6.heap.size, 0, none⟩) := by have h := hfr 11 (by kernel_rfl); simpa using h
        clear ho hfr hdep
        refine load_box 56 31 _ 31 _ 0 _ [.slice a4 F.length c4, .slice a6 1 c6] isAgg_tcert (size_tcert _ _) (hx9A.under hb) (by show a'.tmps.getD 11 undef = _; simpa using g11) (fun j u hj => by rw [Nat.zero_add]; exact hj) ?_
        go_wp2_with fail
        exact ⟨rfl, _, rfl, Below.refl _ _, rfl⟩
      · intro o ho a' w' hb hfr hdep
        obtain rfl := Option.some.inj ho
        obtain ⟨a9, c9, hs9, g55, ho9⟩ := hdep 2 _ rfl (by kernel_rfl)
        simp at g55
        clear ho hfr hdep
        go_wp2_with fail
        exact ⟨rfl, _, rfl, Below.refl _ _, a9, c9, hs9, rfl, ho9⟩
    · intro g w8 hb8 hp
      obtain ⟨a9, c9, hs9, q4, ho9⟩ := hp 4 _ rfl
      have pc := hp 3 _ rfl
      clear hp
      simp at pc q4
      simp only [List.drop_succ_cons, List.drop_zero, List.map_cons, List.map_nil, putAll, Act.put, List.setIfInBounds_toArray, List.set_cons_succ, List.set_cons_zero, q4, pc]
      have hx8 := hx0A.under hb8
      go_wp2_with (with_reducible refine store_all 31 _ _ 31 _ _ [.slice a4 F.length c4, .slice a6 1 c6] _ (size_tcert _ _) hx8 rfl rfl rfl (Eq.refl 2) (by simp [Value.oneCell']) ?_; intro w7 hx7 hg7 hs7)
      have hbw := hbwA.trans (hb8.mono hbwA.size)
      have hpo := (ho9.kept hg7 (fun q hq => by
        rw [hq] at ho9; have h1 := ho9.top.base.1; have h3 := hx0A.lt; simp; omega) (fun i x q hx hq => by
        obtain ⟨r, h1⟩ := ho9.row_own hx
        rw [hq] at h1; have h1 := h1.base.1; have h3 := hx0A.lt; simp; omega))
      have hpg := hpo.pg
      rw [HPE.out, if_pos (by trivial)]
      refine bodyPost_ret (results_cell3 rfl rfl rfl rfl isAgg_tcert (size_tcert _ _) hx7) rfl ⟨a9, c9, hs9, a4, c4, a6, c6, ?_, hpg, (hs4A.below hb8).grown hg7 hne4, ?_, hbw.grown hg7 hbw.size (fun k hk => by cases hk; exact Nat.le_refl _), hpo.kinds ((hk4A.below hb8).grown hg7 hne4) ((hk6A.below hb8).grown hg7 hne6)⟩
      · rw [linesL_len, leastL_len]; rfl
      · rw [leastL_len]; exact (hs6A.below hb8).grown hg7 hne6
  · have e1 : ((N : Int) == 1) = false := beq_eq_false_iff_ne.2 (by omega)
    go_wp2_with fail
    go_loopg [12, 59] (N - 1) (fun g p i' w' => ∃ (i k : Nat) (ap : Option Addr) (cp : Nat) (hs1 : List Hd) (pre : List (List UInt8)), 1 ≤ k ∧ k ≤ N ∧ i ≤ F.length ∧ g = N - k ∧ Hid (F.drop i = chain N T N k) ∧ Hid ((i = 0 → k = 1) ∧ (0 < i → 1 < k)) ∧ pre ++ pageG f X N T N k = pageG f X N T N 1 ∧ p = .slice ap pre.length cp ∧ i' = .int .i64 (i : Int)
      ∧ OPage w' wA.heap.size ap cp hs1 pre ∧ Below wA.heap.size wA w')
    case atStart => exact ⟨0, 1, none, 0, [], [], by omega, by omega, by omega, rfl, hide (by rw [List.drop_zero, HF.out]), hide ⟨fun _ => rfl, fun h => by omega⟩, rfl, rfl, rfl, OPage.nil _ _, Below.refl _ _⟩
    case round =>
      obtain ⟨i, k, ap, cp, hs1, pre, hk1, hkN, hiF, hg, HD, HI, hpr, rfl, rfl, hop, hbk⟩ := hrel
      have HG := hide hg
      have HPR := hide hpr
      have hprl : pre.length + (pageG f X N T N k).length ≤ 200 := by rw [← List.length_append, HPR.out]; exact HPL.out
      clear hg hpr
      by_cases hkl : k < N
      · have HST := hide (chain_step HGT.out hk1 hkl)
        have HPG := hide (HPS.out k hk1 hkl)
        have hTg := HGT.out k hk1 hkl
        have hTl := HLE.out k hk1 hkl
        obtain ⟨t, Ht⟩ : ∃ t, Hid (T k = t) := ⟨_, hide rfl⟩
        rw [Ht.out] at hTg hTl HST HPG
        have hFi : F[i]? = some k := by
          have h := HD.out
          rw [HST.out] at h
          have h2 : (F.drop i)[0]? = some k := by rw [h]; rfl
          rw [List.getElem?_drop, Nat.add_zero] at h2; exact h2
        have hil : i < F.length := (List.getElem?_eq_some_iff.1 hFi).1
        have HD2 : Hid (F.drop (i + 1) = chain N T N t) := hide (by
          have h := HD.out
          rw [HST.out] at h
          rw [← List.drop_drop, h]; rfl)
        have HFI := hide (ints_get hFi)
        have hs4k := hs4A.below hbk
        clear hFi
        obtain ⟨wy, rfl⟩ : ∃ wy : World, wy = wr := ⟨_, rfl⟩
        go_upto_if 69 with (with_reducible refine idx_i 62 _ _ _ _ _ _ rfl hs4k _ _ i rfl rfl _ HFI.out ?_; intro b o hcell hbo)
        clear hcell hbo
        go_cut [15] (fun x w' => x = .int .i64 (t : Int) ∧ wy = w')
        case first =>
          by_cases htN : t < N
          · have hF2 : F[i + 1]? = some t := by
              have h := HD2.out
              rw [chain_step HGT.out (by omega) htN] at h
              have h2 : (F.drop (i + 1))[0]? = some t := by rw [h]; rfl
              rw [List.getElem?_drop, Nat.add_zero] at h2; exact h2
            have hil2 : i + 1 < F.length := (List.getElem?_eq_some_iff.1 hF2).1
            have HFI2 := hide (ints_get hF2)
            have d5 : decide ((i : Int) + 1 < (F.length : Int)) = true := decide_eq_true (by omega)
            clear hF2
            go_wp2_with (with_reducible refine idx_i 73 _ _ _ _ _ _ rfl hs4k _ _ (i + 1) rfl (by omega) _ HFI2.out ?_; intro b o hcell hbo)
            go_meet
            exact ⟨rfl, rfl⟩
          · have hil2 : F.length ≤ i + 1 := by
              have h := HD2.out
              rw [chain_stop htN] at h
              exact List.drop_eq_nil_iff.1 h
            have d5 : decide ((i : Int) + 1 < (F.length : Int)) = false := decide_eq_false (by omega)
            have HNT : Hid (N = t) := hide (by omega)
            go_wp2_with fail
            go_meet
            exact ⟨by rw [HNT.out], rfl⟩
        case rest =>
          obtain ⟨rfl, rfl⟩ := hcut
          go_upto_if 76 with fail
          go_cut [12] (fun p w' => ∃ (apz : Option Addr) (cpz : Nat) (hsz : List Hd) (pz : List (List UInt8)), p = .slice apz pz.length cpz ∧ Hid (pz = pre ++ (if 1 < k then [[]] else [])) ∧ OPage w' wA.heap.size apz cpz hsz pz ∧ Below wA.heap.size wA w')
          case first =>
            rcases Nat.eq_zero_or_pos i with hi0 | hi0
            · have hk1 : ¬ 1 < k := by have := HI.out.1 hi0; omega
              subst hi0
              go_wp2_with fail
              go_meet
              exact ⟨ap, cp, hs1, pre, rfl, hide (by rw [if_neg hk1, List.append_nil]), hop, hbk⟩
            · have hk1 : 1 < k := HI.out.2 hi0
              have d8 : decide (0 < (i : Int)) = true := decide_eq_true (by omega)
              go_wp2_with (at_builtin; refine app_pn rfl _ _ rfl wA wA.heap.size _ _ _ hs1 pre rfl rfl hop rfl (by omega) hbk.size hbk ?_; intro a5 c5 w5 ho5 hgr5 hb5)
              go_meet
              exact ⟨a5, c5, _, _, by rw [List.length_append]; rfl, hide (by rw [if_pos hk1]), ho5, hb5⟩
          case rest =>
            obtain ⟨apz, cpz, hsz, pz, rfl, HPZ, hopz, hbz⟩ := hcut
            have hbz1 := hbwA.trans (hbz.mono hbwA.size)
            have HPZL : pz.length ≤ 201 := by rw [HPZ.out, List.length_append]; split <;> simp <;> omega
            have hcall := hLN k t a3 _ hbz1 (hs3A.below hbz) (by omega) (by omega)
            clear hop
            go_wp2_with fail
            refine hcall.mono ?_
            rintro e w9 ⟨a9, c9, hs9, rfl, ho9, hb9⟩
            have hb19 := hbz.trans (hb9.mono hbz.size)
            go_wp2_with (at_builtin; refine app_pp rfl _ _ rfl wA wA.heap.size _ _ _ hsz pz rfl rfl (hopz.below hb9) _ _ _ hs9 _ (HLL.out _ _) rfl (ho9.mono hbz.size) (by omega) hb19.size hb19 ?_; intro a5 c5 w5 ho5 hgr5 hb5)
            go_roundg (N - t)
            case measure => have := HG.out; omega
            case rel =>
              refine ⟨i + 1, t, a5, c5, hsz ++ hs9, pz ++ linesL f X k (t - k), by omega, by omega, by omega, rfl, HD2, hide ⟨fun h => by omega, fun _ => by omega⟩, ?_, ?_, by go_num, ho5, hb5⟩
              · rw [← HPR.out, HPG.out, HPZ.out, List.append_assoc, List.append_assoc]
              · rw [List.length_append, HLL.out]
      · have hkN' := hkl
        obtain rfl : N = k := by omega
        have hiF2 : F.length ≤ i := by
          have h := HD.out
          rw [chain_stop hkN'] at h
          exact List.drop_eq_nil_iff.1 h
        obtain rfl : F.length = i := by omega
        go_wp2_with fail
        refine wp_region_free 3 [⟨0, 88, [88], fun vs _ => vs = [.slice ap pre.length cp]⟩, ⟨1, 89, [89], fun vs _ => vs = [.agg #[.slice a4 F.length c4, .slice a6 N c6]]⟩, ⟨2, 4, [4], fun vs _ => vs = [.slice ap pre.length cp]⟩] (by kernel_rfl) (by kernel_rfl) ?_ ?_ ?_
        · simp only [All]
          refine ⟨fun _ _ _ _ h => h, fun _ _ _ _ h => h, fun _ _ _ _ h => h, trivial⟩
        · simp only [All]
          refine ⟨?_, ?_, ?_, trivial⟩
          · intro o ho a' w' hb hfr hdep
            obtain rfl := Option.some.inj ho
            have g12 : a'.tmps[12]?.getD undef = .slice ap pre.length cp := by have h := hfr 12 (by kernel_rfl); simpa using h
            clear ho hfr hdep
            go_wp2_with fail
            exact ⟨rfl, _, rfl, Below.refl _ _, rfl⟩
          · intro o ho a' w' hb hfr hdep
            obtain rfl := Option.some.inj ho
            have g11 : a'.tmps[11]?.getD undef = .pointer (some ⟨w6.heap.size, 0, none⟩) := by have h := hfr 11 (by kernel_rfl); simpa using h
            clear ho hfr hdep
            refine load_box 89 31 _ 31 _ 0 _ [.slice a4 F.length c4, .slice a6 N c6] isAgg_tcert (size_tcert _ _) ((hx9A.under hbk).under hb) (by show a'.tmps.getD 11 undef = _; simpa using g11) (fun j u hj => by rw [Nat.zero_add]; exact hj) ?_
            go_wp2_with fail
            exact ⟨rfl, _, rfl, Below.refl _ _, rfl⟩
          · intro o ho a' w' hb hfr hdep
            obtain rfl := Option.some.inj ho
            have g88 : a'.tmps[88]?.getD undef = .slice ap pre.length cp := by have h := hdep 0 _ rfl (by kernel_rfl); simpa using h
            clear ho hfr hdep
            go_wp2_with fail
            exact ⟨rfl, _, rfl, Below.refl _ _, rfl⟩
        · intro g w8 hb8 hp
          have q4 := hp 2 _ rfl
          have pc := hp 1 _ rfl
          clear hp
          simp at pc q4
          simp only [List.drop_succ_cons, List.drop_zero, List.map_cons, List.map_nil, putAll, Act.put, List.setIfInBounds_toArray, List.set_cons_succ, List.set_cons_zero, q4, pc]
          have hx8 := (hx0A.under hbk).under hb8
          go_wp2_with (with_reducible refine store_all 31 _ _ 31 _ _ [.slice a4 F.length c4, .slice a6 N c6] _ (size_tcert _ _) hx8 rfl rfl rfl (Eq.refl 2) (by simp [Value.oneCell']) ?_; intro w7 hx7 hg7 hs7)
          have hbw := (hbwA.trans (hbk.mono hbwA.size)).trans (hb8.mono (Nat.le_trans hbwA.size hbk.size))
          have ho8 := hop.below hb8
          have hlt := hx0A.lt
          have hpo := (ho8.kept hg7 (fun q hq => by
            rw [hq] at ho8; have h1 := ho8.top.base.1; simp; omega) (fun i x q hx hq => by
            obtain ⟨r, h1⟩ := ho8.row_own hx
            rw [hq] at h1; have h1 := h1.base.1; simp; omega))
          have hpg := hpo.pg
          have hpe : pre = pageG f X N T N 1 := by have := HPR.out; rw [pageG_stop hkN', List.append_nil] at this; exact this
          rw [HPE.out, if_neg hN1, ← hpe]
          refine bodyPost_ret (results_cell3 rfl rfl rfl rfl isAgg_tcert (size_tcert _ _) hx7) rfl ⟨ap, cp, hs1, a4, c4, a6, c6, ?_, hpg, ((hs4A.below hbk).below hb8).grown hg7 hne4, ?_, hbw.grown hg7 hbw.size (fun k hk => by cases hk; exact Nat.le_refl _), hpo.kinds (((hk4A.below hbk).below hb8).grown hg7 hne4) (((hk6A.below hbk).below hb8).grown hg7 hne6)⟩
          · rw [leastL_len]; rfl
          · rw [leastL_len]; exact ((hs6A.below hbk).below hb8).grown hg7 hne6
theorem tab_Layout_no (X : List (List (List UInt8))) (hs : List Hd) (a : Option Addr) (n c : Nat) (W : Int) (w : World) (hp : Pg3 w a n c hs X) (hE : errT X W ≠ 0) :
    Calls Try.prog 10 #[.slice a n c, .int .i64 W] w (GivesLay [] [] [] (errT X W) w) := (tab_Layout_no_N X hs a n c W w hp hE).mono GivesLay.of
theorem tab_Layout (X : List (List (List UInt8))) (hs : List Hd) (a : Option Addr) (n c : Nat) (W : Int) (L T : Nat → Nat) (w : World) (hp : Pg3 w a n c hs X) (hE : errT X W = 0) (hS : Sol (colW X) (nCols X) X.length W L T 1) :
    Calls Try.prog 10 #[.slice a n c, .int .i64 W] w (GivesLay (pageT (colW X) X (nCols X) T) (chain (nCols X) T (nCols X) 1) (leastL (nCols X) L) 0 w) := (tab_Layout_N X hs a n c W L T w hp hE hS).mono GivesLay.of
end Go.Proofs.Ytmjkhmebpciopaa
end

/- the text Eq -/
section
/- slices.Equal on bytes, slices.EqualFunc on pages. -/
namespace Go.Proofs.Ytmjkhmebpciopaa
open Go.RowKit Go.Dx


set_option maxHeartbeats 400000 in
theorem eq_bytes (l1 l2 : List UInt8) (a1 a2 : Option Addr) (n1 n2 c1 c2 : Nat) (w : World) (h1 : Sl w 1 a1 n1 c1 (l1.map B8)) (h2 : Sl w 1 a2 n2 c2 (l2.map B8)) :
    Calls Try.prog 40 #[.slice a1 n1 c1, .slice a2 n2 c2] w (Still (.bool (decide (l1 = l2))) w) := by
  obtain rfl := h1.n_eq
  obtain rfl := h2.n_eq
  have hm1 := Nat.le_trans h1.le h1.cap
  have hm2 := Nat.le_trans h2.le h2.cap
  unfold maxLen at hm1 hm2
  by_cases hlen : l1.length = l2.length
  · have hb := eq_nat hlen
    have hle1 : l1.length ≤ l2.length := by omega
    have hle2 : l2.length ≤ l1.length := by omega
    have HL := hide hlen
    clear hlen
    go_enter Try.func40, Try.ntmps40
    go_wp2
    go_loopg [13] l1.length (fun g i w' => ∃ (k n : Nat), k ≤ l1.length ∧ g = l1.length - k ∧ l1.take k = l2.take k ∧ i = .int .i64 k ∧ w' = w.drewN n)
    case atStart => exact ⟨0, 0, by omega, by omega, rfl, rfl, rfl⟩
    case round =>
      obtain ⟨k, nq, hk, hg, ht, rfl, rfl⟩ := hrel
      have HG := hide hg
      have HT := hide ht
      clear hg ht
      by_cases hkl : k < l1.length
      · obtain ⟨b1, o1, rfl, hb1, hc1⟩ := h1.ex (by simp; omega)
        obtain ⟨b2, o2, rfl, hb2, hc2⟩ := h2.ex (by simp; omega)
        obtain ⟨x, hx⟩ : ∃ x, l1[k]? = some x := ⟨l1[k], by simp [hkl]⟩
        obtain ⟨y, hy⟩ : ∃ y, l2[k]? = some y := ⟨l2[k]'(by omega), by simp⟩
        have hx1 : w.cell? ⟨b1, o1 + k, none⟩ = some (.int .u8 (x.toNat : Int)) := hc1 k _ (by rw [List.getElem?_map, hx]; rfl)
        have hy1 : w.cell? ⟨b2, o2 + k, none⟩ = some (.int .u8 (y.toNat : Int)) := hc2 k _ (by rw [List.getElem?_map, hy]; rfl)
        have HX := hide (same_step hx hy HT.out)
        clear hc1 hc2 hx hy
        by_cases hxy : x = y
        · have HE := hide (HX.out.1 hxy)
          subst hxy
          have hn : ((x.toNat : Int) != (x.toNat : Int)) = false := by simp
          go_wp2
          go_quiet (fail)
          go_wp2
          go_roundg (l1.length - (k + 1))
          case measure => have := HG.out; omega
          case rel => exact ⟨k + 1, _, by omega, rfl, HE.out, by go_num, by first | rfl | exact World.drewN_drewN _ _ _⟩
        · have hn : ((x.toNat : Int) != (y.toNat : Int)) = true := neq_nat (fun e => hxy (UInt8.toNat_inj.1 e))
          have HE := hide (ne_of_take (fun e => hxy (HX.out.2 e)))
          have hne : Value.bool (decide (l1 = l2)) = .bool false := by rw [decide_eq_false HE.out]
          have HN := hide hne
          clear hne hxy
          go_wp2
          go_quiet (fail)
          go_wp2
          go_ret
          exact ⟨by rw [HN.out]; rfl, _, World.drewN_drewN _ _ _⟩
      · obtain rfl : k = l1.length := by omega
        go_wp2
        go_ret
        have : l1 = l2 := by have := HT.out; rw [List.take_length, List.take_of_length_le (by omega)] at this; exact this
        exact ⟨by rw [decide_eq_true this]; rfl, _, rfl⟩
  · have hb := neq_nat hlen
    have HN := hide (decide_eq_false (fun e : l1 = l2 => hlen (by rw [e])))
    clear hlen
    go_enter Try.func40, Try.ntmps40
    go_wp2
    go_ret
    exact ⟨by rw [HN.out]; rfl, 0, rfl⟩




theorem cuthi_p {w : World} {ops : Array Oper} {rest : List Oper} {act : Act} {Q : Exit → Act → World → Prop} {ty : TypeId} {pos : String} {after : Array Edge} (d : Nat) (x hi : Operand) (a : Option Addr) (n c : Nat) (hs : List Hd) (hx : act.eval x = .slice a n c) (ht : Sl w 1 a n c (hs.map hv)) (ku : IntKind) (uv : Int) (u : Nat) (hu : act.eval hi = .int ku uv)
    (huv : uv = (u : Int)) (hun : u ≤ n) (hK : Sl w 1 a u c ((hs.take u).map hv) → wpList Try.prog ops Q rest (act.put (some d) (.slice a u c)) w) :
    wpList Try.prog ops Q ({ dst := some d, op := .slice 29 x none (some hi) none, type := ty, pos := pos, after := after, guard := none } :: rest) act w :=
  cut_hi d 29 x hi 47 Try.underlying29 1 size_row a n c _ hx ht ku uv u hu huv hun (fun h => hK (by rw [Nat.mul_one, ← List.map_take] at h; exact h))

set_option maxHeartbeats 400000 in
theorem eqf_pages (p q : List (List UInt8)) (h1 h2 : List Hd) (a1 a2 : Option Addr) (n1 n2 c1 c2 : Nat) (w : World) (hp : Pg w a1 n1 c1 h1 p) (hq : Pg w a2 n2 c2 h2 q) :
    Calls Try.prog 39 #[.slice a1 n1 c1, .slice a2 n2 c2, fnv 40] w fun e w' => e = .returned (.bool (decide (p = q))) ∧ Below w.heap.size w w' := by
  unfold fnv
  obtain rfl := hp.n_eq
  obtain rfl := hq.n_eq
  have hm1 := Nat.le_trans hp.top.le hp.top.cap
  have hm2 := Nat.le_trans hq.top.le hq.top.cap
  unfold maxLen at hm1 hm2
  by_cases hlen : p.length = q.length
  · have hb := eq_nat hlen
    have hle1 : p.length ≤ q.length := by omega
    have hle2 : q.length ≤ p.length := by omega
    have HL := hide hlen
    clear hlen
    go_enter Try.func39, Try.ntmps39
    go_wp2_with fail
    go_loopg [17] p.length (fun g i w' => ∃ (k : Nat), k ≤ p.length ∧ g = p.length - k ∧ p.take k = q.take k ∧ i = .int .i64 k ∧ Below w.heap.size w w')
    case atStart => exact ⟨0, by omega, by omega, rfl, rfl, Below.refl _ _⟩
    case round =>
      obtain ⟨k, hk, hg, ht, rfl, hbk⟩ := hrel
      have HG := hide hg
      have HT := hide ht
      clear hg ht
      by_cases hkl : k < p.length
      · obtain ⟨x, hx⟩ : ∃ x, p[k]? = some x := ⟨p[k], by simp [hkl]⟩
        obtain ⟨y, hy⟩ : ∃ y, q[k]? = some y := ⟨q[k]'(by omega), by simp⟩
        obtain ⟨ax, cx, hux, hsx⟩ := hp.get hx
        obtain ⟨ay, cy, huy, hsy⟩ := hq.get hy
        have HX := hide (same_step' hx hy HT.out)
        have HUX := hide hux
        have HUY := hide huy
        have hcall := (eq_bytes x y _ _ _ _ _ _ wr (hsx.below hbk) (hsy.below hbk)).mono (R' := fun e w' => e = .returned (.bool (decide (x = y))) ∧ Below wr.heap.size wr w') (fun e w' ⟨g1, m, g2⟩ => ⟨g1, g2 ▸ Still.below m⟩)
        have ht1 := hp.top.below hbk
        have ht2 := hq.top.below hbk
        clear hx hy hux huy
        by_cases hxy : x = y
        · have HE := hide (HX.out.1 hxy)
          rw [decide_eq_true hxy] at hcall
          clear hxy
          go_wp2_with (first
            | (with_reducible refine idx_p 20 _ _ _ _ _ h1 rfl ht1 _ _ k rfl rfl _ HUX.out ?_; intro b o hcell hbo)
            | (with_reducible refine idx_p 24 _ _ _ _ _ h2 rfl ht2 _ _ k rfl rfl _ HUY.out ?_; intro b2 o2 hcell2 hbo2)
            | (go_at_call 40; refine hcall.mono ?_; rintro e w2 ⟨rfl, hb2⟩))
          go_roundg (p.length - (k + 1))
          case measure => have := HG.out; omega
          case rel => exact ⟨k + 1, by omega, rfl, HE.out, by go_num, hbk.trans (hb2.mono hbk.size)⟩
        · have HE := hide (ne_of_take' (fun e => hxy (HX.out.2 e)))
          have HN := hide (decide_eq_false HE.out)
          rw [decide_eq_false hxy] at hcall
          clear hxy
          go_wp2_with (first
            | (with_reducible refine idx_p 20 _ _ _ _ _ h1 rfl ht1 _ _ k rfl rfl _ HUX.out ?_; intro b o hcell hbo)
            | (with_reducible refine idx_p 24 _ _ _ _ _ h2 rfl ht2 _ _ k rfl rfl _ HUY.out ?_; intro b2 o2 hcell2 hbo2)
            | (go_at_call 40; refine hcall.mono ?_; rintro e w2 ⟨rfl, hb2⟩))
          go_ret
          exact ⟨by rw [HN.out]; rfl, hbk.trans (hb2.mono hbk.size)⟩
      · obtain rfl : k = p.length := by omega
        go_wp2
        go_ret
        have : p = q := by have := HT.out; rw [List.take_length, List.take_of_length_le (by omega)] at this; exact this
        exact ⟨by rw [decide_eq_true this]; rfl, hbk⟩
  · have hb := neq_nat hlen
    have HN := hide (decide_eq_false (fun e : p = q => hlen (by rw [e])))
    clear hlen
    go_enter Try.func39, Try.ntmps39
    go_wp2
    go_ret
    exact ⟨by rw [HN.out]; rfl, Below.refl _ _⟩
end Go.Proofs.Ytmjkhmebpciopaa
end

/- the text T18 -/
section
/- Chapter 15: whether two pages, two lists of entries are equal. -/
namespace Go.Proofs.Ytmjkhmebpciopaa
open Go.RowKit Go.Dx

set_option maxRecDepth 100000 in
set_option maxHeartbeats 800000 in
/-- the reference's comparison of pages -/
theorem ref15_SamePage (p q : List (List UInt8)) (h1 h2 : List Hd) (a1 a2 : Option Addr) (n1 n2 c1 c2 : Nat) (w : World) (hp : Pg w a1 n1 c1 h1 p) (hq : Pg w a2 n2 c2 h2 q) :
    Calls Try.prog 12 #[.slice a1 n1 c1, .slice a2 n2 c2] w fun e w' => e = .returned (.bool (decide (p = q))) ∧ Below w.heap.size w w' := by
  obtain rfl := hp.n_eq
  obtain rfl := hq.n_eq
  have hm1 := Nat.le_trans hp.top.le hp.top.cap
  have hm2 := Nat.le_trans hq.top.le hq.top.cap
  unfold maxLen at hm1 hm2
  by_cases hl : p.length = q.length
  case neg =>
    have e1 : ((p.length : Int) != (q.length : Int)) = true := neq_nat hl
    have HN : Hid (decide (p = q) = false) := hide (decide_eq_false (fun h => hl (by rw [h])))
    clear hl
    go_enter Try.func12, Try.ntmps12
    go_wp2_with fail
    go_ret
    exact ⟨by rw [HN.out]; rfl, Below.refl _ _⟩
  have HQL := hide hl
  rw [← hl] at hq hm2 ⊢
  have e1 : ((p.length : Int) != (p.length : Int)) = false := by simp
  clear hl
  go_enter Try.func12, Try.ntmps12
  go_wp2_with fail
  go_loopg [5] p.length (fun g i w' => ∃ (k : Nat), k ≤ p.length ∧ g = p.length - k ∧ p.take k = q.take k ∧ i = .int .i64 k ∧ Below w.heap.size w w')
  case atStart => exact ⟨0, by omega, by omega, by simp, rfl, Below.refl _ _⟩
  case round =>
    obtain ⟨k, hk, hg, ht, rfl, hbk⟩ := hrel
    have HG := hide hg
    have HE := hide ht
    clear hg ht
    by_cases hkl : k < p.length
    · obtain ⟨x, hx⟩ : ∃ x, p[k]? = some x := ⟨p[k], by simp [hkl]⟩
      obtain ⟨y, hy⟩ : ∃ y, q[k]? = some y := ⟨q[k]'(by rw [← HQL.out]; exact hkl), by simp⟩
      obtain ⟨ax, cx, hux, hsx⟩ := hp.get hx
      obtain ⟨ay, cy, huy, hsy⟩ := hq.get hy
      obtain ⟨b1, o1, rfl, hb1, hc1⟩ := hp.top.ex (by rw [List.length_map, hp.len]; omega)
      obtain ⟨b2, o2, rfl, hb2, hc2⟩ := hq.top.ex (by rw [List.length_map, hq.len, ← HQL.out]; omega)
      obtain ⟨B, HB⟩ : ∃ B, Hid (B = decide (x = y)) := ⟨_, hide rfl⟩
      have HX := hide hx
      have HY := hide hy
      have hcx : ∀ w', Below wr.heap.size wr w' → w'.cell? ⟨b1, o1 + k, none⟩ = some (.slice ax x.length cx) := fun w' h => by rw [h.cell (Nat.lt_of_lt_of_le hb1 hbk.size), hbk.cell hb1]; exact hc1 k _ hux
      have hcy : ∀ w', Below wr.heap.size wr w' → w'.cell? ⟨b2, o2 + k, none⟩ = some (.slice ay y.length cy) := fun w' h => by rw [h.cell (Nat.lt_of_lt_of_le hb2 hbk.size), hbk.cell hb2]; exact hc2 k _ huy
      have hcall : ∀ w', Below wr.heap.size wr w' → Calls Try.prog 35 #[.slice ax x.length cx, .slice ay y.length cy] w' fun e w2 => e = .returned (.bool B) ∧ Below w'.heap.size w' w2 := fun w' h => by
        have hbb := hbk.trans (h.mono hbk.size)
        rw [HB.out]
        exact Same_at rfl (hsx.below hbb) (hsy.below hbb)
      clear hx hy hux huy hc1 hc2 hb1 hb2
      go_wp2_with fail
      refine wp_region_free 9 [⟨0, 17, [17], fun vs _ => vs = [.slice (some ⟨b1, o1, none⟩) p.length c1]⟩, ⟨1, 18, [18], fun vs _ => vs = [.int .i64 (k : Int)]⟩, ⟨2, 19, [19], fun vs _ => vs = [.pointer (some ⟨b1, o1 + k, none⟩)]⟩, ⟨3, 20, [20], fun vs _ => vs = [.slice ax x.length cx]⟩, ⟨4, 21, [21], fun vs _ => vs = [.slice (some ⟨b2, o2, none⟩) p.length c2]⟩, ⟨5, 22, [22], fun vs _ => vs = [.int .i64 (k : Int)]⟩, ⟨6, 23, [23], fun vs _ => vs = [.pointer (some ⟨b2, o2 + k, none⟩)]⟩, ⟨7, 24, [24], fun vs _ => vs = [.slice ay y.length cy]⟩, ⟨8, 25, [25], fun vs _ => vs = [.bool B]⟩] (by kernel_rfl) (by kernel_rfl) ?_ ?_ ?_
      · simp only [All]
        refine ⟨fun _ _ _ _ h => h, fun _ _ _ _ h => h, fun _ _ _ _ h => h, fun _ _ _ _ h => h, fun _ _ _ _ h => h, fun _ _ _ _ h => h, fun _ _ _ _ h => h, fun _ _ _ _ h => h, fun _ _ _ _ h => h, trivial⟩
      · simp only [All]
        refine ⟨?_, ?_, ?_, ?_, ?_, ?_, ?_, ?_, ?_, trivial⟩
        · intro o ho a' w' hb hfr hdep
          obtain rfl := Option.some.inj ho
          have g0 : a'.tmps[0]?.getD undef = .slice (some ⟨b1, o1, none⟩) p.length c1 := by have h := hfr 0 (by kernel_rfl); simpa using h
          clear ho hfr hdep
          go_wp2_with fail
          exact ⟨rfl, _, rfl, Below.refl _ _, rfl⟩
        · intro o ho a' w' hb hfr hdep
          obtain rfl := Option.some.inj ho
          have g5 : a'.tmps[5]?.getD undef = .int .i64 (k : Int) := by have h := hfr 5 (by kernel_rfl); simpa using h
          clear ho hfr hdep
          go_wp2_with fail
          exact ⟨rfl, _, rfl, Below.refl _ _, rfl⟩
        · intro o ho a' w' hb hfr hdep
          obtain rfl := Option.some.inj ho
          have g17 : a'.tmps[17]?.getD undef = .slice (some ⟨b1, o1, none⟩) p.length c1 := by have h := hdep 0 _ rfl (by kernel_rfl); simpa using h
          have g18 : a'.tmps[18]?.getD undef = .int .i64 (k : Int) := by have h := hdep 1 _ rfl (by kernel_rfl); simpa using h
          clear ho hfr hdep
          go_wp2_with fail
          exact ⟨rfl, _, rfl, Below.refl _ _, rfl⟩
        · intro o ho a' w' hb hfr hdep
          obtain rfl := Option.some.inj ho
          have g19 : a'.tmps[19]?.getD undef = .pointer (some ⟨b1, o1 + k, none⟩) := by have h := hdep 2 _ rfl (by kernel_rfl); simpa using h
          clear ho hfr hdep
          have hcl := hcx _ hb
          go_wp2_with fail
          exact ⟨rfl, _, rfl, Below.refl _ _, rfl⟩
        · intro o ho a' w' hb hfr hdep
          obtain rfl := Option.some.inj ho
          have g1 : a'.tmps[1]?.getD undef = .slice (some ⟨b2, o2, none⟩) p.length c2 := by have h := hfr 1 (by kernel_rfl); simpa using h
          clear ho hfr hdep
          go_wp2_with fail
          exact ⟨rfl, _, rfl, Below.refl _ _, rfl⟩
        · intro o ho a' w' hb hfr hdep
          obtain rfl := Option.some.inj ho
          have g5 : a'.tmps[5]?.getD undef = .int .i64 (k : Int) := by have h := hfr 5 (by kernel_rfl); simpa using h
          clear ho hfr hdep
          go_wp2_with fail
          exact ⟨rfl, _, rfl, Below.refl _ _, rfl⟩
        · intro o ho a' w' hb hfr hdep
          obtain rfl := Option.some.inj ho
          have g21 : a'.tmps[21]?.getD undef = .slice (some ⟨b2, o2, none⟩) p.length c2 := by have h := hdep 4 _ rfl (by kernel_rfl); simpa using h
          have g22 : a'.tmps[22]?.getD undef = .int .i64 (k : Int) := by have h := hdep 5 _ rfl (by kernel_rfl); simpa using h
          clear ho hfr hdep
          go_wp2_with fail
          exact ⟨rfl, _, rfl, Below.refl _ _, rfl⟩
        · intro o ho a' w' hb hfr hdep
          obtain rfl := Option.some.inj ho
          have g23 : a'.tmps[23]?.getD undef = .pointer (some ⟨b2, o2 + k, none⟩) := by have h := hdep 6 _ rfl (by kernel_rfl); simpa using h
          clear ho hfr hdep
          have hcl := hcy _ hb
          go_wp2_with fail
          exact ⟨rfl, _, rfl, Below.refl _ _, rfl⟩
        · intro o ho a' w' hb hfr hdep
          obtain rfl := Option.some.inj ho
          have g20 : a'.tmps[20]?.getD undef = .slice ax x.length cx := by have h := hdep 3 _ rfl (by kernel_rfl); simpa using h
          have g24 : a'.tmps[24]?.getD undef = .slice ay y.length cy := by have h := hdep 7 _ rfl (by kernel_rfl); simpa using h
          clear ho hfr hdep
          go_wp2_with fail
          refine (hcall _ hb).mono ?_
          rintro e w2 ⟨rfl, h2⟩
          go_wp2_with fail
          exact ⟨rfl, _, rfl, h2, rfl⟩
      · intro g w2 hb2 hp
        have p25 := hp 8 _ rfl
        clear hp
        simp at p25
        simp only [List.drop_succ_cons, List.drop_zero, List.map_cons, List.map_nil, putAll, Act.put, List.setIfInBounds_toArray, List.set_cons_succ, List.set_cons_zero, p25]
        have hbw := hbk.trans (hb2.mono hbk.size)
        by_cases hxy : x = y
        · have hB : B = true := by rw [HB.out]; exact decide_eq_true hxy
          subst hB
          have HN : Hid (∀ q', q' = p.take (k + 1) → p.take (k + 1) = q.take (k + 1)) := hide (fun _ _ => by rw [take_snoc HX.out, take_snoc HY.out, HE.out, hxy])
          clear hxy
          go_wp2_with fail
          go_roundg (p.length - (k + 1))
          case measure => have := HG.out; omega
          case rel => exact ⟨k + 1, by omega, rfl, HN.out _ rfl, by go_num, hbw⟩
        · have hB : B = false := by rw [HB.out]; exact decide_eq_false hxy
          subst hB
          have HN : Hid (decide (p = q) = false) := hide (decide_eq_false (fun h => hxy (by
            have h1 := HX.out
            rw [h, HY.out] at h1
            exact (Option.some.inj h1).symm)))
          clear hxy
          go_wp2_with fail
          go_ret
          exact ⟨by rw [HN.out]; rfl, hbw⟩
    · obtain rfl : p.length = k := by omega
      have HN : Hid (decide (p = q) = true) := hide (decide_eq_true (by
        have h := HE.out
        rw [List.take_length] at h
        rw [h, HQL.out, List.take_length]))
      go_wp2_with fail
      go_ret
      exact ⟨by rw [HN.out]; rfl, hbk⟩

set_option maxRecDepth 100000 in
set_option maxHeartbeats 800000 in
/-- the reference's comparison of entries -/
theorem ref15_Same (p q : List (List (List UInt8))) (h1 h2 : List Hd) (a1 a2 : Option Addr) (n1 n2 c1 c2 : Nat) (w : World) (hp : Pg3 w a1 n1 c1 h1 p) (hq : Pg3 w a2 n2 c2 h2 q) :
    Calls Try.prog 18 #[.slice a1 n1 c1, .slice a2 n2 c2] w fun e w' => e = .returned (.bool (decide (p = q))) ∧ Below w.heap.size w w' := by
  obtain rfl := hp.n_eq
  obtain rfl := hq.n_eq
  have hm1 := Nat.le_trans hp.top.le hp.top.cap
  have hm2 := Nat.le_trans hq.top.le hq.top.cap
  unfold maxLen at hm1 hm2
  by_cases hl : p.length = q.length
  case neg =>
    have e1 : ((p.length : Int) != (q.length : Int)) = true := neq_nat hl
    have HN : Hid (decide (p = q) = false) := hide (decide_eq_false (fun h => hl (by rw [h])))
    clear hl
    go_enter Try.func18, Try.ntmps18
    go_wp2_with fail
    go_ret
    exact ⟨by rw [HN.out]; rfl, Below.refl _ _⟩
  have HQL := hide hl
  rw [← hl] at hq hm2 ⊢
  have e1 : ((p.length : Int) != (p.length : Int)) = false := by simp
  clear hl
  go_enter Try.func18, Try.ntmps18
  go_wp2_with fail
  go_loopg [5] p.length (fun g i w' => ∃ (k : Nat), k ≤ p.length ∧ g = p.length - k ∧ p.take k = q.take k ∧ i = .int .i64 k ∧ Below w.heap.size w w')
  case atStart => exact ⟨0, by omega, by omega, by simp, rfl, Below.refl _ _⟩
  case round =>
    obtain ⟨k, hk, hg, ht, rfl, hbk⟩ := hrel
    have HG := hide hg
    have HE := hide ht
    clear hg ht
    by_cases hkl : k < p.length
    · obtain ⟨x, hx⟩ : ∃ x, p[k]? = some x := ⟨p[k], by simp [hkl]⟩
      obtain ⟨y, hy⟩ : ∃ y, q[k]? = some y := ⟨q[k]'(by rw [← HQL.out]; exact hkl), by simp⟩
      obtain ⟨ax, cx, kx, hux, hsx⟩ := hp.get hx
      obtain ⟨ay, cy, ky, huy, hsy⟩ := hq.get hy
      obtain ⟨b1, o1, rfl, hb1, hc1⟩ := hp.top.ex (by rw [List.length_map, hp.len]; omega)
      obtain ⟨b2, o2, rfl, hb2, hc2⟩ := hq.top.ex (by rw [List.length_map, hq.len, ← HQL.out]; omega)
      obtain ⟨B, HB⟩ : ∃ B, Hid (B = decide (x = y)) := ⟨_, hide rfl⟩
      have HX := hide hx
      have HY := hide hy
      have hcx : ∀ w', Below wr.heap.size wr w' → w'.cell? ⟨b1, o1 + k, none⟩ = some (.slice ax x.length cx) := fun w' h => by rw [h.cell (Nat.lt_of_lt_of_le hb1 hbk.size), hbk.cell hb1]; exact hc1 k _ hux
      have hcy : ∀ w', Below wr.heap.size wr w' → w'.cell? ⟨b2, o2 + k, none⟩ = some (.slice ay y.length cy) := fun w' h => by rw [h.cell (Nat.lt_of_lt_of_le hb2 hbk.size), hbk.cell hb2]; exact hc2 k _ huy
      have hcall : ∀ w', Below wr.heap.size wr w' → Calls Try.prog 12 #[.slice ax x.length cx, .slice ay y.length cy] w' fun e w2 => e = .returned (.bool B) ∧ Below w'.heap.size w' w2 := fun w' h => by
        have hbb := hbk.trans (h.mono hbk.size)
        rw [HB.out]
        exact ref15_SamePage x y kx ky ax ay _ _ cx cy w' (hsx.below hbb) (hsy.below hbb)
      clear hx hy hux huy hc1 hc2 hb1 hb2
      go_wp2_with fail
      refine wp_region_free 9 [⟨0, 17, [17], fun vs _ => vs = [.slice (some ⟨b1, o1, none⟩) p.length c1]⟩, ⟨1, 18, [18], fun vs _ => vs = [.int .i64 (k : Int)]⟩, ⟨2, 19, [19], fun vs _ => vs = [.pointer (some ⟨b1, o1 + k, none⟩)]⟩, ⟨3, 20, [20], fun vs _ => vs = [.slice ax x.length cx]⟩, ⟨4, 21, [21], fun vs _ => vs = [.slice (some ⟨b2, o2, none⟩) p.length c2]⟩, ⟨5, 22, [22], fun vs _ => vs = [.int .i64 (k : Int)]⟩, ⟨6, 23, [23], fun vs _ => vs = [.pointer (some ⟨b2, o2 + k, none⟩)]⟩, ⟨7, 24, [24], fun vs _ => vs = [.slice ay y.length cy]⟩, ⟨8, 25, [25], fun vs _ => vs = [.bool B]⟩] (by kernel_rfl) (by kernel_rfl) ?_ ?_ ?_
      · simp only [All]
        refine ⟨fun _ _ _ _ h => h, fun _ _ _ _ h => h, fun _ _ _ _ h => h, fun _ _ _ _ h => h, fun _ _ _ _ h => h, fun _ _ _ _ h => h, fun _ _ _ _ h => h, fun _ _ _ _ h => h, fun _ _ _ _ h => h, trivial⟩
      · simp only [All]
        refine ⟨?_, ?_, ?_, ?_, ?_, ?_, ?_, ?_, ?_, trivial⟩
        · intro o ho a' w' hb hfr hdep
          obtain rfl := Option.some.inj ho
          have g0 : a'.tmps[0]?.getD undef = .slice (some ⟨b1, o1, none⟩) p.length c1 := by have h := hfr 0 (by kernel_rfl); simpa using h
          clear ho hfr hdep
          go_wp2_with fail
          exact ⟨rfl, _, rfl, Below.refl _ _, rfl⟩
        · intro o ho a' w' hb hfr hdep
          obtain rfl := Option.some.inj ho
          have g5 : a'.tmps[5]?.getD undef = .int .i64 (k : Int) := by have h := hfr 5 (by kernel_rfl); simpa using h
          clear ho hfr hdep
          go_wp2_with fail
          exact ⟨rfl, _, rfl, Below.refl _ _, rfl⟩
        · intro o ho a' w' hb hfr hdep
          obtain rfl := Option.some.inj ho
          have g17 : a'.tmps[17]?.getD undef = .slice (some ⟨b1, o1, none⟩) p.length c1 := by have h := hdep 0 _ rfl (by kernel_rfl); simpa using h
          have g18 : a'.tmps[18]?.getD undef = .int .i64 (k : Int) := by have h := hdep 1 _ rfl (by kernel_rfl); simpa using h
          clear ho hfr hdep
          go_wp2_with fail
          exact ⟨rfl, _, rfl, Below.refl _ _, rfl⟩
        · intro o ho a' w' hb hfr hdep
          obtain rfl := Option.some.inj ho
          have g19 : a'.tmps[19]?.getD undef = .pointer (some ⟨b1, o1 + k, none⟩) := by have h := hdep 2 _ rfl (by kernel_rfl); simpa using h
          clear ho hfr hdep
          have hcl := hcx _ hb
          go_wp2_with fail
          exact ⟨rfl, _, rfl, Below.refl _ _, rfl⟩
        · intro o ho a' w' hb hfr hdep
          obtain rfl := Option.some.inj ho
          have g1 : a'.tmps[1]?.getD undef = .slice (some ⟨b2, o2, none⟩) p.length c2 := by have h := hfr 1 (by kernel_rfl); simpa using h
          clear ho hfr hdep
          go_wp2_with fail
          exact ⟨rfl, _, rfl, Below.refl _ _, rfl⟩
        · intro o ho a' w' hb hfr hdep
          obtain rfl := Option.some.inj ho
          have g5 : a'.tmps[5]?.getD undef = .int .i64 (k : Int) := by have h := hfr 5 (by kernel_rfl); simpa using h
          clear ho hfr hdep
          go_wp2_with fail
          exact ⟨rfl, _, rfl, Below.refl _ _, rfl⟩
        · intro o ho a' w' hb hfr hdep
          obtain rfl := Option.some.inj ho
          have g21 : a'.tmps[21]?.getD undef = .slice (some ⟨b2, o2, none⟩) p.length c2 := by have h := hdep 4 _ rfl (by kernel_rfl); simpa using h
          have g22 : a'.tmps[22]?.getD undef = .int .i64 (k : Int) := by have h := hdep 5 _ rfl (by kernel_rfl); simpa using h
          clear ho hfr hdep
          go_wp2_with fail
          exact ⟨rfl, _, rfl, Below.refl _ _, rfl⟩
        · intro o ho a' w' hb hfr hdep
          obtain rfl := Option.some.inj ho
          have g23 : a'.tmps[23]?.getD undef = .pointer (some ⟨b2, o2 + k, none⟩) := by have h := hdep 6 _ rfl (by kernel_rfl); simpa using h
          clear ho hfr hdep
          have hcl := hcy _ hb
          go_wp2_with fail
          exact ⟨rfl, _, rfl, Below.refl _ _, rfl⟩
        · intro o ho a' w' hb hfr hdep
          obtain rfl := Option.some.inj ho
          have g20 : a'.tmps[20]?.getD undef = .slice ax x.length cx := by have h := hdep 3 _ rfl (by kernel_rfl); simpa using h
          have g24 : a'.tmps[24]?.getD undef = .slice ay y.length cy := by have h := hdep 7 _ rfl (by kernel_rfl); simpa using h
          clear ho hfr hdep
          go_wp2_with fail
          refine (hcall _ hb).mono ?_
          rintro e w2 ⟨rfl, h2⟩
          go_wp2_with fail
          exact ⟨rfl, _, rfl, h2, rfl⟩
      · intro g w2 hb2 hp
        have p25 := hp 8 _ rfl
        clear hp
        simp at p25
        simp only [List.drop_succ_cons, List.drop_zero, List.map_cons, List.map_nil, putAll, Act.put, List.setIfInBounds_toArray, List.set_cons_succ, List.set_cons_zero, p25]
        have hbw := hbk.trans (hb2.mono hbk.size)
        by_cases hxy : x = y
        · have hB : B = true := by rw [HB.out]; exact decide_eq_true hxy
          subst hB
          have HN : Hid (∀ q', q' = p.take (k + 1) → p.take (k + 1) = q.take (k + 1)) := hide (fun _ _ => by rw [take_snoc HX.out, take_snoc HY.out, HE.out, hxy])
          clear hxy
          go_wp2_with fail
          go_roundg (p.length - (k + 1))
          case measure => have := HG.out; omega
          case rel => exact ⟨k + 1, by omega, rfl, HN.out _ rfl, by go_num, hbw⟩
        · have hB : B = false := by rw [HB.out]; exact decide_eq_false hxy
          subst hB
          have HN : Hid (decide (p = q) = false) := hide (decide_eq_false (fun h => hxy (by
            have h1 := HX.out
            rw [h, HY.out] at h1
            exact (Option.some.inj h1).symm)))
          clear hxy
          go_wp2_with fail
          go_ret
          exact ⟨by rw [HN.out]; rfl, hbw⟩
    · obtain rfl : p.length = k := by omega
      have HN : Hid (decide (p = q) = true) := hide (decide_eq_true (by
        have h := HE.out
        rw [List.take_length] at h
        rw [h, HQL.out, List.take_length]))
      go_wp2_with fail
      go_ret
      exact ⟨by rw [HN.out]; rfl, hbk⟩
end Go.Proofs.Ytmjkhmebpciopaa
end

/- the text At -/
section
namespace Go.Proofs.Ytmjkhmebpciopaa
open Go.RowKit Go.Dx

/-- a number below m out of another, out of a list -/
def aroundF (n : Int) (m : Nat) : Nat := ((if n < 0 then -(n + 1) else n) % (m : Int)).toNat
def atF (l : List Int) (i : Int) (m : Nat) : Nat := if i < 0 ∨ (l.length : Int) ≤ i then 0 else aroundF (l.getD i.toNat 0) m
theorem aroundF_eq {n : Int} {m : Nat} (hm : 1 ≤ m) : (if n < 0 then -(n + 1) else n) % (m : Int) = (aroundF n m : Int) := by
  have h3 := Int.emod_nonneg (if n < 0 then -(n + 1) else n) (show (m : Int) ≠ 0 by omega)
  unfold aroundF; omega
theorem aroundF_lt {n : Int} {m : Nat} (hm : 1 ≤ m) : aroundF n m < m := by
  have h2 := Int.emod_lt_of_pos (if n < 0 then -(n + 1) else n) (show (0 : Int) < m by omega)
  have h3 := aroundF_eq (n := n) hm
  omega
theorem atF_lt {l : List Int} {i : Int} {m : Nat} (hm : 1 ≤ m) : atF l i m < m := by
  unfold atF; split
  · omega
  · exact aroundF_lt hm
set_option maxHeartbeats 400000 in
theorem ref_Around (n v : Int) (m : Nat) (w : World) (hv : (m : Int) = v) (h0 : -9223372036854775808 ≤ n) (h1 : n ≤ 9223372036854775807) (hm : 1 ≤ m) (hm2 : m ≤ 1000000000) :
    Calls Try.prog 15 #[.int .i64 n, .int .i64 v] w fun e w' => e = .returned (.int .i64 (aroundF n m : Nat)) ∧ w = w' := by
  subst hv
  have hr := aroundF_eq (n := n) hm
  obtain ⟨r, HR⟩ : ∃ r, Hid (aroundF n m = r) := ⟨_, hide rfl⟩
  rw [HR.out] at hr ⊢
  by_cases hn : n < 0
  · rw [if_pos hn] at hr
    have HH := hide hr
    clear hr
    go_enter Try.func15, Try.ntmps15
    go_wp2
    go_ret
    exact ⟨by rw [← HH.out, ← Int.tmod_eq_emod_of_nonneg (by omega), Int.neg_tmod]; rfl, rfl⟩
  · rw [if_neg hn] at hr
    have HH := hide hr
    clear hr
    go_enter Try.func15, Try.ntmps15
    go_wp2
    go_ret
    exact ⟨by rw [← HH.out]; rfl, rfl⟩
set_option maxHeartbeats 400000 in
theorem ref_At (l : List Int) (a : Option Addr) (n c : Nat) (i v : Int) (m : Nat) (w : World) (hs : Sl w 1 a n c (l.map I64)) (hl : ∀ x ∈ l, -9223372036854775808 ≤ x ∧ x ≤ 9223372036854775807) (hv : (m : Int) = v) (hm : 1 ≤ m) (hm2 : m ≤ 1000000000) :
    Calls Try.prog 25 #[.slice a n c, .int .i64 i, .int .i64 v] w fun e w' => e = .returned (.int .i64 (atF l i m : Nat)) ∧ w = w' := by
  obtain rfl := hs.n_eq
  have hcap := Nat.le_trans hs.le hs.cap
  unfold maxLen at hcap
  obtain ⟨r, HR⟩ : ∃ r, Hid (atF l i m = r) := ⟨_, hide rfl⟩
  rw [HR.out]
  by_cases h1 : i < 0
  · have d1 : decide (i < 0) = true := decide_eq_true h1
    have HE : Hid (r = 0) := by show _ = _; rw [← HR.out]; exact if_pos (.inl h1)
    go_enter Try.func25, Try.ntmps25
    go_wp2
    go_ret
    exact ⟨by rw [HE.out]; first | done | rfl, rfl⟩
  · have d1 : decide (i < 0) = false := decide_eq_false h1
    by_cases h2 : (l.length : Int) ≤ i
    · have d2 : decide ((l.length : Int) ≤ i) = true := decide_eq_true h2
      have HE : Hid (r = 0) := by show _ = _; rw [← HR.out]; exact if_pos (.inr h2)
      go_enter Try.func25, Try.ntmps25
      go_wp2
      go_ret
      exact ⟨by rw [HE.out]; first | done | rfl, rfl⟩
    · have d2 : decide ((l.length : Int) ≤ i) = false := decide_eq_false h2
      have HE0 : Hid (r = aroundF (l.getD i.toNat 0) m) := by
        show _ = _; rw [← HR.out]; exact if_neg (by omega)
      obtain ⟨k, rfl⟩ := Int.eq_ofNat_of_zero_le (show 0 ≤ i by omega)
      have hk : k < l.length := by omega
      obtain ⟨x, hx⟩ : ∃ x, l[k]? = some x := ⟨l[k], by simp [hk]⟩
      obtain ⟨hx1, hx2⟩ := hl x (List.mem_of_getElem? hx)
      have HE : Hid (r = aroundF x m) := by
        show _ = _; rw [HE0.out, Int.toNat_natCast, List.getD_eq_getElem?_getD, hx]; rfl
      have HX := hide hx
      clear hx HE0
      go_enter Try.func25, Try.ntmps25
      go_wp2_with (first
        | (with_reducible refine idx_i 17 _ _ _ _ _ l rfl hs _ _ k rfl rfl x HX.out ?_; intro b o hcell hbo)
        | (go_at_call 15; refine (ref_Around x _ m _ hv hx1 hx2 hm hm2).mono ?_; rintro e w2 ⟨rfl, rfl⟩))
      go_ret
      exact ⟨by rw [HE.out]; first | done | rfl, rfl⟩
theorem At_at {l : List Int} {i v : Int} {m r : Nat} (h : atF l i m = r) (hv : (m : Int) = v) (hm : 1 ≤ m) (hm2 : m ≤ 1000000000) (hl : ∀ x ∈ l, -9223372036854775808 ≤ x ∧ x ≤ 9223372036854775807) {a : Option Addr} {n c : Nat} {w : World} (hs : Sl w 1 a n c (l.map I64)) :
    Calls Try.prog 25 #[.slice a n c, .int .i64 i, .int .i64 v] w fun e w' => e = .returned (.int .i64 (r : Int)) ∧ w = w' := by
  subst h; exact ref_At l a n c i v m w hs hl hv hm hm2
theorem Around_at {n v : Int} {m r : Nat} (h : aroundF n m = r) (hv : (m : Int) = v) (hm : 1 ≤ m) (hm2 : m ≤ 1000000000) (h0 : -9223372036854775808 ≤ n) (h1 : n ≤ 9223372036854775807) {w : World} :
    Calls Try.prog 15 #[.int .i64 n, .int .i64 v] w fun e w' => e = .returned (.int .i64 (r : Int)) ∧ w = w' := by
  subst h; exact ref_Around n v m w hv h0 h1 hm hm2
end Go.Proofs.Ytmjkhmebpciopaa
end

/- the text T19 -/
section
/- Chapter 15: the entries that the laws are tried at. -/
namespace Go.Proofs.Ytmjkhmebpciopaa
open Go.RowKit Go.Dx

/-- the beginning of an entry -/
structure Good (xs : List UInt8) : Prop where
  bad : (List.range xs.length).any (badAt xs) = false
  fst : 0 < xs.length → (xs.getD 0 0).toNat ≠ 0
theorem Good.nil : Good [] := ⟨rfl, fun h => by cases h⟩
theorem getD_left {xs : List UInt8} {u : UInt8} {i : Nat} (h : i < xs.length) : (xs ++ [u]).getD i 0 = xs.getD i 0 := by
  rw [List.getD_eq_getElem?_getD, List.getD_eq_getElem?_getD, List.getElem?_append_left h]
theorem getD_new {xs : List UInt8} {u : UInt8} : (xs ++ [u]).getD xs.length 0 = u := by
  rw [List.getD_eq_getElem?_getD, List.getElem?_append_right (Nat.le_refl _), Nat.sub_self]; rfl
theorem Good.push {xs : List UInt8} {u : UInt8} (h : Good xs) (hu : u.toNat ≤ 63) (h0 : u.toNat = 0 → 0 < xs.length ∧ (xs.getD (xs.length - 1) 0).toNat ≠ 0) : Good (xs ++ [u]) := by
  refine ⟨?_, fun _ => ?_⟩
  · rw [List.length_append, List.length_singleton, List.range_succ, List.any_append]
    have h1 : (List.range xs.length).any (badAt (xs ++ [u])) = false := by
      rw [← h.bad]
      have e : ∀ i ∈ List.range xs.length, badAt (xs ++ [u]) i = badAt xs i := by
        intro i hi
        have hi := List.mem_range.1 hi
        unfold badAt
        rw [getD_left hi, getD_left (by omega)]
      rw [Bool.eq_iff_iff, List.any_eq_true, List.any_eq_true]
      constructor
      · rintro ⟨i, hi, hb⟩; exact ⟨i, hi, by rw [← e i hi]; exact hb⟩
      · rintro ⟨i, hi, hb⟩; exact ⟨i, hi, by rw [e i hi]; exact hb⟩
    rw [h1, Bool.false_or]
    show (badAt (xs ++ [u]) xs.length || false) = false
    rw [Bool.or_false]
    unfold badAt
    rw [getD_new, decide_eq_false (by omega), Bool.false_or]
    rcases Nat.eq_zero_or_pos xs.length with hz | hz
    · rw [hz]; rfl
    · rw [getD_left (by omega)]
      by_cases hu0 : u.toNat = 0
      · have := (h0 hu0).2
        have e : ((xs.getD (xs.length - 1) 0).toNat == 0) = false := beq_eq_false_iff_ne.2 this
        rw [e]; simp
      · have e : (u.toNat == 0) = false := beq_eq_false_iff_ne.2 hu0
        rw [e]; simp
  · rcases Nat.eq_zero_or_pos xs.length with hz | hz
    · have : xs = [] := List.eq_nil_of_length_eq_zero hz
      subst this
      intro hu0
      have := (h0 hu0).1
      simp at this
    · rw [getD_left hz]; exact h.fst hz
theorem Good.entry {xs : List UInt8} (h : Good xs) (h1 : 1 ≤ xs.length) (h2 : xs.length ≤ 40) (h3 : (xs.getD (xs.length - 1) 0).toNat ≠ 0) : entryB xs = true := entry_yes h1 h2 (h.fst h1) h3 h.bad

/-- entries that a call owns -/
structure O3 (w : World) (B : Nat) (a : Option Addr) (c : Nat) (hs : List Hd) (X : List (List (List UInt8))) : Prop where
  top : Own w B 28 1 a X.length c (hs.map hv)
  len : hs.length = X.length
  row : ∀ (i : Nat) (h : Hd) (p : List (List UInt8)), hs[i]? = some h → X[i]? = some p → ∃ ks, OPage w B h.1 h.2.2 ks p ∧ h.2.1 = p.length
theorem O3.nil (w : World) (B : Nat) : O3 w B none 0 [] [] := ⟨Own.nil _ _ _ _, rfl, fun i h r h1 => by cases h1⟩
theorem O3.below {w w' : World} {B : Nat} {a : Option Addr} {c : Nat} {hs : List Hd} {X : List (List (List UInt8))} (h : O3 w B a c hs X) (hb : Below w.heap.size w w') : O3 w' B a c hs X :=
  ⟨h.top.below hb, h.len, fun i x p h1 h2 => by obtain ⟨ks, hk, e⟩ := h.row i x p h1 h2; exact ⟨ks, hk.below hb, e⟩⟩
theorem O3.pg {w : World} {B : Nat} {a : Option Addr} {c : Nat} {hs : List Hd} {X : List (List (List UInt8))} (h : O3 w B a c hs X) : Pg3 w a X.length c hs X :=
  ⟨h.top.sl, h.len, fun i x p h1 h2 => by obtain ⟨ks, hk, e⟩ := h.row i x p h1 h2; rw [e]; exact ⟨ks, hk.pg⟩⟩
/-- an owned page of rows and an owned list of such pages that grows -/
theorem OPage.list {w w' : World} {B B' : Nat} {a b : Option Addr} {c n' c' : Nat} {hs : List Hd} {p : List (List UInt8)} {xs : List Value} (h : OPage w B a c hs p) (ho : Own w B' 28 1 b n' c' xs) (hg : w.grownBy w' (b.map (·.block))) : OPage w' B a c hs p := by
  refine h.kept hg (fun q hq e => ?_) (fun i x q hx hq e => ?_)
  · have h1 := h.top
    cases hb : b with
    | none => rw [hb] at e; cases e
    | some t =>
      rw [hb] at ho e
      rw [hq] at h1
      exact own_ne h1 ho (by decide) (by simpa using e)
  · obtain ⟨r, h1⟩ := h.row_own hx
    cases hb : b with
    | none => rw [hb] at e; cases e
    | some t =>
      rw [hb] at ho e
      rw [hq] at h1
      exact own_ne h1 ho (by decide) (by simpa using e)
theorem O3.push {w w' : World} {B : Nat} {a a' : Option Addr} {c c' : Nat} {hs ks : List Hd} {X : List (List (List UInt8))} {x : Hd} {p : List (List UInt8)} (h : O3 w B a c hs X) (hx : OPage w B x.1 x.2.2 ks p) (hl : x.2.1 = p.length)
    (ht : Own w' B 28 1 a' (X.length + 1) c' (hs.map hv ++ [hv x])) (hg : w.grownBy w' (a.map (·.block))) : O3 w' B a' c' (hs ++ [x]) (X ++ [p]) := by
  refine ⟨by rw [List.length_append, List.map_append]; exact ht, by simp [h.len], ?_⟩
  intro i y s h1 h2
  rw [List.getElem?_append] at h1 h2
  by_cases hi : i < hs.length
  · rw [if_pos hi] at h1
    rw [if_pos (by rw [← h.len]; exact hi)] at h2
    obtain ⟨k2, hk, e⟩ := h.row i y s h1 h2
    exact ⟨k2, hk.list h.top hg, e⟩
  · rw [if_neg hi] at h1
    rw [if_neg (by rw [← h.len]; exact hi)] at h2
    have e : i - hs.length = 0 := by
      have := (List.getElem?_eq_some_iff.1 h1).1
      simp at this; omega
    rw [e] at h1
    have e2 : i - X.length = 0 := by rw [← h.len]; exact e
    rw [e2] at h2
    simp at h1 h2
    subst h1 h2
    exact ⟨ks, hx.list h.top hg, hl⟩
theorem info_rows : (Try.prog.info? 28).map (fun i => (i.zero, i.size, i.bytes)) = some (some (.slice none 0 0), 1, 24) := by kernel_rfl
section
variable {w : World} {ops : Array Oper} {rest : List Oper} {o : Oper} {act : Act} {Q : Exit → Act → World → Prop}
/-- 'append(row, entry)' -/
theorem app_q (hg : o.guard = none) (s x : Operand) (hop : o.op = Op.call { callee := Callee.builtin Builtin.append, args := #[s, x], argTypes := #[28, 28] })
    (w0 : World) (B : Nat) (a : Option Addr) (n c : Nat) (hs : List Hd) (p : List (List UInt8)) (hn0 : p.length = n) (hes : act.eval s = .slice a n c) (hown : OPage w B a c hs p)
    (y : Hd) (r : List UInt8) (hy : Own w B 5 1 y.1 y.2.1 y.2.2 (r.map B8)) (hx : act.eval x = .slice (some ⟨w.heap.size, 0, none⟩) 1 1)
    (hn : (n + 1) * 24 ≤ 140737488355328) (hB : B ≤ w.heap.size) (hbel : Below B w0 w)
    (hK : ∀ a' c' w', OPage w' B a' c' (hs ++ [y]) (p ++ [r]) → Below B w0 w' → wpList Try.prog ops Q rest (act.put o.dst (.slice a' (n + 1) c')) w') :
    wpList Try.prog ops Q (o :: rest) act (w.alloc (.cells #[hv y] 47)) := by
  subst hn0
  refine append_lit hg s x 28 hop 47 (.slice none 0 0) 1 24 Try.underlying28 info_row rfl w0 B a _ c _ hes hown.top 1 [hv y] hx rfl (by simp [hv, Value.oneCell']) hn (by unfold maxLen; omega) hB hbel ?_
  intro a' c' w' ho hgr hb
  exact hK a' c' w' (hown.push hy ho hgr) hb
/-- 'append(entries, row)' -/
theorem app_3 (hg : o.guard = none) (s x : Operand) (hop : o.op = Op.call { callee := Callee.builtin Builtin.append, args := #[s, x], argTypes := #[23, 23] })
    (w0 : World) (B : Nat) (a : Option Addr) (n c : Nat) (hs ks : List Hd) (X : List (List (List UInt8))) (hn0 : X.length = n) (hes : act.eval s = .slice a n c) (hown : O3 w B a c hs X)
    (y : Hd) (p : List (List UInt8)) (hy : OPage w B y.1 y.2.2 ks p) (hl : y.2.1 = p.length) (hx : act.eval x = .slice (some ⟨w.heap.size, 0, none⟩) 1 1)
    (hn : (n + 1) * 24 ≤ 140737488355328) (hB : B ≤ w.heap.size) (hbel : Below B w0 w)
    (hK : ∀ a' c' w', O3 w' B a' c' (hs ++ [y]) (X ++ [p]) → Below B w0 w' → wpList Try.prog ops Q rest (act.put o.dst (.slice a' (n + 1) c')) w') :
    wpList Try.prog ops Q (o :: rest) act (w.alloc (.cells #[hv y] 28)) := by
  subst hn0
  refine append_lit hg s x 23 hop 28 (.slice none 0 0) 1 24 Try.underlying23 info_rows rfl w0 B a _ c _ hes hown.top 1 [hv y] hx rfl (by simp [hv, Value.oneCell']) hn (by unfold maxLen; omega) hB hbel ?_
  intro a' c' w' ho hgr hb
  exact hK a' c' w' (hown.push hy hl ho hgr) hb
end
theorem u8_small' {m : Nat} (h : m < 256) : B8 (UInt8.ofNat m) = .int .u8 (m : Int) := by
  show Value.int .u8 ((UInt8.ofNat m).toNat : Int) = _
  rw [UInt8.toNat_ofNat', Nat.mod_eq_of_lt h]
theorem u8_nat {m : Nat} (h : m < 256) : (UInt8.ofNat m).toNat = m := by rw [UInt8.toNat_ofNat', Nat.mod_eq_of_lt h]
/-- valid entries of few rows and columns, each of the same length -/
structure Few (X : List (List (List UInt8))) (R C : Nat) : Prop where
  len : X.length = R
  row : ∀ row ∈ X, row.length = C
  ent : ∀ row ∈ X, ∀ x ∈ row, entryB x = true
theorem Few.vx {X : List (List (List UInt8))} {R C : Nat} (h : Few X R C) (h1 : 1 ≤ R) (h2 : R ≤ 12) (h3 : 1 ≤ C) (h4 : C ≤ 12) : VX X ∧ nCols X = C := by
  have hl := h.len
  have hx : X[0]? = some (X[0]'(by omega)) := by simp
  have hn : nCols X = C := by rw [nCols_of hx]; exact h.row _ (List.mem_of_getElem? hx)
  exact ⟨⟨by omega, by omega, by omega, by omega, fun row hr => by rw [hn]; exact h.row row hr, h.ent⟩, hn⟩

set_option maxRecDepth 100000 in
set_option maxHeartbeats 1000000 in
/-- valid entries, of at most 4 rows and 6 columns -/
theorem ref15_Entries (l : List Int) (a : Option Addr) (n c : Nat) (w : World) (hs : Sl w 1 a n c (l.map I64)) (hl : ∀ x ∈ l, -9223372036854775808 ≤ x ∧ x ≤ 9223372036854775807) :
    Calls Try.prog 7 #[.slice a n c] w fun e w' => ∃ X a' c' hs', e = .returned (.slice a' X.length c') ∧ VX X ∧ X.length ≤ 4 ∧ nCols X ≤ 6 ∧ O3 w' w.heap.size a' c' hs' X ∧ Below w.heap.size w w' := by
  obtain ⟨R, HR⟩ : ∃ R, Hid (atF l 0 4 = R) := ⟨_, hide rfl⟩
  obtain ⟨C, HC⟩ : ∃ C, Hid (atF l 1 6 = C) := ⟨_, hide rfl⟩
  have hR : R < 4 := by rw [← HR.out]; exact atF_lt (by omega)
  have hC : C < 6 := by rw [← HC.out]; exact atF_lt (by omega)
  have HQ : Hid (∀ (i v : Int) (m r : Nat), atF l i m = r → (m : Int) = v → 1 ≤ m → m ≤ 1000000000 → ∀ w', Below w.heap.size w w' → Calls Try.prog 25 #[.slice a n c, .int .i64 i, .int .i64 v] w' fun e w2 => e = .returned (.int .i64 (r : Int)) ∧ w' = w2) :=
    fun i v m r h hv h1 h2 w' hb => At_at h hv h1 h2 hl (hs.below hb)
  clear hl
  go_enter Try.func7, Try.ntmps7
  go_wp2_with fail
  refine (HQ.out 0 _ 4 R HR.out rfl (by omega) (by omega) _ (Below.refl _ _)).mono ?_
  rintro e w1 ⟨rfl, rfl⟩
  go_wp2_with fail
  refine (HQ.out 1 _ 6 C HC.out rfl (by omega) (by omega) _ (Below.refl _ _)).mono ?_
  rintro e w1 ⟨rfl, rfl⟩
  go_wp2_with fail
  go_loopg [5, 6] (R + 1) (fun g x i' w' => ∃ (i : Nat) (a2 : Option Addr) (c2 : Nat) (hs2 : List Hd) (X : List (List (List UInt8))), i ≤ R + 1 ∧ g = R + 1 - i ∧ X.length = i ∧ i' = .int .i64 i ∧ x = .slice a2 i c2 ∧ Hid (Few X i (C + 1)) ∧ O3 w' w.heap.size a2 c2 hs2 X ∧ Below w.heap.size w w')
  case atStart => exact ⟨0, none, 0, [], [], by omega, by omega, rfl, rfl, rfl, hide ⟨rfl, by simp, by simp⟩, O3.nil _ _, Below.refl _ _⟩
  case round =>
    obtain ⟨i, a2, c2, hs2, X, hi, hg, hXl, rfl, rfl, HFW, hox3, hbi⟩ := hrel
    have HG := hide hg
    have HXLEN := hide hXl
    clear hg hXl
    by_cases hil : i < R + 1
    · obtain ⟨wy, rfl⟩ : ∃ wy : World, wy = wr := ⟨_, rfl⟩
      have d8 : decide ((i : Int) < 1 + (R : Int)) = true := decide_eq_true (by omega)
      go_wp2_with fail
      go_loopg [7, 8] (C + 1) (fun g x k' w' => ∃ (k : Nat) (a3 : Option Addr) (c3 : Nat) (hs3 : List Hd) (p : List (List UInt8)), k ≤ C + 1 ∧ g = C + 1 - k ∧ p.length = k ∧ k' = .int .i64 k ∧ x = .slice a3 k c3 ∧ Hid (∀ x ∈ p, entryB x = true) ∧ OPage w' wy.heap.size a3 c3 hs3 p ∧ Below wy.heap.size wy w')
      case atStart => exact ⟨0, none, 0, [], [], by omega, by omega, rfl, rfl, rfl, hide (by simp), OPage.nil _ _, Below.refl _ _⟩
      case round =>
        obtain ⟨k, a3, c3, hs3, p, hk, hg1, hpl, rfl, rfl, HEN, hop, hbk⟩ := hrel
        have HG1 := hide hg1
        have HPL := hide hpl
        clear hg1 hpl
        by_cases hkl : k < C + 1
        · obtain ⟨wz, rfl⟩ : ∃ wz : World, wz = wr := ⟨_, rfl⟩
          obtain ⟨m0, Hm0⟩ : ∃ m, Hid (atF l (2 + 5 * (i : Int) + 3 * (k : Int)) 6 = m) := ⟨_, hide rfl⟩
          have hm0 : m0 < 6 := by rw [← Hm0.out]; exact atF_lt (by omega)
          have hbz := hbi.trans (hbk.mono hbi.size)
          have d7 : decide ((k : Int) < 1 + (C : Int)) = true := decide_eq_true (by omega)
          go_wp2_with fail
          refine (HQ.out _ _ 6 m0 Hm0.out rfl (by omega) (by omega) _ hbz).mono ?_
          rintro e w1 ⟨rfl, rfl⟩
          obtain ⟨m, hm⟩ : ∃ m, m = m0 + 1 := ⟨_, rfl⟩
          have e7 : (1 : Int) + (m0 : Int) = (m : Int) := by omega
          have hm6 : m ≤ 6 := by omega
          have hm1 : 1 ≤ m := by omega
          clear hm Hm0 hm0
          go_wp2_with fail
          go_loopg [11, 12, 13] m (fun g x j' _ w' => ∃ (j : Nat) (a4 : Option Addr) (c4 : Nat) (xs : List UInt8), j ≤ m ∧ g = m - j ∧ xs.length = j ∧ j' = .int .i64 j ∧ x = .slice a4 j c4 ∧ Own w' wz.heap.size 5 1 a4 j c4 (xs.map B8) ∧ Good xs ∧ (j = m → (xs.getD (xs.length - 1) 0).toNat ≠ 0) ∧ Below wz.heap.size wz w')
          case atStart => exact ⟨0, none, 0, [], by omega, by omega, rfl, rfl, rfl, Own.nil _ _ _ _, Good.nil, fun h => by omega, Below.refl _ _⟩
          case round =>
            obtain ⟨j, a4, c4, xs, hj, hg2, hxl, rfl, rfl, hox, hgd, hlast, hbj⟩ := hrel
            have HG2 := hide hg2
            have HXL := hide hxl
            have HGD := hide hgd
            have HLAST := hide hlast
            clear hg2 hxl hgd hlast
            have hbjz := hbz.trans (hbj.mono hbz.size)
            by_cases hjl : j < m
            · obtain ⟨v, Hv⟩ : ∃ v, Hid (atF l (2 + 5 * (i : Int) + 3 * (k : Int) + (j : Int)) 63 = v) := ⟨_, hide rfl⟩
              have hv : v < 63 := by rw [← Hv.out]; exact atF_lt (by omega)
              obtain ⟨wx, rfl⟩ : ∃ wx : World, wx = wr := ⟨_, rfl⟩
              go_wp2_with fail
              refine (HQ.out _ _ 63 v Hv.out rfl (by omega) (by omega) _ hbjz).mono ?_
              rintro e w1 ⟨rfl, rfl⟩
              go_upto_region 18 with fail
              go_cut [76] (fun b w' => ∃ bv : Bool, b = .bool bv ∧ Hid (bv = true → 0 < j ∧ j + 1 < m ∧ (xs.getD (j - 1) 0).toNat ≠ 0) ∧ wx = w')
              case first =>
                rcases Nat.eq_zero_or_pos j with hj0 | hj0
                · subst hj0
                  go_wp2_with fail
                  go_meet
                  exact ⟨false, rfl, hide (fun h => by cases h), rfl⟩
                · obtain ⟨j1, rfl⟩ : ∃ j1, j = j1 + 1 := ⟨j - 1, by omega⟩
                  have d1 : decide (0 < (j1 : Int) + 1) = true := decide_eq_true (by omega)
                  by_cases hj2 : j1 + 1 + 1 < m
                  · have d2 : decide ((j1 : Int) + 1 + 1 < (m : Int)) = true := decide_eq_true (by omega)
                    obtain ⟨u, hu⟩ : ∃ u, xs[j1]? = some u := ⟨xs[j1]'(by rw [HXL.out]; omega), by simp⟩
                    obtain ⟨b, o, rfl, hb, hcell⟩ := hox.sl.ex (by rw [List.length_map, HXL.out]; omega)
                    have hc1 := hcell j1 (.int .u8 (u.toNat : Int)) (by rw [List.getElem?_map, hu]; rfl)
                    have HUD : Hid (xs.getD (j1 + 1 - 1) 0 = u) := hide (by rw [Nat.add_sub_cancel]; exact getD_of hu)
                    have d5 : max (j1 : Int) 0 = (j1 : Int) := by omega
                    clear hcell hu
                    by_cases hu0 : u.toNat = 0
                    · have d3 : ((u.toNat : Int) != 0) = false := by simp [hu0]
                      clear hu0
                      go_wp2_with fail
                      go_meet
                      exact ⟨false, rfl, hide (fun h => by cases h), rfl⟩
                    · have d3 : ((u.toNat : Int) != 0) = true := by simp [hu0]
                      have HU0 := hide hu0
                      obtain ⟨r, Hr⟩ : ∃ r, Hid (atF l (2 + 5 * (i : Int) + 3 * (k : Int) + 2 * ((j1 : Int) + 1)) 3 = r) := ⟨_, hide rfl⟩
                      have hr3 : r < 3 := by rw [← Hr.out]; exact atF_lt (by omega)
                      clear hu0
                      go_wp2_with fail
                      refine (HQ.out _ _ 3 r Hr.out rfl (by omega) (by omega) _ hbjz).mono ?_
                      rintro e w1 ⟨rfl, rfl⟩
                      go_wp2_with fail
                      go_meet
                      exact ⟨_, rfl, hide (fun _ => ⟨by omega, by omega, by rw [HUD.out]; exact HU0.out⟩), rfl⟩
                  · have d2 : decide ((j1 : Int) + 1 + 1 < (m : Int)) = false := decide_eq_false (by omega)
                    go_wp2_with fail
                    go_meet
                    exact ⟨false, rfl, hide (fun h => by cases h), rfl⟩
              case rest =>
                obtain ⟨bv, rfl, HBV, rfl⟩ := hcut
                cases bv
                · go_wp2_with (at_builtin; refine app_b rfl _ _ rfl wz wz.heap.size _ _ _ _ rfl hox _ rfl (by omega) hbj.size hbj ?_; intro a' c' w' ho' hgr' hb')
                  go_roundg (m - (j + 1))
                  case measure => have := HG2.out; omega
                  case rel =>
                    have hu := u8_small' (show (1 + v) < 256 by omega)
                    have hn := u8_nat (show (1 + v) < 256 by omega)
                    refine ⟨j + 1, a', c', xs ++ [UInt8.ofNat (1 + v)], by omega, rfl, by rw [List.length_append, HXL.out]; rfl, by go_num, rfl, ?_, ?_, ?_, hb'⟩
                    · rw [List.map_append]
                      show Own _ _ _ _ _ _ _ (xs.map B8 ++ [B8 (UInt8.ofNat (1 + v))])
                      rw [hu]; exact ho'
                    · refine HGD.out.push (by rw [hn]; omega) ?_
                      rw [hn]
                      intro h0
                      omega
                    · intro h1
                      rw [List.length_append, List.length_singleton, Nat.add_sub_cancel, getD_new, hn]
                      omega
                · go_wp2_with (at_builtin; refine app_b rfl _ _ rfl wz wz.heap.size _ _ _ _ rfl hox _ rfl (by omega) hbj.size hbj ?_; intro a' c' w' ho' hgr' hb')
                  go_roundg (m - (j + 1))
                  case measure => have := HG2.out; omega
                  case rel =>
                    have hu := u8_small' (show (0) < 256 by omega)
                    have hn := u8_nat (show (0) < 256 by omega)
                    refine ⟨j + 1, a', c', xs ++ [UInt8.ofNat (0)], by omega, rfl, by rw [List.length_append, HXL.out]; rfl, by go_num, rfl, ?_, ?_, ?_, hb'⟩
                    · rw [List.map_append]
                      show Own _ _ _ _ _ _ _ (xs.map B8 ++ [B8 (UInt8.ofNat (0))])
                      rw [hu]; exact ho'
                    · refine HGD.out.push (by rw [hn]; omega) ?_
                      rw [hn]
                      intro h0
                      have hb := HBV.out (by trivial)
                      rw [HXL.out]
                      exact ⟨hb.1, hb.2.2⟩
                    · intro h1
                      rw [List.length_append, List.length_singleton, Nat.add_sub_cancel, getD_new, hn]
                      have hb := HBV.out (by trivial)
                      omega
            · obtain rfl : m = j := by omega
              have HE1 : Hid (entryB xs = true) := hide (HGD.out.entry (by rw [HXL.out]; omega) (by rw [HXL.out]; omega) (HLAST.out rfl))
              go_wp2_with (at_builtin; refine app_q rfl _ _ rfl wy wy.heap.size _ _ _ hs3 p HPL.out rfl (hop.below hbj) (a4, m, c4) xs (hox.mono hbk.size) rfl (by omega) (Nat.le_trans hbk.size hbj.size) (hbk.trans (hbj.mono hbk.size)) ?_; intro a' c' w' ho' hb')
              go_roundg (C + 1 - (k + 1))
              case measure => have := HG1.out; omega
              case rel =>
                refine ⟨k + 1, a', c', hs3 ++ [(a4, m, c4)], p ++ [xs], by omega, rfl, by rw [List.length_append, HPL.out]; rfl, by go_num, rfl, hide ?_, ho', hb'⟩
                intro x hx
                rcases List.mem_append.1 hx with h | h
                · exact HEN.out x h
                · rw [List.mem_singleton.1 h]; exact HE1.out
        · obtain rfl : C + 1 = k := by omega
          go_wp2_with (at_builtin; refine app_3 rfl _ _ rfl w w.heap.size _ _ _ hs2 hs3 X HXLEN.out rfl (hox3.below hbk) (a3, C + 1, c3) p (hop.mono hbi.size) HPL.out.symm rfl (by omega) (Nat.le_trans hbi.size hbk.size) (hbi.trans (hbk.mono hbi.size)) ?_; intro a' c' w' ho' hb')
          go_roundg (R + 1 - (i + 1))
          case measure => have := HG.out; omega
          case rel =>
            refine ⟨i + 1, a', c', hs2 ++ [(a3, C + 1, c3)], X ++ [p], by omega, rfl, by rw [List.length_append, HXLEN.out]; rfl, by go_num, rfl, hide ⟨by rw [List.length_append, HXLEN.out]; rfl, ?_, ?_⟩, ho', hb'⟩
            · intro row hr
              rcases List.mem_append.1 hr with h | h
              · exact HFW.out.row row h
              · rw [List.mem_singleton.1 h]; exact HPL.out
            · intro row hr
              rcases List.mem_append.1 hr with h | h
              · exact HFW.out.ent row h
              · rw [List.mem_singleton.1 h]; exact HEN.out
    · obtain rfl : R + 1 = i := by omega
      obtain ⟨hv1, hv2⟩ := HFW.out.vx (by omega) (by omega) (by omega) (by omega)
      have HV1 := hide hv1
      have HV2 := hide hv2
      clear hv1 hv2
      go_wp2_with fail
      go_ret
      exact ⟨X, a2, c2, hs2, by rw [HXLEN.out]; rfl, HV1.out, by rw [HXLEN.out]; omega, by rw [HV2.out]; omega, hox3, hbi⟩
end Go.Proofs.Ytmjkhmebpciopaa
end

/- the text T20 -/
section
/- Chapter 15: reading back, in plain words; views of rows that lie in memory of the caller. -/
namespace Go.Proofs.Ytmjkhmebpciopaa
open Go.RowKit Go.Dx

def dropZ : List UInt8 → List UInt8
  | [] => []
  | x :: t => if x = 0 then dropZ t else x :: t
theorem dropZ_le : ∀ l : List UInt8, (dropZ l).length ≤ l.length
  | [] => Nat.le_refl _
  | x :: t => by
    show (if x = 0 then dropZ t else x :: t).length ≤ _
    split
    · have := dropZ_le t; simp; omega
    · exact Nat.le_refl _
/-- the entries of a line, 'now' ahead of it -/
def cutA (now : List UInt8) : List UInt8 → List (List UInt8)
  | [] => [now]
  | x :: t => if x = 0 ∧ t.head? = some 0 then now :: cutA [] (dropZ t) else cutA (now ++ [x]) t
termination_by l => l.length
decreasing_by
  · have := dropZ_le t; simp; omega
  · simp
theorem cutA_nil (now : List UInt8) : cutA now [] = [now] := by rw [cutA]
theorem cutA_zero {now t : List UInt8} (h : t.head? = some 0) : cutA now (0 :: t) = now :: cutA [] (dropZ t) := by rw [cutA, if_pos ⟨rfl, h⟩]
theorem cutA_step {now t : List UInt8} {x : UInt8} (h : ¬ (x = 0 ∧ t.head? = some 0)) : cutA now (x :: t) = cutA (now ++ [x]) t := by rw [cutA, if_neg h]
/-- the entries of a line -/
def cutL (l : List UInt8) : List (List UInt8) := cutA [] l
/-- the blocks of a page, 'cur' ahead of it -/
def blk (cur : List (List UInt8)) : List (List UInt8) → List (List (List UInt8))
  | [] => [cur]
  | r :: t => if r = [] then cur :: blk [] t else blk (cur ++ [r]) t
/-- a block is the lines of its entries -/
def okB (b : List (List UInt8)) : Prop := validT (b.map cutL) = true ∧ linesL (colW (b.map cutL)) (b.map cutL) 1 (nCols (b.map cutL) - 1) = b
/-- the first entries of the rows are the same -/
def heads (X Y : List (List (List UInt8))) : Prop := ∀ k, k < Y.length → (Y.getD k []).getD 0 [] = (X.getD k []).getD 0 []
/-- the further columns of a part -/
def joinX (X Y : List (List (List UInt8))) : List (List (List UInt8)) := (List.range X.length).map fun k => X.getD k [] ++ (Y.getD k []).drop 1
/-- the entries of further blocks joined to X -/
inductive Joins : List (List (List UInt8)) → List (List (List UInt8)) → List (List (List UInt8)) → Prop
  | nil (X) : Joins X [] X
  | cons {X b bs Z} : okB b → (b.map cutL).length = X.length → 2 ≤ nCols (b.map cutL) → heads X (b.map cutL) → Joins (joinX X (b.map cutL)) bs Z → Joins X (b :: bs) Z
theorem Joins.uniq {X : List (List (List UInt8))} {bs : List (List (List UInt8))} {Z Z' : List (List (List UInt8))} (h : Joins X bs Z) (h' : Joins X bs Z') : Z = Z' := by
  induction h with
  | nil X => cases h'; rfl
  | cons _ _ _ _ _ ih =>
    cases h' with
    | cons _ _ _ _ h2 => exact ih h2
/-- the entries of a layout -/
def Reads (p : List (List UInt8)) (Z : List (List (List UInt8))) : Prop :=
  ∃ b bs, blk [] p = b :: bs ∧ okB b ∧ (bs ≠ [] → 2 ≤ nCols (b.map cutL)) ∧ Joins (b.map cutL) bs Z ∧ validT Z = true
theorem Reads.uniq {p : List (List UInt8)} {Z Z' : List (List (List UInt8))} (h : Reads p Z) (h' : Reads p Z') : Z = Z' := by
  obtain ⟨b, bs, e, _, _, h1, _⟩ := h
  obtain ⟨b', bs', e', _, _, h1', _⟩ := h'
  rw [e] at e'
  injection e' with e1 e2
  subst e1 e2
  exact h1.uniq h1'
/-- what reading hands back -/
def readZ (p : List (List UInt8)) (Z : List (List (List UInt8))) (x : Int) : Prop := (x = 0 ∧ Reads p Z) ∨ (x = 2 ∧ Z = [] ∧ ¬ ∃ Z', Reads p Z')
theorem readZ.uniq {p : List (List UInt8)} {Z Z' : List (List (List UInt8))} {x x' : Int} (h : readZ p Z x) (h' : readZ p Z' x') : Z = Z' ∧ x = x' := by
  rcases h with ⟨e, h⟩ | ⟨e, hz, h⟩ <;> rcases h' with ⟨e', h'⟩ | ⟨e', hz', h'⟩
  · exact ⟨h.uniq h', by rw [e, e']⟩
  · exact absurd ⟨_, h⟩ h'
  · exact absurd ⟨_, h'⟩ h
  · exact ⟨by rw [hz, hz'], by rw [e, e']⟩

/-- rows that the call owns, of entries that lay in the world w0 -/
structure VP (w0 w : World) (B : Nat) (a : Option Addr) (c : Nat) (ks : List Hd) (p : List (List UInt8)) : Prop where
  top : Own w B 47 1 a p.length c (ks.map hv)
  len : ks.length = p.length
  ent : ∀ (j : Nat) (y : Hd) (r : List UInt8), ks[j]? = some y → p[j]? = some r → Sl w0 1 y.1 y.2.1 y.2.2 (r.map B8)
theorem VP.nil (w0 w : World) (B : Nat) : VP w0 w B none 0 [] [] := ⟨Own.nil _ _ _ _, rfl, fun i h r h1 => by cases h1⟩
theorem VP.below {w0 w w' : World} {B : Nat} {a : Option Addr} {c : Nat} {ks : List Hd} {p : List (List UInt8)} (h : VP w0 w B a c ks p) (hb : Below w.heap.size w w') : VP w0 w' B a c ks p := ⟨h.top.below hb, h.len, h.ent⟩
theorem VP.mono {w0 w : World} {B B' : Nat} {a : Option Addr} {c : Nat} {ks : List Hd} {p : List (List UInt8)} (h : VP w0 w B a c ks p) (hB : B' ≤ B) : VP w0 w B' a c ks p := ⟨h.top.mono hB, h.len, h.ent⟩
theorem VP.pg {w0 w : World} {B : Nat} {a : Option Addr} {c : Nat} {ks : List Hd} {p : List (List UInt8)} (h : VP w0 w B a c ks p) (hb : Below w0.heap.size w0 w) : Pg w a p.length c ks p :=
  ⟨h.top.sl, h.len, fun i x r h1 h2 => (h.ent i x r h1 h2).below hb⟩
theorem VP.push {w0 w w' : World} {B : Nat} {a a' : Option Addr} {c c' : Nat} {ks : List Hd} {p : List (List UInt8)} {x : Hd} {r : List UInt8} (h : VP w0 w B a c ks p) (hx : Sl w0 1 x.1 x.2.1 x.2.2 (r.map B8))
    (ht : Own w' B 47 1 a' (p.length + 1) c' (ks.map hv ++ [hv x])) : VP w0 w' B a' c' (ks ++ [x]) (p ++ [r]) := by
  refine ⟨by rw [List.length_append, List.map_append]; exact ht, by simp [h.len], ?_⟩
  intro i y s h1 h2
  rw [List.getElem?_append] at h1 h2
  by_cases hi : i < ks.length
  · rw [if_pos hi] at h1
    rw [if_pos (by rw [← h.len]; exact hi)] at h2
    exact h.ent i y s h1 h2
  · rw [if_neg hi] at h1
    rw [if_neg (by rw [← h.len]; exact hi)] at h2
    have e : i - ks.length = 0 := by
      have := (List.getElem?_eq_some_iff.1 h1).1
      simp at this; omega
    rw [e] at h1
    have e2 : i - p.length = 0 := by rw [← h.len]; exact e
    rw [e2] at h2
    simp at h1 h2
    subst h1 h2
    exact hx
section
variable {w : World} {ops : Array Oper} {rest : List Oper} {o : Oper} {act : Act} {Q : Exit → Act → World → Prop}
/-- 'append(row, entry)', the entry anywhere -/
theorem app_vq (hg : o.guard = none) (s x : Operand) (hop : o.op = Op.call { callee := Callee.builtin Builtin.append, args := #[s, x], argTypes := #[28, 28] })
    (w0 v0 : World) (B : Nat) (a : Option Addr) (n c : Nat) (hs : List Hd) (p : List (List UInt8)) (hn0 : p.length = n) (hes : act.eval s = .slice a n c) (hown : VP v0 w B a c hs p)
    (y : Hd) (r : List UInt8) (hy : Sl v0 1 y.1 y.2.1 y.2.2 (r.map B8)) (hx : act.eval x = .slice (some ⟨w.heap.size, 0, none⟩) 1 1)
    (hn : (n + 1) * 24 ≤ 140737488355328) (hB : B ≤ w.heap.size) (hbel : Below B w0 w)
    (hK : ∀ a' c' w', VP v0 w' B a' c' (hs ++ [y]) (p ++ [r]) → w.grownBy w' (a.map (·.block)) → Below B w0 w' → wpList Try.prog ops Q rest (act.put o.dst (.slice a' (n + 1) c')) w') :
    wpList Try.prog ops Q (o :: rest) act (w.alloc (.cells #[hv y] 47)) := by
  subst hn0
  refine append_lit hg s x 28 hop 47 (.slice none 0 0) 1 24 Try.underlying28 info_row rfl w0 B a _ c _ hes hown.top 1 [hv y] hx rfl (by simp [hv, Value.oneCell']) hn (by unfold maxLen; omega) hB hbel ?_
  intro a' c' w' ho hgr hb
  exact hK a' c' w' (hown.push hy ho) hgr hb
/-- 'append(page, line)', the line anywhere -/
theorem app_vp (hg : o.guard = none) (s x : Operand) (hop : o.op = Op.call { callee := Callee.builtin Builtin.append, args := #[s, x], argTypes := #[29, 29] })
    (w0 v0 : World) (B : Nat) (a : Option Addr) (n c : Nat) (hs : List Hd) (p : List (List UInt8)) (hn0 : p.length = n) (hes : act.eval s = .slice a n c) (hown : VP v0 w B a c hs p)
    (y : Hd) (r : List UInt8) (hy : Sl v0 1 y.1 y.2.1 y.2.2 (r.map B8)) (hx : act.eval x = .slice (some ⟨w.heap.size, 0, none⟩) 1 1)
    (hn : (n + 1) * 24 ≤ 140737488355328) (hB : B ≤ w.heap.size) (hbel : Below B w0 w)
    (hK : ∀ a' c' w', VP v0 w' B a' c' (hs ++ [y]) (p ++ [r]) → w.grownBy w' (a.map (·.block)) → Below B w0 w' → wpList Try.prog ops Q rest (act.put o.dst (.slice a' (n + 1) c')) w') :
    wpList Try.prog ops Q (o :: rest) act (w.alloc (.cells #[hv y] 47)) := by
  subst hn0
  refine append_lit hg s x 29 hop 47 (.slice none 0 0) 1 24 Try.underlying29 info_row rfl w0 B a _ c _ hes hown.top 1 [hv y] hx rfl (by simp [hv, Value.oneCell']) hn (by unfold maxLen; omega) hB hbel ?_
  intro a' c' w' ho hgr hb
  exact hK a' c' w' (hown.push hy ho) hgr hb
end
end Go.Proofs.Ytmjkhmebpciopaa
end

/- the text T21 -/
section
/- Chapter 15: the entries of a line. -/
namespace Go.Dx
open Go.RowKit
/-- 'xs[l:]' of a slice of single cells: where it lies -/
theorem cut_lo_x {P : Program} {w : World} {ops : Array Oper} {rest : List Oper} {act : Act} {Q : Exit → Act → World → Prop} {ty : TypeId} {pos : String} {after : Array Edge} (d : Nat) (t : TypeId) (x lo : Operand) (e : TypeId) (ht : P.underlying t = some (.slice e)) (hsz : (P.info? e).map (·.size) = some 1)
    (a : Option Addr) (n c : Nat) (hx : act.eval x = .slice a n c) (hle : n ≤ c) (kl : IntKind) (lv : Int) (l : Nat) (hl : act.eval lo = .int kl lv)
    (hlv : lv = (l : Int)) (hln : l ≤ n) (a5 : Option Addr) (ha : (if c = l then a else a.map (·.add l)) = a5)
    (hK : wpList P ops Q rest (act.put (some d) (.slice a5 (n - l) (c - l))) w) :
    wpList P ops Q ({ dst := some d, op := .slice t x (some lo) none none, type := ty, pos := pos, after := after, guard := none } :: rest) act w := by
  refine wpList_plain rfl fun K hK' => ?_
  subst hlv ha
  obtain ⟨i0, hi0, hs0⟩ := Option.map_eq_some_iff.1 hsz
  have hrun : (Instr.sliceAt t (.slice a n c) (some (.int kl (l : Int))) none none).run P w = .ok (.slice (if c = l then a else a.map (·.add l)) (n - l) (c - l)) w := by
    have h2 : (0 : Int) ≤ l ∧ (l : Int) ≤ n := by omega
    simp [Instr.sliceAt, Instr.slice, Instr.sliceBounds, Instr.sliceBound, asIntOf, run_underlying ht, sizeOf, typeInfo, hi0, hs0, h2, hln]
  unfold Oper.wp
  simp only [execOp, Option.map_some, Option.map_none, hx, hl, Sem.run_bind, hrun, Result.andThen, Sem.run_pure]
  exact hK' _ _ hK
theorem Sl.from {w : World} {a : Option Addr} {n c : Nat} {α : Type} {f : α → Value} {R : List α} (h : Sl w 1 a n c (R.map f)) {s : Nat} (hs : s ≤ n) : Sl w 1 (if c = s then a else a.map (·.add s)) (n - s) (c - s) ((R.drop s).map f) := by
  have h1 := h.cut s n hs (Nat.le_refl _)
  have h2 := h.n_eq
  rw [Nat.mul_one, Nat.mul_one, ← List.map_drop, List.take_of_length_le (by rw [List.length_map, List.length_drop]; omega)] at h1
  exact h1
end Go.Dx
namespace Go.Proofs.Ytmjkhmebpciopaa
open Go.RowKit Go.Dx

theorem cut_more {R : List UInt8} {q : Nat} {u v : UInt8} (hv : R[q]? = some v) (hu : R[q + 1]? = some u) (h : ¬ (v.toNat = 0 ∧ u.toNat = 0)) (hc : cutA [] R = cutA (R.take q) (R.drop q)) : cutA [] R = cutA (R.take (q + 1)) (R.drop (q + 1)) := by
  have hq : q < R.length := (List.getElem?_eq_some_iff.1 hv).1
  have e1 : R.drop q = v :: R.drop (q + 1) := by
    rw [List.drop_eq_getElem_cons hq]
    congr 1
    exact (List.getElem?_eq_some_iff.1 hv).2
  have e2 : (R.drop (q + 1)).head? = some u := by rw [List.head?_drop]; exact hu
  rw [hc, e1, cutA_step (by
    rw [e2]
    rintro ⟨h1, h2⟩
    injection h2 with h2
    exact h ⟨by rw [h1]; rfl, by rw [h2]; rfl⟩), take_snoc hv]
theorem cut_here {R : List UInt8} {q : Nat} {u v : UInt8} (hv : R[q]? = some v) (hu : R[q + 1]? = some u) (h1 : v.toNat = 0) (h2 : u.toNat = 0) (hc : cutA [] R = cutA (R.take q) (R.drop q)) : cutA [] R = R.take q :: cutA [] (dropZ (R.drop (q + 1))) := by
  have hq : q < R.length := (List.getElem?_eq_some_iff.1 hv).1
  have ev : v = 0 := UInt8.toNat_inj.1 h1
  have eu : u = 0 := UInt8.toNat_inj.1 h2
  have e1 : R.drop q = v :: R.drop (q + 1) := by
    rw [List.drop_eq_getElem_cons hq]
    congr 1
    exact (List.getElem?_eq_some_iff.1 hv).2
  have e2 : (R.drop (q + 1)).head? = some u := by rw [List.head?_drop]; exact hu
  rw [hc, e1, ev, cutA_zero (by rw [e2, eu])]
theorem cut_end {R : List UInt8} {q : Nat} (hq : q + 1 = R.length) (hc : cutA [] R = cutA (R.take q) (R.drop q)) : cutA [] R = [R] := by
  have hv : R[q]? = some (R[q]'(by omega)) := by simp
  have e1 : R.drop q = R[q]'(by omega) :: R.drop (q + 1) := List.drop_eq_getElem_cons (by omega)
  have e3 : R.drop (q + 1) = [] := List.drop_eq_nil_of_le (by omega)
  have e4 : R.take (q + 1) = R := List.take_of_length_le (by omega)
  rw [hc, e1, e3, cutA_step (by simp), cutA_nil, ← take_snoc hv, e4]
theorem dropZ_more {R : List UInt8} {s : Nat} {u : UInt8} (hu : R[s]? = some u) (h : u.toNat = 0) : dropZ (R.drop s) = dropZ (R.drop (s + 1)) := by
  have hq : s < R.length := (List.getElem?_eq_some_iff.1 hu).1
  have e1 : R.drop s = u :: R.drop (s + 1) := by
    rw [List.drop_eq_getElem_cons hq]
    congr 1
    exact (List.getElem?_eq_some_iff.1 hu).2
  rw [e1]
  show (if u = 0 then dropZ _ else _) = _
  rw [if_pos (UInt8.toNat_inj.1 h)]
theorem dropZ_stop {R : List UInt8} {s : Nat} {u : UInt8} (hu : R[s]? = some u) (h : u.toNat ≠ 0) : dropZ (R.drop s) = R.drop s := by
  have hq : s < R.length := (List.getElem?_eq_some_iff.1 hu).1
  have e1 : R.drop s = u :: R.drop (s + 1) := by
    rw [List.drop_eq_getElem_cons hq]
    congr 1
    exact (List.getElem?_eq_some_iff.1 hu).2
  rw [e1]
  show (if u = 0 then dropZ _ else _) = _
  rw [if_neg (fun e => h (by rw [e]; rfl))]
theorem dropZ_end {R : List UInt8} {s : Nat} (h : R.length ≤ s) : dropZ (R.drop s) = R.drop s := by rw [List.drop_eq_nil_of_le h]; rfl

set_option maxRecDepth 100000 in
set_option maxHeartbeats 1000000 in
theorem tab_cut (l : List UInt8) (a : Option Addr) (n c : Nat) (w0 w : World) (hs : Sl w0 1 a n c (l.map B8)) (h0 : Below w0.heap.size w0 w) (hl : l.length ≤ 1000000) :
    Calls Try.prog 38 #[.slice a n c] w fun e w' => ∃ a' c' ks, e = .returned (.slice a' (cutL l).length c') ∧ VP w0 w' w.heap.size a' c' ks (cutL l) ∧ Below w.heap.size w w' := by
  obtain rfl := hs.n_eq
  unfold cutL
  go_enter Try.func38, Try.ntmps38
  go_wp2_with fail
  go_step3
  go_wp2_with fail
  go_step3
  go_wp2_with fail
  go_loopg [3, 4] l.length (fun g o r w' => ∃ (R : List UInt8) (ar : Option Addr) (cr : Nat) (dn : List (List UInt8)) (a2 : Option Addr) (c2 : Nat) (ks : List Hd), g = R.length ∧ r = .slice ar R.length cr ∧ Sl w0 1 ar R.length cr (R.map B8) ∧ o = .slice a2 dn.length c2 ∧ VP w0 w' w.heap.size a2 c2 ks dn ∧ dn ++ cutA [] R = cutA [] l ∧ R.length + dn.length ≤ l.length ∧ Below w.heap.size w w')
  case atStart => exact ⟨l, a, c, [], none, 0, [], rfl, rfl, hs, rfl, VP.nil _ _ _, rfl, by simp, Below.refl _ _⟩
  case round =>
    clear hs
    obtain ⟨R, ar, cr, dn, a2, c2, ks, hg, rfl, hR, rfl, hvp, hdn, hRl, hbk⟩ := hrel
    have HG := hide hg
    have HDN := hide hdn
    clear hg hdn
    rcases Nat.eq_zero_or_pos R.length with hR0 | hR0
    · have hRn : R = [] := List.eq_nil_of_length_eq_zero hR0
      subst hRn
      have HE : Hid (dn ++ [[]] = cutA [] l) := hide (by rw [← HDN.out, cutA_nil])
      clear hR0
      go_wp2_with (at_builtin; refine app_vq rfl _ _ rfl w w0 w.heap.size _ _ _ ks dn rfl rfl hvp (none, 0, 0) [] (Sl.empty _ _) rfl (by omega) hbk.size hbk ?_; intro a' c' w' ho' hgr' hb')
      rw [Exit.noGoto_ret]
      go_ret
      rw [← HE.out]
      exact ⟨a', c', _, by rw [List.length_append]; rfl, ho', hb'⟩
    · have hRk := hR.below (h0.trans (hbk.mono h0.size))
      obtain ⟨b, o, rfl, hbw, hcell⟩ := hRk.ex (by rw [List.length_map]; exact hR0)
      have HC : Hid (∀ i x, R[i]? = some x → wr.cell? ⟨b, o + i, none⟩ = some (.int .u8 (x.toNat : Int))) := hide (fun i x h => hcell i _ (by rw [List.getElem?_map, h]; rfl))
      clear hcell
      obtain ⟨wy, rfl⟩ : ∃ wy : World, wy = wr := ⟨_, rfl⟩
      have d0 : decide (0 < (R.length : Int)) = true := decide_eq_true (by omega)
      go_wp2_with fail
      go_loopg [3, 4, 5] R.length (fun g o' r' i w' => ∃ q : Nat, q + 1 ≤ R.length ∧ g = R.length - q ∧ o' = .slice a2 dn.length c2 ∧ r' = .slice (some ⟨b, o, none⟩) R.length cr ∧ i = .int .i64 ((q : Int) + 1) ∧ Hid (cutA [] R = cutA (R.take q) (R.drop q)) ∧ wy = w')
      case atStart => exact ⟨0, by omega, by omega, rfl, rfl, by go_num, hide rfl, rfl⟩
      case round =>
        obtain ⟨q, hq, hg1, rfl, rfl, rfl, HQ, rfl⟩ := hrel
        have HG1 := hide hg1
        clear hg1
        by_cases hql : q + 1 < R.length
        · obtain ⟨u, hu⟩ : ∃ u, R[q + 1]? = some u := ⟨R[q + 1]'hql, by simp⟩
          obtain ⟨v, hv⟩ : ∃ v, R[q]? = some v := ⟨R[q]'(by omega), by simp⟩
          have cu := HC.out (q + 1) u hu
          have cv := HC.out q v hv
          have HU := hide hu
          have HV := hide hv
          clear hu hv
          have d1 : decide ((q : Int) + 1 < (R.length : Int)) = true := decide_eq_true (by omega)
          by_cases hu0 : u.toNat = 0
          · have e1 : ((u.toNat : Int) == 0) = true := by simp [hu0]
            by_cases hv0 : v.toNat = 0
            · have e2 : ((v.toNat : Int) == 0) = true := by simp [hv0]
              have HH := hide (cut_here HV.out HU.out hv0 hu0 HQ.out)
              have hbq := hbk
              clear hu0 hv0
              go_wp2_with (first
                | (with_reducible refine cuthi_b 33 _ _ _ _ _ R rfl hRk _ _ q rfl (by omega) (by omega) ?_; intro hcut)
                | (at_builtin; refine app_vq rfl _ _ rfl w w0 w.heap.size _ _ _ ks dn rfl rfl hvp (some ⟨b, o, none⟩, q, cr) (R.take q) (by have := hR.take q (by omega); rw [← List.map_take] at this; exact this) rfl (by omega) hbk.size hbk ?_; intro a' c' w' ho' hgr' hb'))
              have HC2 : Hid (∀ i x, R[i]? = some x → w'.cell? ⟨b, o + i, none⟩ = some (.int .u8 (x.toNat : Int))) := hide (fun i x h => by
                have := (hR.below (h0.trans (hb'.mono h0.size))).cell ⟨b, o, none⟩ rfl i (.int .u8 (x.toNat : Int)) (by rw [List.getElem?_map, h]; rfl)
                rwa [Addr.add_lit] at this)
              clear hcut
              go_loopg [5] R.length (fun g i w2 => ∃ s : Nat, q + 1 ≤ s ∧ s ≤ R.length ∧ g = R.length - s + (q + 1) ∧ i = .int .i64 (s : Int) ∧ Hid (dropZ (R.drop (q + 1)) = dropZ (R.drop s)) ∧ w' = w2)
              case atStart => exact ⟨q + 1, by omega, by omega, by omega, by go_num, hide rfl, rfl⟩
              case round =>
                obtain ⟨s, hs1, hs2, hg2, rfl, HD, rfl⟩ := hrel
                have HG2 := hide hg2
                clear hg2
                have fin : ∀ R2, R2 = R.drop s → dropZ (R.drop s) = R.drop s → (dn ++ [R.take q]) ++ cutA [] R2 = cutA [] l ∧ R2.length + (dn ++ [R.take q]).length ≤ l.length ∧ R2.length < R.length := by
                  rintro R2 rfl hd
                  refine ⟨?_, ?_, ?_⟩
                  · rw [← HDN.out, HH.out, HD.out, hd, List.append_assoc]; rfl
                  · rw [List.length_append, List.length_drop]; simp; omega
                  · rw [List.length_drop]; omega
                have FIN := hide fin
                clear fin
                have hR2 := hR.from hs2
                obtain ⟨a5, HA5⟩ : ∃ a5, Hid ((if cr = s then (some ⟨b, o, none⟩ : Option Addr) else (some ⟨b, o, none⟩ : Option Addr).map (·.add s)) = a5) := ⟨_, hide rfl⟩
                rw [HA5.out] at hR2
                have HLD : Hid ((R.drop s).length = R.length - s) := hide (by rw [List.length_drop])
                by_cases hsl : s < R.length
                · obtain ⟨x, hx⟩ : ∃ x, R[s]? = some x := ⟨R[s]'hsl, by simp⟩
                  have cx := HC2.out s x hx
                  have HX := hide hx
                  clear hx
                  by_cases hx0 : x.toNat = 0
                  · have e3 : ((x.toNat : Int) == 0) = true := by simp [hx0]
                    have HD2 : Hid (dropZ (R.drop (q + 1)) = dropZ (R.drop (s + 1))) := hide (by rw [HD.out, dropZ_more HX.out hx0])
                    clear hx0
                    go_wp2_with fail
                    go_roundg (R.length - (s + 1) + (q + 1))
                    case measure => have := HG2.out; omega
                    case rel => exact ⟨s + 1, by omega, by omega, rfl, by go_num, HD2, rfl⟩
                  · have e3 : ((x.toNat : Int) == 0) = false := beq_eq_false_iff_ne.2 (by omega)
                    have HZ := hide (FIN.out _ rfl (dropZ_stop HX.out hx0))
                    clear hx0
                    have hRw := hR.below (h0.trans (hb'.mono h0.size))
                    go_wp2_with (refine cut_lo_x 51 47 _ _ 5 Try.underlying47 size_u8 _ _ _ rfl hRw.le _ _ s rfl rfl hs2 a5 HA5.out ?_)
                    go_roundg (R.length - s)
                    case measure => have := HG.out; have := HZ.out.2.2; rw [HLD.out] at this; omega
                    case rel => exact ⟨R.drop s, a5, cr - s, dn ++ [R.take q], a', c', _, by rw [HLD.out], by rw [HLD.out], by rw [HLD.out]; exact hR2, by rw [List.length_append]; rfl, ho', HZ.out.1, HZ.out.2.1, hb'⟩
                · have HZ := hide (FIN.out _ rfl (dropZ_end (by omega)))
                  obtain rfl : R.length = s := by omega
                  have hRw := hR.below (h0.trans (hb'.mono h0.size))
                  go_wp2_with (refine cut_lo_x 51 47 _ _ 5 Try.underlying47 size_u8 _ _ _ rfl hRw.le _ _ R.length rfl rfl hs2 a5 HA5.out ?_)
                  go_roundg (R.length - R.length)
                  case measure => have := HG.out; have := HZ.out.2.2; rw [HLD.out] at this; omega
                  case rel => exact ⟨R.drop R.length, a5, cr - R.length, dn ++ [R.take q], a', c', _, by rw [HLD.out], by rw [HLD.out, Nat.sub_self], by rw [HLD.out]; exact hR2, by rw [List.length_append]; rfl, ho', HZ.out.1, HZ.out.2.1, hb'⟩
            · have e2 : ((v.toNat : Int) == 0) = false := beq_eq_false_iff_ne.2 (by omega)
              have HM := hide (cut_more HV.out HU.out (fun h => hv0 h.1) HQ.out)
              clear hv0 hu0
              go_wp2_with fail
              go_roundg (R.length - (q + 1))
              case measure => have := HG1.out; omega
              case rel => exact ⟨q + 1, by omega, rfl, rfl, rfl, by go_num, HM, rfl⟩
          · have e1 : ((u.toNat : Int) == 0) = false := beq_eq_false_iff_ne.2 (by omega)
            have HM := hide (cut_more HV.out HU.out (fun h => hu0 h.2) HQ.out)
            clear hu0
            go_wp2_with fail
            go_roundg (R.length - (q + 1))
            case measure => have := HG1.out; omega
            case rel => exact ⟨q + 1, by omega, rfl, rfl, rfl, by go_num, HM, rfl⟩
        · have hqe : q + 1 = R.length := by omega
          have HE : Hid (dn ++ [R] = cutA [] l) := hide (by rw [← HDN.out, cut_end hqe HQ.out])
          have d1 : decide ((q : Int) + 1 < (R.length : Int)) = false := decide_eq_false (by omega)
          clear hqe
          go_wp2_with (at_builtin; refine app_vq rfl _ _ rfl w w0 w.heap.size _ _ _ ks dn rfl rfl hvp (some ⟨b, o, none⟩, R.length, cr) R hR rfl (by omega) hbk.size hbk ?_; intro a' c' w' ho' hgr' hb')
          rw [Exit.noGoto_ret]
          go_ret
          rw [← HE.out]
          exact ⟨a', c', _, by rw [List.length_append]; rfl, ho', hb'⟩
end Go.Proofs.Ytmjkhmebpciopaa
end

/- the text AppF -/
section
/- The laws on append once more: the block that is handed back is the old one or a new one. No program in sight. -/
set_option linter.unusedVariables false
namespace Go.Dx
open Go.RowKit
section laws
variable {P : Program} {w : World} {ops : Array Oper} {rest : List Oper} {o : Oper} {act : Act} {Q : Exit → Act → World → Prop}
theorem run_append_fresh (base : Nat) (t tx ty e : TypeId) (i : TypeInfo) (z : Value) (ht : P.underlying t = some (.slice e)) (hi : P.info? e = some i) (hz : i.zero = some z)
    (hzs : z.cells.size = i.size) (a : Option Addr) (n c : Nat) (xs : List Value) (hown : Own w base e i.size a n c xs)
    (x : Value) (m : Nat) (news : List Value) (hs : Src P i.size tx x m news w)
    (h63 : n + m ≤ maxLen) (hbytes : (n + m) * i.bytes ≤ 140737488355328) (hbase : base ≤ w.heap.size) :
    ∃ a' c' w', (Builtin.append_ #[t, tx] ty #[.slice a n c, x]).run P w = .ok (.slice a' (n + m) c') w' ∧ Own w' base e i.size a' (n + m) c' (xs ++ news) ∧ w.grownBy w' (a.map (·.block)) ∧ (∀ p, a' = some p → (∃ q, a = some q ∧ q.block = p.block) ∨ w.heap.size ≤ p.block) := by
  have hsmall : n + m ≤ 9223372036854775807 := by simp only [maxLen] at h63; omega
  have hlen : (xs ++ news).length = (n + m) * i.size := by rw [List.length_append, hown.1, hs.newsLen, Nat.add_mul]
  have hold : (Builtin.firstCells i.size n (.slice a n c)).run P w.drew = .ok xs.toArray w.drew := by
    have hsl := hown.sl
    cases a with
    | none =>
      have := hsl.nil rfl
      have := hsl.le
      obtain rfl : n = 0 := by omega
      have hnews : xs = [] := List.eq_nil_of_length_eq_zero (by simpa using hsl.len)
      subst hnews
      exact run_firstCells_none w.drew i.size 0 0 c
    | some p => exact run_firstCells_some w.drew i.size n p n c xs hsl.len (by simpa using hsl.cell p rfl)
  by_cases hroom : n + m ≤ c
  · rcases hown.2 with ⟨h1, h2⟩ | ⟨g, cap, cur, h1, hbg, hg, hnc, hcm, hcs, htake⟩
    · injection h1 with h1 h3 h4
      subst h1 h3 h4
      obtain rfl : m = 0 := by omega
      have hx : xs = [] := List.eq_nil_of_length_eq_zero (by simpa using hown.1)
      have hnews : news = [] := List.eq_nil_of_length_eq_zero (by simpa using hs.newsLen)
      subst hx hnews
      refine ⟨none, 0, w, ?_, Own.nil w base e i.size, World.grownBy.refl _ _, fun p hp => by cases hp⟩
      rcases hs.kind with ⟨e', hk⟩ | hk <;> simp [Builtin.append_, run_underlying ht, run_underlying hk, sizeOf, typeInfo, hi, hs.len, hs.cells]
    · injection h1 with h1 h3 h4
      subst h1 h4
      have hfit : n * i.size + news.length ≤ cur.size := by rw [hs.newsLen, hcs, ← Nat.add_mul]; exact Nat.mul_le_mul_right _ hroom
      have hst := run_storeCells_at P g (n * i.size) e news 0 cur w hg (by simpa using hfit) hs.one
      simp only [Nat.add_zero] at hst
      refine ⟨some ⟨g, 0, none⟩, c, w.setRow g (cur.toList.take (n * i.size) ++ news ++ cur.toList.drop (n * i.size + news.length)).toArray, ?_, ⟨hlen, .inr ⟨g, c, _, rfl, hbg, setRow_heap w g cur _ e _ hg, hroom, hcm, ?_, ?_⟩⟩, ⟨rfl, rfl, rfl, by simp, fun k _ hk => setRow_other w g k _ (fun e => hk (by simp [e]))⟩, fun p hp => by cases hp; exact .inl ⟨_, rfl, rfl⟩⟩
      · rcases hs.kind with ⟨e', hk⟩ | hk <;> simp [Builtin.append_, run_underlying ht, run_underlying hk, sizeOf, typeInfo, hi, hs.len, hroom, hs.cells, Addr.add_lit, hst]
      · simp only [List.size_toArray, List.length_append, List.length_take, List.length_drop, Array.length_toList]
        omega
      · rw [htake, ← hlen]
        exact List.take_left
  · have hr := run_append_grow_src (P := P) w t tx ty e i z ht hi hz a n c xs hold x m news hs (by omega) (by omega) (growslice_fits (by omega) hbytes)
    have hge := grownCap_ge w (n + m) c e
    have hcm : grownCap w (n + m) c e ≤ maxLen := grownCap_le_maxLen w (n + m) c e h63
    refine ⟨_, _, _, hr, ⟨hlen, .inr ⟨w.heap.size, _, _, rfl, hbase, heap_alloc_new w.drew _, hge, hcm, ?_, ?_⟩⟩, ⟨rfl, rfl, rfl, by simp, fun k hk _ => Below.heap_alloc w.drew _ k hk⟩, fun p hp => by cases hp; exact .inr (Nat.le_refl _)⟩
    · simp only [Array.size_append, List.size_toArray, size_zeroCells, hzs, hlen, ← Nat.add_mul]
      congr 1
      omega
    · simp only [Array.toList_append, List.append_assoc]
      rw [← List.append_assoc, ← hlen]
      exact List.take_left

/-- 'append(out, x...)', out owned, whatever x is: the general law. -/
theorem append_src_f (hg : o.guard = none) (s x : Operand) (t tx : TypeId) (hop : o.op = Op.call { callee := Callee.builtin Builtin.append, args := #[s, x], argTypes := #[t, tx] })
    (e : TypeId) (z : Value) (sz bytes : Nat) (ht : P.underlying t = some (.slice e)) (hi : (P.info? e).map (fun i => (i.zero, i.size, i.bytes)) = some (some z, sz, bytes)) (hz : z.cells.size = sz)
    (w0 : World) (B : Nat) (a : Option Addr) (n c : Nat) (xs : List Value) (hs : act.eval s = .slice a n c) (hown : Own w B e sz a n c xs)
    (v : Value) (m : Nat) (ys : List Value) (hx : act.eval x = v) (hy : Src P sz tx v m ys w)
    (hn : (n + m) * bytes ≤ 140737488355328) (hn2 : n + m ≤ maxLen) (hB : B ≤ w.heap.size) (hbel : Below B w0 w)
    (hK : ∀ a' c' w', Own w' B e sz a' (n + m) c' (xs ++ ys) → w.grownBy w' (a.map (·.block)) → (∀ p, a' = some p → (∃ q, a = some q ∧ q.block = p.block) ∨ w.heap.size ≤ p.block) → Below B w0 w' → wpList P ops Q rest (act.put o.dst (.slice a' (n + m) c')) w') :
    wpList P ops Q (o :: rest) act w := by
  obtain ⟨i, hi0, hz0, hz1, hz2⟩ := info_parts hi
  subst hz1 hz2
  clear hi
  obtain ⟨a', c', w', hrun, ho, hgr, hfr⟩ := run_append_fresh B t tx o.type e i z ht hi0 hz0 hz a n c xs hown v m ys hy hn2 hn hB
  refine wpList_plain hg fun K hK' => ?_
  unfold Oper.wp
  simp [execOp, hop, resolve, invoke, builtin, hs, hx, hrun, Result.andThen]
  refine hK' _ _ (hK a' c' w' ho hgr hfr (hbel.grown hgr hB ?_))
  intro k hk
  cases a with
  | none => cases hk
  | some p => injection hk with hk; subst hk; exact hown.base.1

/-- 'append(out, ys...)', out owned, ys a slice. -/
theorem append_own_f (hg : o.guard = none) (s x : Operand) (t : TypeId) (hop : o.op = Op.call { callee := Callee.builtin Builtin.append, args := #[s, x], argTypes := #[t, t] })
    (e : TypeId) (z : Value) (sz bytes : Nat) (ht : P.underlying t = some (.slice e)) (hi : (P.info? e).map (fun i => (i.zero, i.size, i.bytes)) = some (some z, sz, bytes)) (hz : z.cells.size = sz)
    (w0 : World) (B : Nat) (a : Option Addr) (n c : Nat) (xs : List Value) (hs : act.eval s = .slice a n c) (hown : Own w B e sz a n c xs)
    (a2 : Option Addr) (m c2 : Nat) (ys : List Value) (hx : act.eval x = .slice a2 m c2) (hy : Sl w sz a2 m c2 ys) (h1 : ∀ u ∈ ys, u.oneCell' = true)
    (hn : (n + m) * bytes ≤ 140737488355328) (hn2 : n + m ≤ maxLen) (hB : B ≤ w.heap.size) (hbel : Below B w0 w)
    (hK : ∀ a' c' w', Own w' B e sz a' (n + m) c' (xs ++ ys) → w.grownBy w' (a.map (·.block)) → (∀ p, a' = some p → (∃ q, a = some q ∧ q.block = p.block) ∨ w.heap.size ≤ p.block) → Below B w0 w' → wpList P ops Q rest (act.put o.dst (.slice a' (n + m) c')) w') :
    wpList P ops Q (o :: rest) act w :=
  append_src_f hg s x t t hop e z sz bytes ht hi hz w0 B a n c xs hs hown _ m ys hx (hy.src ht h1) hn hn2 hB hbel hK

theorem append_lit_f (hg : o.guard = none) (s x : Operand) (t : TypeId) (hop : o.op = Op.call { callee := Callee.builtin Builtin.append, args := #[s, x], argTypes := #[t, t] })
    (e : TypeId) (z : Value) (sz bytes : Nat) (ht : P.underlying t = some (.slice e)) (hi : (P.info? e).map (fun i => (i.zero, i.size, i.bytes)) = some (some z, sz, bytes)) (hz : z.cells.size = sz)
    (w0 : World) (B : Nat) (a : Option Addr) (n c : Nat) (xs : List Value) (hs : act.eval s = .slice a n c) (hown : Own w B e sz a n c xs)
    (m : Nat) (us : List Value) (hx : act.eval x = .slice (some ⟨w.heap.size, 0, none⟩) m m) (hu : us.length = m * sz) (h1 : ∀ u ∈ us, u.oneCell' = true)
    (hn : (n + m) * bytes ≤ 140737488355328) (hn2 : n + m ≤ maxLen) (hB : B ≤ w.heap.size) (hbel : Below B w0 w)
    (hK : ∀ a' c' w', Own w' B e sz a' (n + m) c' (xs ++ us) → w.grownBy w' (a.map (·.block)) → (∀ p, a' = some p → (∃ q, a = some q ∧ q.block = p.block) ∨ w.heap.size ≤ p.block) → Below B w0 w' → wpList P ops Q rest (act.put o.dst (.slice a' (n + m) c')) w') :
    wpList P ops Q (o :: rest) act (w.alloc (.cells us.toArray e)) := by
  refine append_own_f hg s x t hop e z sz bytes ht hi hz w0 B a n c xs hs (hown.alloc _) _ m m us hx ?_ h1 hn hn2 (by simp; omega) (hbel.alloc hB _) ?_
  · have := (Own.built w 0 e sz m us.toArray (Nat.zero_le _) (by simpa using hu) (by omega)).sl
    simpa using this
  · intro a' c' w' ho hgr hfr hb
    refine hK a' c' w' ho ⟨hgr.os, hgr.tape, hgr.output, ?_, ?_⟩ (fun p hp => (hfr p hp).imp id (fun h => by simp at h; omega)) hb
    · have := hgr.size; simp at this; omega
    · intro k hk hne
      rw [hgr.block k (by simp; omega) hne]
      rw [Below.heap_alloc _ _ _ hk]
end laws
end Go.Dx
end

/- the text T22 -/
section
/- Chapter 15: lists of rows that the call owns, of entries that lay in the world w0; the blocks of a page. -/
namespace Go.Proofs.Ytmjkhmebpciopaa
open Go.RowKit Go.Dx

/-- the blocks are all different -/
def Apt (hs : List Hd) : Prop := ∀ (i j : Nat) (x y : Hd), hs[i]? = some x → hs[j]? = some y → i ≠ j → ∀ q q', x.1 = some q → y.1 = some q' → q.block ≠ q'.block
theorem Apt.nil : Apt [] := fun i j x y h => by cases h
theorem Apt.push {hs : List Hd} {x : Hd} (h : Apt hs) (hx : ∀ (i : Nat) (y : Hd) (q q' : Addr), hs[i]? = some y → y.1 = some q → x.1 = some q' → q.block ≠ q'.block) : Apt (hs ++ [x]) := by
  intro i j y z hy hz hij q q' hq hq'
  rw [List.getElem?_append] at hy hz
  by_cases hi : i < hs.length
  · rw [if_pos hi] at hy
    by_cases hj : j < hs.length
    · rw [if_pos hj] at hz
      exact h i j y z hy hz hij q q' hq hq'
    · rw [if_neg hj] at hz
      have e : j - hs.length = 0 := by have := (List.getElem?_eq_some_iff.1 hz).1; simp at this; omega
      rw [e] at hz; simp at hz; subst hz
      exact hx i y q q' hy hq hq'
  · rw [if_neg hi] at hy
    have e : i - hs.length = 0 := by have := (List.getElem?_eq_some_iff.1 hy).1; simp at this; omega
    rw [e] at hy; simp at hy; subst hy
    by_cases hj : j < hs.length
    · rw [if_pos hj] at hz
      exact fun e => hx j z q' q hz hq' hq e.symm
    · rw [if_neg hj] at hz
      have := (List.getElem?_eq_some_iff.1 hz).1
      simp at this; omega
theorem Apt.set {hs : List Hd} {i : Nat} {x : Hd} (h : Apt hs) (hx : ∀ (j : Nat) (y : Hd) (q q' : Addr), j ≠ i → hs[j]? = some y → y.1 = some q → x.1 = some q' → q.block ≠ q'.block) : Apt (hs.set i x) := by
  intro j k y z hy hz hjk q q' hq hq'
  rw [List.getElem?_set] at hy hz
  by_cases h1 : i = j
  · rw [if_pos h1] at hy
    split at hy
    · cases hy
      rw [if_neg (by omega)] at hz
      exact fun e => hx k z q' q (by omega) hz hq' hq e.symm
    · cases hy
  · rw [if_neg h1] at hy
    by_cases h2 : i = k
    · rw [if_pos h2] at hz
      split at hz
      · cases hz
        exact hx j y q q' (by omega) hy hq hq'
      · cases hz
    · rw [if_neg h2] at hz
      exact h j k y z hy hz hjk q q' hq hq'
/-- a list of rows: its elements have type e -/
structure V3 (w0 w : World) (B : Nat) (e : TypeId) (a : Option Addr) (c : Nat) (hs : List Hd) (X : List (List (List UInt8))) : Prop where
  top : Own w B e 1 a X.length c (hs.map hv)
  len : hs.length = X.length
  row : ∀ (i : Nat) (h : Hd) (q : List (List UInt8)), hs[i]? = some h → X[i]? = some q → (∃ ks, VP w0 w B h.1 h.2.2 ks q) ∧ h.2.1 = q.length
  apt : Apt hs
section
variable {w0 w w' : World} {B : Nat} {e : TypeId} {a : Option Addr} {c : Nat} {hs : List Hd} {X : List (List (List UInt8))}
theorem V3.nil (w0 w : World) (B : Nat) (e : TypeId) : V3 w0 w B e none 0 [] [] := ⟨Own.nil _ _ _ _, rfl, (fun i h r h1 => by cases h1), Apt.nil⟩
theorem V3.below (h : V3 w0 w B e a c hs X) (hb : Below w.heap.size w w') : V3 w0 w' B e a c hs X :=
  ⟨h.top.below hb, h.len, fun i x q h1 h2 => by obtain ⟨⟨ks, hk⟩, e⟩ := h.row i x q h1 h2; exact ⟨⟨ks, hk.below hb⟩, e⟩, h.apt⟩
theorem V3.lt (h : V3 w0 w B e a c hs X) {i : Nat} {x : Hd} {q : Addr} (hx : hs[i]? = some x) (hq : x.1 = some q) : B ≤ q.block ∧ q.block < w.heap.size := by
  have hi : i < X.length := by rw [← h.len]; exact (List.getElem?_eq_some_iff.1 hx).1
  obtain ⟨⟨ks, hk⟩, _⟩ := h.row i x X[i] hx (by simp [hi])
  have h1 := hk.top
  rw [hq] at h1
  exact h1.base
theorem V3.row_ne (h : V3 w0 w B e a c hs X) (he : e ≠ 47) {i : Nat} {x : Hd} {q t : Addr} (hx : hs[i]? = some x) (hq : x.1 = some q) (ht : a = some t) : q.block ≠ t.block := by
  have hi : i < X.length := by rw [← h.len]; exact (List.getElem?_eq_some_iff.1 hx).1
  obtain ⟨⟨ks, hk⟩, _⟩ := h.row i x X[i] hx (by simp [hi])
  have h1 := hk.top
  have h2 := h.top
  rw [hq] at h1
  rw [ht] at h2
  exact own_ne h1 h2 (fun h => he h.symm)
theorem VP.kept {ks : List Hd} {p : List (List UInt8)} {row : Option Nat} (h : VP w0 w B a c ks p) (hg : w.grownBy w' row) (hne : ∀ q, a = some q → some q.block ≠ row) : VP w0 w' B a c ks p := ⟨h.top.kept hg hne, h.len, h.ent⟩
theorem V3.push {a' : Option Addr} {c' : Nat} {x : Hd} {ks : List Hd} {q : List (List UInt8)} (h : V3 w0 w B e a c hs X) (he : e ≠ 47) (hx : VP w0 w B x.1 x.2.2 ks q) (hl : x.2.1 = q.length)
    (hne : ∀ (i : Nat) (y : Hd) (p p' : Addr), hs[i]? = some y → y.1 = some p → x.1 = some p' → p.block ≠ p'.block)
    (ht : Own w' B e 1 a' (X.length + 1) c' (hs.map hv ++ [hv x])) (hg : w.grownBy w' (a.map (·.block))) : V3 w0 w' B e a' c' (hs ++ [x]) (X ++ [q]) := by
  refine ⟨by rw [List.length_append, List.map_append]; exact ht, by simp [h.len], ?_, Apt.push h.apt hne⟩
  intro i y s h1 h2
  rw [List.getElem?_append] at h1 h2
  by_cases hi : i < hs.length
  · rw [if_pos hi] at h1
    rw [if_pos (by rw [← h.len]; exact hi)] at h2
    obtain ⟨⟨k2, hk⟩, e2⟩ := h.row i y s h1 h2
    refine ⟨⟨k2, hk.kept hg fun p hp e3 => ?_⟩, e2⟩
    cases ha : a with
    | none => rw [ha] at e3; cases e3
    | some t => rw [ha] at e3; exact h.row_ne he h1 hp ha (by simpa using e3)
  · rw [if_neg hi] at h1
    rw [if_neg (by rw [← h.len]; exact hi)] at h2
    have e1 : i - hs.length = 0 := by
      have := (List.getElem?_eq_some_iff.1 h1).1
      simp at this; omega
    rw [e1] at h1
    have e2 : i - X.length = 0 := by rw [← h.len]; exact e1
    rw [e2] at h2
    simp at h1 h2
    subst h1 h2
    refine ⟨⟨ks, hx.kept hg fun p hp e3 => ?_⟩, hl⟩
    cases ha : a with
    | none => rw [ha] at e3; cases e3
    | some t =>
      have h1 := hx.top
      have h2 := h.top
      rw [hp] at h1
      rw [ha] at h2 e3
      exact own_ne h1 h2 (fun h => he h.symm) (by simpa using e3)
theorem V3.top_kept {t : Addr} {i : Nat} {x : Hd} (h : V3 w0 w B e (some t) c hs X) (he : e ≠ 47) (hi : hs[i]? = some x) (hg : w.grownBy w' (x.1.map (·.block))) : Own w' B e 1 (some t) X.length c (hs.map hv) := by
  refine h.top.kept hg fun p hp e3 => ?_
  cases hp
  cases hx : x.1 with
  | none => rw [hx] at e3; cases e3
  | some q' =>
    rw [hx] at e3
    exact h.row_ne he hi hx rfl (by have := e3; simp at this; exact this.symm)
/-- one row grows -/
theorem V3.replace {t : Addr} {i : Nat} {x y : Hd} {ks : List Hd} {q : List (List UInt8)} (h : V3 w0 w B e (some t) c hs X) (he : e ≠ 47) (hi : hs[i]? = some x) (hg : w.grownBy w' (x.1.map (·.block)))
    (hy : VP w0 w' B y.1 y.2.2 ks q) (hl : y.2.1 = q.length) (hfr : ∀ p, y.1 = some p → (∃ q, x.1 = some q ∧ q.block = p.block) ∨ w.heap.size ≤ p.block) :
    V3 w0 (w'.setCell ⟨t.block, i, none⟩ (hv y)) B e (some t) c (hs.set i y) (X.set i q) := by
  have hil : i < hs.length := (List.getElem?_eq_some_iff.1 hi).1
  have hiX : i < X.length := by rw [← h.len]; exact hil
  have ht := h.top_kept he hi hg
  have hap : ∀ (j : Nat) (z : Hd) (p p' : Addr), j ≠ i → hs[j]? = some z → z.1 = some p → y.1 = some p' → p.block ≠ p'.block := by
    intro j z p p' hj hz hp hp' e3
    rcases hfr p' hp' with ⟨q', hq', e4⟩ | h4
    · exact h.apt j i z x hz hi hj p q' hp hq' (by rw [e3, e4])
    · have := (h.lt hz hp).2
      omega
  refine ⟨?_, by rw [List.length_set, List.length_set]; exact h.len, ?_, Apt.set h.apt hap⟩
  · have := ht.put (i := i) (hv y)
    rw [List.length_set, List.map_set]; exact this
  · intro j z s hz hs'
    rw [List.getElem?_set] at hz hs'
    by_cases hj : i = j
    · subst hj
      rw [if_pos rfl, if_pos hil] at hz
      rw [if_pos rfl, if_pos hiX] at hs'
      cases hz; cases hs'
      refine ⟨⟨ks, ⟨hy.top.set_other (fun p hp => ?_) _, hy.len, hy.ent⟩⟩, hl⟩
      have h1 := hy.top
      rw [hp] at h1
      show p.block ≠ t.block
      exact own_ne h1 ht (fun h => he h.symm)
    · rw [if_neg hj] at hz hs'
      obtain ⟨⟨k2, hk⟩, e2⟩ := h.row j z s hz hs'
      have hk' := hk.kept hg fun p hp e3 => by
        cases hx : x.1 with
        | none => rw [hx] at e3; cases e3
        | some q' =>
          rw [hx] at e3
          exact h.apt j i z x hz hi (fun e => hj e.symm) p q' hp hx (by simpa using e3)
      refine ⟨⟨k2, ⟨hk'.top.set_other (fun p hp => ?_) _, hk'.len, hk'.ent⟩⟩, e2⟩
      have h1 := hk'.top
      rw [hp] at h1
      show p.block ≠ t.block
      exact own_ne h1 ht (fun h => he h.symm)
theorem V3.get (h : V3 w0 w B e a c hs X) {i : Nat} {q : List (List UInt8)} (hq : X[i]? = some q) : ∃ x ks, hs[i]? = some x ∧ hv x = .slice x.1 q.length x.2.2 ∧ VP w0 w B x.1 x.2.2 ks q := by
  have hi : i < hs.length := by rw [h.len]; exact (List.getElem?_eq_some_iff.1 hq).1
  have hx : hs[i]? = some hs[i] := by simp [hi]
  obtain ⟨⟨ks, hk⟩, e2⟩ := h.row i _ q hx hq
  exact ⟨_, ks, hx, by unfold hv; rw [e2], hk⟩
theorem V3.pg3 (h : V3 w0 w B e a c hs X) (hb : Below w0.heap.size w0 w) : Pg3 w a X.length c hs X :=
  ⟨h.top.sl, h.len, fun i x q h1 h2 => by obtain ⟨⟨ks, hk⟩, e2⟩ := h.row i x q h1 h2; rw [e2]; exact ⟨ks, hk.pg hb⟩⟩
end

theorem blk_end (cur : List (List UInt8)) : blk cur [] = [cur] := rfl
theorem blk_cut {cur : List (List UInt8)} {r : List UInt8} {t : List (List UInt8)} (h : r = []) : blk cur (r :: t) = cur :: blk [] t := if_pos h
theorem blk_in {cur : List (List UInt8)} {r : List UInt8} {t : List (List UInt8)} (h : r ≠ []) : blk cur (r :: t) = blk (cur ++ [r]) t := if_neg h
theorem drop_cons {α : Type} {l : List α} {i : Nat} {x : α} (h : l[i]? = some x) : l.drop i = x :: l.drop (i + 1) := by
  have hi := (List.getElem?_eq_some_iff.1 h).1
  rw [List.drop_eq_getElem_cons hi]
  congr 1
  exact (List.getElem?_eq_some_iff.1 h).2
theorem info_page : (Try.prog.info? 29).map (fun i => (i.zero, i.size, i.bytes)) = some (some (.slice none 0 0), 1, 24) := by kernel_rfl
theorem size_page : (Try.prog.info? 29).map (·.size) = some 1 := by kernel_rfl
theorem page_ne : (29 : TypeId) ≠ 47 := by decide
theorem rows_ne : (28 : TypeId) ≠ 47 := by decide
theorem set_last {α : Type} (l : List α) (x y : α) : (l ++ [x]).set l.length y = l ++ [y] := by simp
set_option maxRecDepth 100000 in
set_option maxHeartbeats 1000000 in
theorem tab_blocks (p : List (List UInt8)) (hs : List Hd) (a : Option Addr) (n c : Nat) (w : World) (hp : Pg w a n c hs p) (hl : p.length ≤ 1000000) :
    Calls Try.prog 37 #[.slice a n c] w fun e w' => ∃ a' c' ks, e = .returned (.slice a' (blk [] p).length c') ∧ V3 w w' w.heap.size 29 a' c' ks (blk [] p) ∧ Below w.heap.size w w' := by
  obtain rfl := hp.n_eq
  have hb0 := blo w (.cells #[.slice none 0 0] 29)
  have hst : V3 w (w.alloc (.cells #[.slice none 0 0] 29)) w.heap.size 29 (some ⟨w.heap.size, 0, none⟩) 1 [(none, 0, 0)] [[]] :=
    ⟨Own.built w w.heap.size 29 1 1 #[.slice none 0 0] (Nat.le_refl _) rfl (by decide), rfl, fun i h q h1 h2 => by
      cases i with
      | zero => simp at h1 h2; subst h1 h2; exact ⟨⟨[], VP.nil _ _ _⟩, rfl⟩
      | succ i => simp at h1, fun i j x y h1 h2 hij q q' hq => by
      cases i with
      | zero => simp at h1; subst h1; cases hq
      | succ i => simp at h1⟩
  go_enter Try.func37, Try.ntmps37
  go_wp2_with fail
  generalize w.alloc (.cells #[.slice none 0 0] 29) = wA at *
  go_loopg [3, 9] p.length (fun g o i' w' => ∃ (i : Nat) (dn : List (List (List UInt8))) (cur : List (List UInt8)) (t : Addr) (c2 : Nat) (ks : List Hd), i ≤ p.length ∧ g = p.length - i ∧ i' = .int .i64 (i : Int) ∧ o = .slice (some t) (dn.length + 1) c2 ∧ V3 w w' w.heap.size 29 (some t) c2 ks (dn ++ [cur]) ∧ dn ++ blk cur (p.drop i) = blk [] p ∧ dn.length + cur.length ≤ i ∧ Below w.heap.size w w')
  case atStart => exact ⟨0, [], [], _, 1, [(none, 0, 0)], by omega, by omega, rfl, rfl, hst, rfl, by simp, hb0⟩
  case round =>
    clear hst hb0
    obtain ⟨i, dn, cur, t, c2, ks, hi, hg, rfl, rfl, hv3, hdn, hdl, hbk⟩ := hrel
    have HG := hide hg
    have HDN := hide hdn
    clear hg hdn
    by_cases hil : i < p.length
    · obtain ⟨r, hr⟩ : ∃ r, p[i]? = some r := ⟨p[i], by simp [hil]⟩
      obtain ⟨ar, cr, hu, hsr⟩ := hp.get hr
      have HU := hide hu
      have HDR := hide (drop_cons hr)
      have hpt := hp.top.below hbk
      clear hr hu
      by_cases hr0 : r = []
      · subst hr0
        have HN : Hid ((dn ++ [cur]) ++ blk [] (p.drop (i + 1)) = blk [] p) := hide (by rw [← HDN.out, HDR.out, blk_cut rfl, List.append_assoc]; rfl)
        go_wp2_with (first
          | (with_reducible refine idx_p 11 _ _ _ _ _ hs rfl hpt _ _ i rfl rfl _ HU.out ?_; intro b o hcell hbo)
          | (at_builtin; refine append_lit_f rfl _ _ 49 rfl 29 (.slice none 0 0) 1 24 Try.underlying49 info_page rfl w w.heap.size (some t) (dn.length + 1) c2 (ks.map hv) rfl (by have := hv3.top; rw [List.length_append] at this; exact this) 1 [.slice none 0 0] rfl rfl (by simp [Value.oneCell']) (by omega) (by unfold maxLen; omega) hbk.size hbk ?_; intro a' c' w' ho' hgr' hfr' hb'))
        go_roundg (p.length - (i + 1))
        case measure => have := HG.out; omega
        case rel =>
          have hpush := hv3.push (x := (none, 0, 0)) (ks := []) (q := []) page_ne (VP.nil _ _ _) rfl (fun i y p p' _ _ h => by cases h) (by rw [List.length_append]; exact ho') hgr'
          obtain ⟨t', rfl⟩ : ∃ t', a' = some t' := by
            cases a' with
            | some t' => exact ⟨t', rfl⟩
            | none => have h1 := ho'.sl.nil rfl; have h2 := ho'.sl.le; omega
          exact ⟨i + 1, dn ++ [cur], [], t', c', _, by omega, rfl, by go_num, by rw [List.length_append]; rfl, hpush, HN.out, by rw [List.length_append]; simp; omega, hb'⟩
      · have hrl : r.length ≠ 0 := fun h => hr0 (List.eq_nil_of_length_eq_zero h)
        have HN : Hid (dn ++ blk (cur ++ [r]) (p.drop (i + 1)) = blk [] p) := hide (by rw [← HDN.out, HDR.out, blk_in hr0])
        have d1 : ((r.length : Int) == 0) = false := beq_eq_false_iff_ne.2 (by omega)
        obtain ⟨x, kx, hx, hvx, hvp⟩ := hv3.get (i := dn.length) (q := cur) (by simp)
        have htz := hv3.top.zero
        rw [htz] at hv3 ⊢
        generalize t.block = tb at *
        have hq0 : (ks.map hv)[dn.length]? = some (.slice x.1 cur.length x.2.2) := by rw [List.getElem?_map, hx]; exact congrArg some hvx
        have hcl := hv3.top.at_ hq0
        have HX := hide hx
        have HHV := hide hvx
        have HQ0 := hide hq0
        clear htz hx hvx hq0 hr0 hrl
        go_wp2_with (first
          | (with_reducible refine idx_p 11 _ _ _ _ _ hs rfl hpt _ _ i rfl rfl _ HU.out ?_; intro b o hcell hbo)
          | (at_builtin; refine append_lit_f rfl _ _ 29 rfl 47 (.slice none 0 0) 1 24 Try.underlying29 info_row rfl w w.heap.size x.1 cur.length x.2.2 (kx.map hv) rfl hvp.top 1 [.slice ar r.length cr] rfl rfl (by simp [Value.oneCell']) (by omega) (by unfold maxLen; omega) hbk.size hbk ?_; intro a' c' w' ho' hgr' hfr' hb'; have htk := hv3.top_kept page_ne HX.out hgr'; have e1 := htk.at_ HQ0.out; have e2 := htk.free dn.length))
        go_roundg (p.length - (i + 1))
        case measure => have := HG.out; omega
        case rel =>
          have hrep := hv3.replace (y := (a', cur.length + 1, c')) (q := cur ++ [r]) (ks := kx ++ [(ar, r.length, cr)]) page_ne HX.out hgr' (hvp.push (x := (ar, r.length, cr)) hsr ho') (by rw [List.length_append]; rfl) hfr'
          rw [set_last] at hrep
          exact ⟨i + 1, dn, cur ++ [r], _, c2, _, by omega, rfl, by go_num, rfl, hrep, HN.out, by rw [List.length_append]; simp; omega, hb'.setCell (p := ⟨tb, dn.length, none⟩) htk.base.1 _⟩
    · obtain rfl : i = p.length := by omega
      have HE : Hid (dn ++ [cur] = blk [] p) := hide (by rw [← HDN.out, List.drop_eq_nil_of_le (Nat.le_refl _), blk_end])
      go_wp2_with fail
      go_ret
      rw [← HE.out]
      exact ⟨some t, c2, ks, by rw [List.length_append]; rfl, hv3, hbk⟩
end Go.Proofs.Ytmjkhmebpciopaa
end

/- the text T23 -/
section
/- Chapter 15: the steps of reading back, in plain words; rows that grow in place. -/
namespace Go.Proofs.Ytmjkhmebpciopaa
open Go.RowKit Go.Dx

/-- what is left to read -/
def RI (p : List (List UInt8)) (X bs : List (List (List UInt8))) : Prop := ∀ Z, Reads p Z ↔ (Joins X bs Z ∧ validT Z = true)
theorem reads_first {p b : List (List UInt8)} {bs : List (List (List UInt8))} (h : blk [] p = b :: bs) (h1 : okB b) (h2 : bs ≠ [] → 2 ≤ nCols (b.map cutL)) : RI p (b.map cutL) bs := by
  intro Z
  constructor
  · rintro ⟨b', bs', e, _, _, h3, h4⟩
    rw [h] at e
    injection e with e1 e2
    subst e1 e2
    exact ⟨h3, h4⟩
  · rintro ⟨h3, h4⟩
    exact ⟨b, bs, h, h1, h2, h3, h4⟩
theorem reads_bad {p b : List (List UInt8)} {bs : List (List (List UInt8))} (h : blk [] p = b :: bs) (h1 : ¬ (okB b ∧ (bs ≠ [] → 2 ≤ nCols (b.map cutL)))) : ¬ ∃ Z, Reads p Z := by
  rintro ⟨Z, b', bs', e, h2, h3, _⟩
  rw [h] at e
  injection e with e1 e2
  subst e1 e2
  exact h1 ⟨h2, h3⟩
theorem RI.step {p b : List (List UInt8)} {X bs : List (List (List UInt8))} (h : RI p X (b :: bs)) (h1 : okB b) (h2 : (b.map cutL).length = X.length) (h3 : 2 ≤ nCols (b.map cutL)) (h4 : heads X (b.map cutL)) : RI p (joinX X (b.map cutL)) bs := by
  intro Z
  rw [h Z]
  constructor
  · rintro ⟨hj, hv⟩
    cases hj with
    | cons _ _ _ _ h5 => exact ⟨h5, hv⟩
  · rintro ⟨hj, hv⟩
    exact ⟨.cons h1 h2 h3 h4 hj, hv⟩
theorem RI.bad {p b : List (List UInt8)} {X bs : List (List (List UInt8))} (h : RI p X (b :: bs)) (h1 : ¬ (okB b ∧ (b.map cutL).length = X.length ∧ 2 ≤ nCols (b.map cutL) ∧ heads X (b.map cutL))) : ¬ ∃ Z, Reads p Z := by
  rintro ⟨Z, hz⟩
  have := ((h Z).1 hz).1
  cases this with
  | cons h2 h3 h4 h5 _ => exact h1 ⟨h2, h3, h4, h5⟩
theorem RI.done {p : List (List UInt8)} {X : List (List (List UInt8))} (h : RI p X []) (hv : validT X = true) : Reads p X := (h X).2 ⟨.nil X, hv⟩
theorem RI.none {p : List (List UInt8)} {X : List (List (List UInt8))} (h : RI p X []) (hv : validT X = false) : ¬ ∃ Z, Reads p Z := by
  rintro ⟨Z, hz⟩
  obtain ⟨h1, h2⟩ := (h Z).1 hz
  cases h1
  rw [hv] at h2; cases h2
theorem blk_some : ∀ (p cur : List (List UInt8)), ∃ b bs, blk cur p = b :: bs
  | [], cur => ⟨cur, [], rfl⟩
  | r :: t, cur => by
    by_cases h : r = []
    · exact ⟨cur, blk [] t, blk_cut h⟩
    · obtain ⟨b, bs, e⟩ := blk_some t (cur ++ [r])
      exact ⟨b, bs, by rw [blk_in h]; exact e⟩
/-- the blocks hold no more lines than the page, and lines of the page -/
theorem blk_len : ∀ (p cur : List (List UInt8)), (blk cur p).length ≤ p.length + 1
  | [], cur => Nat.le_refl _
  | r :: t, cur => by
    by_cases h : r = []
    · rw [blk_cut h]; have := blk_len t []; simp; omega
    · rw [blk_in h]; have := blk_len t (cur ++ [r]); simp; omega
theorem blk_mem : ∀ (p cur : List (List UInt8)) (b : List (List UInt8)) (r : List UInt8), b ∈ blk cur p → r ∈ b → r ∈ cur ∨ r ∈ p
  | [], cur, b, r, hb, hr => by
    rw [blk_end, List.mem_singleton] at hb
    subst hb; exact .inl hr
  | x :: t, cur, b, r, hb, hr => by
    by_cases h : x = []
    · rw [blk_cut h] at hb
      rcases List.mem_cons.1 hb with rfl | hb
      · exact .inl hr
      · rcases blk_mem t [] b r hb hr with h1 | h1
        · cases h1
        · exact .inr (List.mem_cons_of_mem _ h1)
    · rw [blk_in h] at hb
      rcases blk_mem t _ b r hb hr with h1 | h1
      · rcases List.mem_append.1 h1 with h2 | h2
        · exact .inl h2
        · rw [List.mem_singleton.1 h2]; exact .inr List.mem_cons_self
      · exact .inr (List.mem_cons_of_mem _ h1)
theorem blk_le : ∀ (p cur b : List (List UInt8)), b ∈ blk cur p → b.length ≤ cur.length + p.length
  | [], cur, b, hb => by rw [blk_end, List.mem_singleton] at hb; subst hb; simp
  | x :: t, cur, b, hb => by
    by_cases h : x = []
    · rw [blk_cut h] at hb
      rcases List.mem_cons.1 hb with rfl | hb
      · omega
      · have := blk_le t [] b hb; simp at this ⊢; omega
    · rw [blk_in h] at hb
      have := blk_le t _ b hb; simp at this ⊢; omega
/-- the first k rows joined, the others as they were -/
def joinK (X Y : List (List (List UInt8))) (k : Nat) : List (List (List UInt8)) := (joinX X Y).take k ++ X.drop k
theorem joinX_len (X Y : List (List (List UInt8))) : (joinX X Y).length = X.length := by unfold joinX; simp
theorem joinK_zero (X Y : List (List (List UInt8))) : joinK X Y 0 = X := by unfold joinK; simp
theorem joinK_all (X Y : List (List (List UInt8))) : joinK X Y X.length = joinX X Y := by
  unfold joinK
  rw [List.take_of_length_le (by rw [joinX_len]; exact Nat.le_refl _), List.drop_eq_nil_of_le (Nat.le_refl _), List.append_nil]
theorem joinX_get {X Y : List (List (List UInt8))} {k : Nat} {x y : List (List UInt8)} (hx : X[k]? = some x) (hy : Y[k]? = some y) : (joinX X Y)[k]? = some (x ++ y.drop 1) := by
  have hk := (List.getElem?_eq_some_iff.1 hx).1
  unfold joinX
  rw [List.getElem?_map, List.getElem?_range hk]
  simp [List.getD_eq_getElem?_getD, hx, hy]
theorem joinK_get {X Y : List (List (List UInt8))} {k : Nat} (hk : k ≤ X.length) : (joinK X Y k)[k]? = X[k]? := by
  unfold joinK
  have h : ((joinX X Y).take k).length = k := by rw [List.length_take, joinX_len]; omega
  rw [List.getElem?_append_right (by omega), h, Nat.sub_self, List.getElem?_drop]; rfl
theorem joinK_next {X Y : List (List (List UInt8))} {k : Nat} {x y : List (List UInt8)} (hx : X[k]? = some x) (hy : Y[k]? = some y) : (joinK X Y k).set k (x ++ y.drop 1) = joinK X Y (k + 1) := by
  have hk := (List.getElem?_eq_some_iff.1 hx).1
  have h : ((joinX X Y).take k).length = k := by rw [List.length_take, joinX_len]; omega
  have e : (joinX X Y).take (k + 1) = (joinX X Y).take k ++ [x ++ y.drop 1] := take_snoc (joinX_get hx hy)
  unfold joinK
  rw [e, drop_cons hx, List.set_append_right _ _ (by omega), h, Nat.sub_self, List.append_assoc]; rfl
theorem joinK_len (X Y : List (List (List UInt8))) {k : Nat} (hk : k ≤ X.length) : (joinK X Y k).length = X.length := by
  unfold joinK; rw [List.length_append, List.length_take, joinX_len, List.length_drop]; omega
theorem joinX_mem {X Y : List (List (List UInt8))} {row : List (List UInt8)} (h : row ∈ joinX X Y) : ∃ k x, X[k]? = some x ∧ row = x ++ (Y.getD k []).drop 1 := by
  unfold joinX at h
  obtain ⟨k, hk, rfl⟩ := List.mem_map.1 h
  have hk := List.mem_range.1 hk
  refine ⟨k, X[k], by simp [hk], ?_⟩
  rw [List.getD_eq_getElem?_getD, List.getElem?_eq_getElem hk]; rfl
/-- the heads of the first k rows are the same -/
def headsK (X Y : List (List (List UInt8))) (n : Nat) : Prop := ∀ k, k < n → (Y.getD k []).getD 0 [] = (X.getD k []).getD 0 []
theorem headsK_next {X Y : List (List (List UInt8))} {k : Nat} (h : headsK X Y k) (h1 : (Y.getD k []).getD 0 [] = (X.getD k []).getD 0 []) : headsK X Y (k + 1) := fun j hj => by
  by_cases e : j = k
  · subst e; exact h1
  · exact h j (by omega)

section
variable {w0 w w' : World} {B : Nat} {e : TypeId} {a : Option Addr} {c : Nat} {hs : List Hd} {X : List (List (List UInt8))}
/-- something below what is owned grows -/
theorem VP.low {ks : List Hd} {p : List (List UInt8)} {g : Nat} (h : VP w0 w B a c ks p) (hg : w.grownBy w' (some g)) (hlt : g < B) : VP w0 w' B a c ks p :=
  h.kept hg fun q hq e => by
    have h1 := h.top
    rw [hq] at h1
    have h2 := h1.base.1
    have h3 : q.block = g := by simpa using e
    omega
theorem V3.low {g : Nat} (h : V3 w0 w B e a c hs X) (hg : w.grownBy w' (some g)) (hlt : g < B) : V3 w0 w' B e a c hs X :=
  ⟨h.top.kept hg (fun q hq e3 => by
    have h1 := h.top
    rw [hq] at h1
    have h2 := h1.base.1
    have h3 : q.block = g := by simpa using e3
    omega), h.len, fun i x q h1 h2 => by obtain ⟨⟨ks, hk⟩, e2⟩ := h.row i x q h1 h2; exact ⟨⟨ks, hk.low hg hlt⟩, e2⟩, h.apt⟩
theorem VP.lowCell {ks : List Hd} {p : List (List UInt8)} {t : Addr} (h : VP w0 w B a c ks p) (hlt : t.block < B) (v : Value) : VP w0 (w.setCell t v) B a c ks p := ⟨Own.far h.top hlt v, h.len, h.ent⟩
theorem V3.lowCell {t : Addr} (h : V3 w0 w B e a c hs X) (hlt : t.block < B) (v : Value) : V3 w0 (w.setCell t v) B e a c hs X :=
  ⟨Own.far h.top hlt v, h.len, fun i x q h1 h2 => by obtain ⟨⟨ks, hk⟩, e2⟩ := h.row i x q h1 h2; exact ⟨⟨ks, hk.lowCell hlt v⟩, e2⟩, h.apt⟩
theorem V3.mono {B' : Nat} (h : V3 w0 w B e a c hs X) (hB : B' ≤ B) : V3 w0 w B' e a c hs X :=
  ⟨h.top.mono hB, h.len, fun i x q h1 h2 => by obtain ⟨⟨ks, hk⟩, e2⟩ := h.row i x q h1 h2; exact ⟨⟨ks, hk.mono hB⟩, e2⟩, h.apt⟩
end
section
variable {w : World} {ops : Array Oper} {rest : List Oper} {o : Oper} {act : Act} {Q : Exit → Act → World → Prop}
/-- 'append(part, row)', the row new -/
theorem app_v3 (hg : o.guard = none) (s x : Operand) (hop : o.op = Op.call { callee := Callee.builtin Builtin.append, args := #[s, x], argTypes := #[23, 23] })
    (w0 v0 : World) (B B1 : Nat) (a : Option Addr) (n c : Nat) (hs ks : List Hd) (X : List (List (List UInt8))) (hn0 : X.length = n) (hes : act.eval s = .slice a n c) (hown : V3 v0 w B 28 a c hs X)
    (y : Hd) (p : List (List UInt8)) (hy : VP v0 w B1 y.1 y.2.2 ks p) (hl : y.2.1 = p.length) (hB1 : B ≤ B1) (hlow : ∀ (i : Nat) (x : Hd) (q : Addr), hs[i]? = some x → x.1 = some q → q.block < B1) (hx : act.eval x = .slice (some ⟨w.heap.size, 0, none⟩) 1 1)
    (hn : (n + 1) * 24 ≤ 140737488355328) (hB : B ≤ w.heap.size) (hbel : Below B w0 w)
    (hK : ∀ a' c' w', V3 v0 w' B 28 a' c' (hs ++ [y]) (X ++ [p]) → Below B w0 w' → wpList Try.prog ops Q rest (act.put o.dst (.slice a' (n + 1) c')) w') :
    wpList Try.prog ops Q (o :: rest) act (w.alloc (.cells #[hv y] 28)) := by
  subst hn0
  refine append_lit hg s x 23 hop 28 (.slice none 0 0) 1 24 Try.underlying23 info_rows rfl w0 B a _ c _ hes hown.top 1 [hv y] hx rfl (by simp [hv, Value.oneCell']) hn (by unfold maxLen; omega) hB hbel ?_
  intro a' c' w' ho hgr hb
  refine hK a' c' w' (hown.push rows_ne (hy.mono hB1) hl (fun i z q q' hz hq hq' => ?_) ho hgr) hb
  have h1 := hlow i z q hz hq
  have h2 := hy.top
  rw [hq'] at h2
  have := h2.base.1
  omega
end
end Go.Proofs.Ytmjkhmebpciopaa
end

/- the text T24 -/
section
/- Chapter 15: rows whose entries are copied one by one. -/
namespace Go.Proofs.Ytmjkhmebpciopaa
open Go.RowKit Go.Dx

/-- a row that the call owns; its entries lie below B, or in blocks of bytes -/
structure R4 (w : World) (B : Nat) (a : Option Addr) (c : Nat) (ks : List Hd) (p : List (List UInt8)) : Prop where
  top : Own w B 47 1 a p.length c (ks.map hv)
  len : ks.length = p.length
  ent : ∀ (j : Nat) (y : Hd) (r : List UInt8), ks[j]? = some y → p[j]? = some r → Sl w 1 y.1 y.2.1 y.2.2 (r.map B8) ∧ ∀ q, y.1 = some q → q.block < B ∨ ∃ C z, w.heap[q.block]? = some (.cells C 5 z)
structure V4 (w : World) (B : Nat) (a : Option Addr) (c : Nat) (hs : List Hd) (X : List (List (List UInt8))) : Prop where
  top : Own w B 28 1 a X.length c (hs.map hv)
  len : hs.length = X.length
  row : ∀ (i : Nat) (h : Hd) (q : List (List UInt8)), hs[i]? = some h → X[i]? = some q → (∃ ks, R4 w B h.1 h.2.2 ks q) ∧ h.2.1 = q.length
  apt : Apt hs
theorem V4.of {w0 w : World} {a : Option Addr} {c : Nat} {hs : List Hd} {X : List (List (List UInt8))} (h : V3 w0 w w0.heap.size 28 a c hs X) (hb : Below w0.heap.size w0 w) (hX : VX X) : V4 w w0.heap.size a c hs X := by
  refine ⟨h.top, h.len, fun i x q h1 h2 => ?_, h.apt⟩
  obtain ⟨⟨ks, hk⟩, e⟩ := h.row i x q h1 h2
  refine ⟨⟨ks, hk.top, hk.len, fun j y r h3 h4 => ⟨(hk.ent j y r h3 h4).below hb, fun t ht => .inl ?_⟩⟩, e⟩
  have hr := entry_le (hX.ent q (List.mem_of_getElem? h2) r (List.mem_of_getElem? h4))
  obtain ⟨b, o, e1, e2, _⟩ := (hk.ent j y r h3 h4).ex (by rw [List.length_map]; omega)
  rw [ht] at e1
  cases e1
  exact e2
theorem R4.below {w w' : World} {B : Nat} {a : Option Addr} {c : Nat} {ks : List Hd} {p : List (List UInt8)} (h : R4 w B a c ks p) (hb : Below w.heap.size w w') : R4 w' B a c ks p :=
  ⟨h.top.below hb, h.len, fun j y r h1 h2 => ⟨(h.ent j y r h1 h2).1.below hb, fun q hq => ((h.ent j y r h1 h2).2 q hq).imp id (fun ⟨C, z, e⟩ => ⟨C, z, by rw [hb.block q.block (Array.getElem?_eq_some_iff.1 e).1]; exact e⟩)⟩⟩
theorem V4.below {w w' : World} {B : Nat} {a : Option Addr} {c : Nat} {hs : List Hd} {X : List (List (List UInt8))} (h : V4 w B a c hs X) (hb : Below w.heap.size w w') : V4 w' B a c hs X :=
  ⟨h.top.below hb, h.len, fun i x q h1 h2 => by obtain ⟨⟨ks, hk⟩, e⟩ := h.row i x q h1 h2; exact ⟨⟨ks, hk.below hb⟩, e⟩, h.apt⟩
theorem R4.pg {w : World} {B : Nat} {a : Option Addr} {c : Nat} {ks : List Hd} {p : List (List UInt8)} (h : R4 w B a c ks p) : Pg w a p.length c ks p := ⟨h.top.sl, h.len, fun i x r h1 h2 => (h.ent i x r h1 h2).1⟩
theorem V4.pg3 {w : World} {B : Nat} {a : Option Addr} {c : Nat} {hs : List Hd} {X : List (List (List UInt8))} (h : V4 w B a c hs X) : Pg3 w a X.length c hs X :=
  ⟨h.top.sl, h.len, fun i x q h1 h2 => by obtain ⟨⟨ks, hk⟩, e2⟩ := h.row i x q h1 h2; rw [e2]; exact ⟨ks, hk.pg⟩⟩
theorem V4.get {w : World} {B : Nat} {a : Option Addr} {c : Nat} {hs : List Hd} {X : List (List (List UInt8))} (h : V4 w B a c hs X) {i : Nat} {q : List (List UInt8)} (hq : X[i]? = some q) : ∃ x ks, hs[i]? = some x ∧ hv x = .slice x.1 q.length x.2.2 ∧ R4 w B x.1 x.2.2 ks q := by
  have hi : i < hs.length := by rw [h.len]; exact (List.getElem?_eq_some_iff.1 hq).1
  have hx : hs[i]? = some hs[i] := by simp [hi]
  obtain ⟨⟨ks, hk⟩, e2⟩ := h.row i _ q hx hq
  exact ⟨_, ks, hx, by unfold hv; rw [e2], hk⟩
theorem sl_far {w : World} {sz : Nat} {a : Option Addr} {n c : Nat} {cs : List Value} (h : Sl w sz a n c cs) {p : Addr} (hp : ∀ q, a = some q → q.block ≠ p.block) (u : Value) : Sl (w.setCell p u) sz a n c cs :=
  ⟨h.len, h.le, h.cap, h.nil, fun q hq j v hj => by
    have h1 := h.cell q hq j v hj
    have e : (q.add j).block = q.block := by unfold Addr.add; split <;> rfl
    rw [World.cell?_of_block (w := w) (a := q.add j) (Below.heap_setCell w p u (q.add j).block (by rw [e]; exact hp q hq))]
    exact h1⟩
theorem own_kind {w : World} {B : Nat} {e : TypeId} {n c sz : Nat} {t : Addr} {cs : List Value} (h : Own w B e sz (some t) n c cs) : ∃ C z, w.heap[t.block]? = some (.cells C e z) := by
  rcases h.2 with ⟨h1, _⟩ | ⟨g, cap, cur, h1, _, h2, _⟩
  · cases h1
  · injection h1 with h1
    injection h1 with h1
    subst h1
    exact ⟨_, _, h2⟩
theorem set_kind {w : World} {p : Addr} {v : Value} {b : Nat} {C : Array Value} {e : TypeId} {z : Nat × Nat} (h : w.heap[b]? = some (.cells C e z)) : ∃ C', (w.setCell p v).heap[b]? = some (.cells C' e z) := by
  by_cases hb : b = p.block
  · subst hb
    exact ⟨_, by simp [World.setCell, Array.getElem?_modify, h]; rfl⟩
  · exact ⟨C, by rw [Below.heap_setCell w p v b hb]; exact h⟩
theorem u8_rows : (5 : TypeId) ≠ 47 := by decide
/-- an entry's copy is stored -/
theorem V4.store {w : World} {B : Nat} {a : Option Addr} {c : Nat} {hs : List Hd} {X : List (List (List UInt8))} (h : V4 w B a c hs X) {i j : Nat} {x y : Hd} {g : Addr} {q : List (List UInt8)} {r : List UInt8} (hi : hs[i]? = some x) (hq : X[i]? = some q) (hg : x.1 = some g) (hr : q[j]? = some r)
    (hy : Own w B 5 1 y.1 y.2.1 y.2.2 (r.map B8)) : V4 (w.setCell ⟨g.block, j, none⟩ (hv y)) B a c hs X := by
  obtain ⟨⟨ks0, hk0⟩, e0⟩ := h.row i x q hi hq
  have hgo := hk0.top
  rw [hg] at hgo
  have hgB := hgo.base.1
  obtain ⟨Cg, zg, hgk⟩ := own_kind hgo
  have far : ∀ (s : List UInt8) (z : Hd), (Sl w 1 z.1 z.2.1 z.2.2 (s.map B8) ∧ ∀ t, z.1 = some t → t.block < B ∨ ∃ C z, w.heap[t.block]? = some (.cells C 5 z)) → (Sl (w.setCell ⟨g.block, j, none⟩ (hv y)) 1 z.1 z.2.1 z.2.2 (s.map B8) ∧ ∀ t, z.1 = some t → t.block < B ∨ ∃ C u, (w.setCell ⟨g.block, j, none⟩ (hv y)).heap[t.block]? = some (.cells C 5 u)) := by
    rintro s z ⟨h1, h2⟩
    refine ⟨sl_far h1 (fun t ht e => ?_) _, fun t ht => (h2 t ht).imp id (fun ⟨C, u, e⟩ => by obtain ⟨C', e'⟩ := set_kind (p := ⟨g.block, j, none⟩) (v := hv y) e; exact ⟨C', u, e'⟩)⟩
    replace e : t.block = g.block := e
    rcases h2 t ht with h3 | ⟨C, u, h3⟩
    · omega
    · rw [e, hgk] at h3
      injection h3 with h3
      injection h3 with _ h3
      exact u8_rows h3.symm
  refine ⟨h.top.set_other (fun t ht => ?_) _, h.len, fun i' x' q' h1 h2 => ?_, h.apt⟩
  · have h1 := h.top
    rw [ht] at h1
    show t.block ≠ g.block
    exact own_ne h1 hgo (by decide)
  · obtain ⟨⟨ks, hk⟩, e⟩ := h.row i' x' q' h1 h2
    refine ⟨?_, e⟩
    by_cases hii : i' = i
    · subst hii
      rw [hi] at h1; cases h1
      rw [hq] at h2; cases h2
      have hkt := hk.top
      rw [hg] at hkt
      refine ⟨ks.set j y, ?_, by rw [List.length_set]; exact hk.len, fun j' y' r' h3 h4 => ?_⟩
      · have := hkt.put (i := j) (hv y)
        rw [List.map_set, hg]; exact this
      · rw [List.getElem?_set] at h3
        by_cases hjj : j = j'
        · subst hjj
          rw [if_pos rfl] at h3
          split at h3
          · cases h3
            rw [hr] at h4; cases h4
            exact far r y ⟨hy.sl, fun t ht => .inr (by rw [ht] at hy; exact own_kind hy)⟩
          · cases h3
        · rw [if_neg hjj] at h3
          exact far r' y' (hk.ent j' y' r' h3 h4)
    · refine ⟨ks, hk.top.set_other (fun t ht => ?_) _, hk.len, fun j' y' r' h3 h4 => far r' y' (hk.ent j' y' r' h3 h4)⟩
      exact h.apt i' i x' x h1 hi hii t g ht hg
end Go.Proofs.Ytmjkhmebpciopaa
end

/- the text Free2 -/
section
/- A region that draws its order, in whose head one operation (an append, a store) changes what lies there: TP. What it waits for (TE) comes before it; what may come at any time (TL) leaves the world as it is. No program in sight. -/
set_option linter.unusedVariables false
namespace Go.Dx
open Go.RowKit

theorem grown_of_below {w w' : World} (h : Below w.heap.size w w') (row : Option Nat) : w.grownBy w' row := ⟨h.os, h.tape, h.output, h.size, fun k hk _ => h.block k hk⟩
theorem grown_trans {a b c : World} {row : Option Nat} (h : a.grownBy b row) (k : b.grownBy c row) : a.grownBy c row :=
  ⟨k.os.trans h.os, k.tape.trans h.tape, k.output.trans h.output, Nat.le_trans h.size k.size, fun i hi hr => (k.block i (Nat.lt_of_lt_of_le hi h.size) hr).trans (h.block i hi hr)⟩
/-- what an operation leaves that does not touch the world -/
def OneStill (d : Nat) (a : Act) (w : World) (R : Value → World → Prop) (e : Exit) (a' : Act) (w' : World) : Prop := e = .normal ∧ ∃ v, a' = a.put (some d) v ∧ w' = w ∧ R v w'
def OneTurn (d : Nat) (a : Act) (R : Value → World → Prop) (e : Exit) (a' : Act) (w' : World) : Prop := e = .normal ∧ ∃ v, a' = a.put (some d) v ∧ R v w'

structure MidInv (l : List Oper) (n p : Nat) (T : List HOp) (a0 : Act) (w0 : World) (G : World → Prop) (listed : Array Bool) (a : Act) (w : World) : Prop where
  inv : HeadInv .any l.toArray n listed
  defers : a.defers = a0.defers
  size : a.tmps.size = a0.tmps.size
  frame : ∀ k, (∀ t ∈ T, t.d ≠ k) → a.tmps.getD k undef = a0.tmps.getD k undef
  pre : listed.getD p false = false → Below w0.heap.size w0 w
  post : listed.getD p false = true → G w
  facts : ∀ t ∈ T, listed.getD t.i false = true → t.fact a w

section
variable {P : Program}
theorem wp_region_mid {id : Nat} {Q : Exit → Act → World → Prop} {a0 : Act} {w0 : World} {l : List Oper} (n : Nat) (L G : World → Prop) (TP : HOp) (TE TL : List HOp) (hm : P.follows .mixedOrders = true)
    (hB : (headOk l n ((TP :: (TE ++ TL)).map fun t => (t.i, t.d, t.s)) a0.tmps.size && (TE.all fun t => Region.waitsFor .any l.toArray TP.i t.i && t.i != TP.i)) = true)
    (hL1 : ∀ w, Below w0.heap.size w0 w → L w) (hL2 : ∀ w, G w → L w)
    (hmono : All (fun t : HOp => ∀ vs w w', Below w.heap.size w w' → t.p vs w → t.p vs w') (TE ++ TL))
    (hopP : ∀ o, l[TP.i]? = some o → ∀ (a : Act) (w : World), Below w0.heap.size w0 w →
      (∀ k, ((TP :: (TE ++ TL)).map (·.d)).contains k = false → a.tmps.getD k undef = a0.tmps.getD k undef) →
      (∀ (k : Nat) (u : HOp), (TP :: (TE ++ TL))[k]? = some u → Region.waitsFor .any l.toArray TP.i u.i = true → u.p (u.s.map fun k => a.tmps.getD k undef) w) →
      wpList P l.toArray (OneTurn TP.d a fun v w' => TP.p (TP.s.map fun k => if TP.d = k then v else a.tmps.getD k undef) w' ∧ G w' ∧ All (fun u : HOp => ∀ vs, u.p vs w → u.p vs w') (TE ++ TL)) [o] a w)
    (hopE : All (fun t : HOp => ∀ o, l[t.i]? = some o → ∀ (a : Act) (w : World), Below w0.heap.size w0 w →
      (∀ k, ((TP :: (TE ++ TL)).map (·.d)).contains k = false → a.tmps.getD k undef = a0.tmps.getD k undef) →
      (∀ (k : Nat) (u : HOp), (TP :: (TE ++ TL))[k]? = some u → Region.waitsFor .any l.toArray t.i u.i = true → u.p (u.s.map fun k => a.tmps.getD k undef) w) →
      wpList P l.toArray (OneDone t.d a w fun v w' => t.p (t.s.map fun k => if t.d = k then v else a.tmps.getD k undef) w') [o] a w) TE)
    (hopL : All (fun t : HOp => ∀ o, l[t.i]? = some o → ∀ (a : Act) (w : World), L w →
      (∀ k, ((TP :: (TE ++ TL)).map (·.d)).contains k = false → a.tmps.getD k undef = a0.tmps.getD k undef) →
      (∀ (k : Nat) (u : HOp), (TP :: (TE ++ TL))[k]? = some u → Region.waitsFor .any l.toArray t.i u.i = true → u.p (u.s.map fun k => a.tmps.getD k undef) w) →
      wpList P l.toArray (OneStill t.d a w fun v w' => t.p (t.s.map fun k => if t.d = k then v else a.tmps.getD k undef) w') [o] a w) TL)
    (hend : ∀ (g : Nat → Value) (w : World), G w → (∀ (k : Nat) (u : HOp), (TP :: (TE ++ TL))[k]? = some u → u.p (u.s.map fun k => if k ∈ (TP :: (TE ++ TL)).map (·.d) then g k else a0.tmps.getD k undef) w) →
      wpList P l.toArray Q (l.drop n) (putAll a0 (((TP :: (TE ++ TL)).map (·.d)).map fun d => (d, g d))) w) : (Code.region id l.toArray true).wp P Q a0 w0 := by
  obtain ⟨T, hTdef⟩ : ∃ T, TP :: (TE ++ TL) = T := ⟨_, rfl⟩
  have memP : TP ∈ T := by rw [← hTdef]; exact List.mem_cons_self
  have split : ∀ t ∈ T, t = TP ∨ t ∈ TE ∨ t ∈ TL := by
    intro t ht
    rw [← hTdef] at ht
    rcases List.mem_cons.1 ht with h | h
    · exact .inl h
    · exact .inr (List.mem_append.1 h)
  have rest : ∀ t ∈ T, t ≠ TP → t ∈ TE ++ TL := by
    intro t ht hne
    rw [← hTdef] at ht
    rcases List.mem_cons.1 ht with h | h
    · exact absurd h hne
    · exact h
  rw [hTdef] at hB hopP hopE hopL hend
  rw [Bool.and_eq_true] at hB
  obtain ⟨hB, hE⟩ := hB
  have hE1 : ∀ t ∈ TE, Region.waitsFor .any l.toArray TP.i t.i = true ∧ t.i ≠ TP.i := by
    intro t ht
    have := List.all_eq_true.1 hE t ht
    simpa using this
  simp only [headOk, Bool.and_eq_true, decide_eq_true_eq] at hB
  obtain ⟨⟨⟨⟨⟨⟨⟨hnd, hn⟩, hs⟩, hc⟩, hseq⟩, hcov⟩, hT⟩, hpair⟩ := hB
  have hnodup : ∀ t ∈ T, ∀ u ∈ T, t.i = u.i → t = u := inj_nodup (·.i) T (by rw [List.map_map] at hnd; exact hnd)
  have hn' : n < l.toArray.size := by simpa using hn
  have cover : ∀ j, j < n → ∃ t ∈ T, t.i = j := by
    intro j hj
    have h := List.all_eq_true.1 hcov j (List.mem_range.2 hj)
    obtain ⟨x, hx, he⟩ := List.any_eq_true.1 h
    obtain ⟨t, ht, rfl⟩ := List.mem_map.1 hx
    exact ⟨t, ht, by simpa using he⟩
  have own : ∀ t ∈ T, t.i < n ∧ t.d < a0.tmps.size ∧ ∃ o, l[t.i]? = some o ∧ o.dst = some t.d ∧ ∀ e ∈ o.after, Region.binds .any e = true → e.on < t.i := by
    intro t ht
    have h := List.all_eq_true.1 hT _ (List.mem_map.2 ⟨t, ht, rfl⟩)
    simp only [Bool.and_eq_true, decide_eq_true_eq] at h
    obtain ⟨⟨h1, h2⟩, h3⟩ := h
    refine ⟨h1, h2, ?_⟩
    cases ho : l[t.i]? with
    | none => rw [ho] at h3; cases h3
    | some o =>
      rw [ho] at h3
      simp only [Bool.and_eq_true, beq_iff_eq] at h3
      refine ⟨o, rfl, h3.1, fun e he hb => ?_⟩
      have := Array.all_eq_true_iff_forall_mem.1 h3.2 e he
      simpa [hb] using this
  have pair : ∀ t ∈ T, ∀ u ∈ T, t.i ≠ u.i → t.d ≠ u.d ∧ (t.d ∈ u.s → Region.waitsFor .any l.toArray u.i t.i = true) := by
    intro t ht u hu hne
    have h := List.all_eq_true.1 (List.all_eq_true.1 hpair _ (List.mem_map.2 ⟨t, ht, rfl⟩)) _ (List.mem_map.2 ⟨u, hu, rfl⟩)
    simp only [Bool.or_eq_true, beq_iff_eq, hne, false_or, Bool.and_eq_true, bne_iff_ne, ne_eq, Bool.not_eq_true'] at h
    refine ⟨h.1, fun hin => ?_⟩
    rcases h.2 with h2 | h2
    · have : u.s.contains t.d = true := by simpa using hin
      rw [this] at h2; cases h2
    · exact h2
  have key : ∀ (f : Nat) (listed : Array Bool) (a : Act) (w : World), MidInv l n TP.i T a0 w0 G listed a w → todo listed n = f → wpAny P .any l.toArray Q (f + (l.length - n)) listed a w := by
    intro f
    induction f with
    | zero =>
      intro listed a w I h0
      have hall : ∀ j, j < n → listed.getD j true = true := by
        intro j hj
        cases hb : listed.getD j true with
        | true => rfl
        | false =>
          have : j ∈ (List.range n).filter fun j => !listed.getD j true := List.mem_filter.2 ⟨List.mem_range.2 hj, by rw [hb]; rfl⟩
          unfold todo at h0
          rw [List.eq_nil_of_length_eq_zero h0] at this
          cases this
      have hlist : listed = (List.replicate n true ++ List.replicate (l.length - n) false).toArray := by
        have hsz := I.inv.size
        apply Array.ext
        · simp at hsz ⊢; omega
        · intro j h1 h2
          by_cases hj : j < n
          · have := hall j hj
            simp [Array.getD, h1] at this
            simp [this, List.getElem_append_left, hj]
          · have := I.inv.tail j (by omega) (by rw [← hsz]; exact h1)
            simp [Array.getD, h1] at this
            simp only [this, List.getElem_toArray]
            rw [List.getElem_append_right (by simp; omega)]
            simp
      have ha : a = putAll a0 ((T.map (·.d)).map fun d => (d, a.tmps.getD d undef)) := by
        have hd : ∀ d ∈ T.map (·.d), d < a0.tmps.size := by
          intro d hd
          obtain ⟨t, ht, rfl⟩ := List.mem_map.1 hd
          exact (own t ht).2.1
        refine act_ext (by rw [putAll_defers]; exact I.defers) (by rw [putAll_size]; exact I.size) (fun k => ?_)
        rw [putAll_get (fun d => a.tmps.getD d undef) _ _ _ hd]
        by_cases h : k ∈ T.map (·.d)
        · rw [if_pos h]
        · rw [if_neg h]
          exact I.frame k (fun t ht e => h (List.mem_map.2 ⟨t, ht, e⟩))
      have hlp : listed.getD TP.i false = true := by
        have := hall TP.i (own TP memP).1
        rcases Nat.lt_or_ge TP.i listed.size with h' | h'
        · simp [h'] at this ⊢; exact this
        · have := I.inv.size; have := (own TP memP).1; omega
      have hfin := hend (fun d => a.tmps.getD d undef) w (I.post hlp) (fun k u hu => by
        have hu' := List.mem_of_getElem? hu
        have h1 := I.facts u hu' (by
          have := hall u.i (own u hu').1
          rcases Nat.lt_or_ge u.i listed.size with h' | h'
          · simp [h'] at this ⊢; exact this
          · have := I.inv.size; have := (own u hu').1; omega)
        unfold HOp.fact at h1
        have e : (u.s.map fun k => if k ∈ T.map (·.d) then a.tmps.getD k undef else a0.tmps.getD k undef) = u.s.map fun k => a.tmps.getD k undef := by
          apply List.map_congr_left
          intro k _
          by_cases h : k ∈ T.map (·.d)
          · rw [if_pos h]
          · rw [if_neg h]
            exact (I.frame k (fun t ht e => h (List.mem_map.2 ⟨t, ht, e⟩))).symm
        rw [e]
        exact h1)
      rw [← ha] at hfin
      rw [Nat.zero_add]
      have hseq' : Region.seqB .any l.toArray (l.drop n).length n listed = true := by rw [hlist, List.length_drop]; exact hseq
      have := wpAny_of_seq (md := .any) (Q' := Q) (l.drop n) n listed a w (fun j => by simp [List.getElem?_drop]) hseq' hfin
      rwa [List.length_drop] at this
    | succ f ih =>
      intro listed a w I hf
      have hex : ∃ j, j < n ∧ listed.getD j true = false := by
        cases hL : (List.range n).filter fun j => !listed.getD j true with
        | nil => unfold todo at hf; rw [hL] at hf; cases hf
        | cons j L =>
          have : j ∈ (List.range n).filter fun j => !listed.getD j true := by rw [hL]; exact List.mem_cons_self
          obtain ⟨h1, h2⟩ := List.mem_filter.1 this
          exact ⟨j, List.mem_range.1 h1, by simpa using h2⟩
      have hready : Region.ready .any l.toArray listed ≠ [] := by
        have hmin : ∀ m j, j ≤ m → j < n → listed.getD j true = false → ∃ i, i ∈ Region.ready .any l.toArray listed := by
          intro m
          induction m with
          | zero =>
            intro j hj hjn hjl
            have hj0 : j = 0 := by omega
            subst hj0
            obtain ⟨t, ht, hti⟩ := cover 0 hjn
            obtain ⟨_, _, o, ho, _, hb⟩ := own t ht
            rw [hti] at ho hb
            exact ⟨0, mem_ready.2 ⟨hjl, o, by simpa using ho, fun e he hbe => absurd (hb e he hbe) (by omega)⟩⟩
          | succ m ihm =>
            intro j hj hjn hjl
            obtain ⟨t, ht, hti⟩ := cover j hjn
            obtain ⟨_, _, o, ho, _, hb⟩ := own t ht
            rw [hti] at ho hb
            by_cases hall : ∀ e ∈ o.after, Region.binds .any e = true → listed.getD e.on false = true
            · exact ⟨j, mem_ready.2 ⟨hjl, o, by simpa using ho, hall⟩⟩
            · simp only [Classical.not_forall] at hall
              obtain ⟨e, he, hbe, hne⟩ := hall
              have hlt := hb e he hbe
              have hes : e.on < listed.size := by rw [I.inv.size]; simp; omega
              exact ihm e.on (by omega) (by omega) (getD_in hes (by simpa using hne))
        obtain ⟨j, hj, hjl⟩ := hex
        obtain ⟨i, hi⟩ := hmin j j (Nat.le_refl _) hj hjl
        intro h
        rw [h] at hi
        cases hi
      rw [show f + 1 + (l.length - n) = (f + (l.length - n)) + 1 by omega]
      refine ⟨fun h => absurd h hready, fun i hi => ?_⟩
      have hin : i < n := by
        rcases Nat.lt_or_ge i n with h | h
        · exact h
        · obtain ⟨j, hj, hjl⟩ := hex
          exact absurd hi (tail_waits hs hc hn' I.inv _ j rfl hj hjl i h)
      obtain ⟨t, ht, hti⟩ := cover i hin
      obtain ⟨_, htd, o, ho, hdst, _⟩ := own t ht
      obtain ⟨hil, oi, hoi, hafter⟩ := mem_ready.1 hi
      have hoo : oi = o := by rw [hti] at ho; exact Option.some.inj (hoi.symm.trans (by simpa using ho))
      subst hoo
      have hframe : ∀ k, (T.map (·.d)).contains k = false → a.tmps.getD k undef = a0.tmps.getD k undef := fun k hk => I.frame k (fun u hu e => by
          have : (T.map (·.d)).contains k = true := by simpa using ⟨u, hu, e⟩
          rw [this] at hk; cases hk)
      have hfacts : ∀ (k : Nat) (u : HOp), T[k]? = some u → Region.waitsFor .any l.toArray t.i u.i = true → u.p (u.s.map fun k => a.tmps.getD k undef) w := fun k u hu hw => by
        have hu' := List.mem_of_getElem? hu
        obtain ⟨oj, hoj, e, he, hb, hon⟩ := Region.waitsFor_spec hw
        have : oj = oi := by rw [hti] at hoj; exact Option.some.inj (hoj.symm.trans hoi)
        subst this
        have h1 := hafter e he hb
        rw [hon] at h1
        exact I.facts u hu' h1
      have step0 : ∀ (v : Value) (w' : World), (t.i ≠ TP.i → (listed.getD TP.i false = false → Below w0.heap.size w0 w') ∧ (listed.getD TP.i false = true → G w')) → (t.i = TP.i → G w') →
          (∀ u ∈ T, u ≠ t → listed.getD u.i false = true → ∀ vs, u.p vs w → u.p vs w') → t.p (t.s.map fun k => if t.d = k then v else a.tmps.getD k undef) w' → wpAny P .any l.toArray Q (f + (l.length - n)) (listed.setIfInBounds i true) (a.put (some t.d) v) w' := by
        intro v w' hph hG hsurv hp
        refine ih _ _ _ ⟨I.inv.set hi hin, I.defers, ?_, ?_, ?_, ?_, ?_⟩ ?_
        · rw [← I.size]; simp [Act.put]
        · intro k hk
          rw [put_get, if_neg (fun h => hk t ht h.1)]
          exact I.frame k hk
        · intro hl
          by_cases hip : t.i = TP.i
          · exfalso
            rw [← hip, hti] at hl
            have hlt : i < listed.size := by rw [I.inv.size]; omega
            simp [hlt] at hl
          · rw [getD_set_ne false (by rw [← hti]; exact hip)] at hl
            exact (hph hip).1 hl
        · intro hl
          by_cases hip : t.i = TP.i
          · exact hG hip
          · rw [getD_set_ne false (by rw [← hti]; exact hip)] at hl
            exact (hph hip).2 hl
        · intro u hu hul
          by_cases hui : t.i = u.i
          · unfold HOp.fact
            by_cases hut : u = t
            · subst hut
              have e : (u.s.map fun k => (a.put (some u.d) v).tmps.getD k undef) = u.s.map fun k => if u.d = k then v else a.tmps.getD k undef := by
                apply List.map_congr_left
                intro k _
                rw [put_get, I.size]
                by_cases hk : u.d = k
                · rw [if_pos ⟨hk, htd⟩, if_pos hk]
                · rw [if_neg (fun h => hk h.1), if_neg hk]
              rw [e]
              exact hp
            · exact absurd (hnodup t ht u hu hui).symm hut
          · unfold HOp.fact
            have hul2 : listed.getD u.i false = true := by rw [← getD_set_ne false (i := i) (j := u.i) (by rw [← hti]; exact hui)]; exact hul
            have h1 := hsurv u hu (fun e => hui (by rw [e])) hul2 _ (I.facts u hu hul2)
            have hnot : t.d ∉ u.s := by
              intro hin2
              have hw := (pair t ht u hu hui).2 hin2
              obtain ⟨ou, hou, e, he, hb, hon⟩ := Region.waitsFor_spec hw
              have := I.inv.closed u.i ou hou hul2 e he hb
              rw [hon, hti, getD_both hil] at this
              cases this
            have e : (u.s.map fun k => (a.put (some t.d) v).tmps.getD k undef) = u.s.map fun k => a.tmps.getD k undef := by
              apply List.map_congr_left
              intro k hk
              rw [put_get, if_neg (fun (h : t.d = k ∧ t.d < a.tmps.size) => hnot (by rw [h.1]; exact hk))]
            rw [e]
            exact h1
        · have := todo_set hin hil; omega
      have fin : ∀ (R : Exit → Act → World → Prop), (∀ e a' w', R e a' w' → e = .normal) → (∀ a' w', R .normal a' w' → wpAny P .any l.toArray Q (f + (l.length - n)) (listed.setIfInBounds i true) a' w') → wpList P l.toArray R [oi] a w → wpOp P l.toArray Q i (fun a' w' => wpAny P .any l.toArray Q (f + (l.length - n)) (listed.setIfInBounds i true) a' w') a w := by
        intro R hR step H
        unfold wpList at H
        unfold wpOp
        rw [hoi]
        simp only
        by_cases hwant : Region.wanted oi (yielded l.toArray a.tmps) = true
        · rw [if_pos hwant] at H
          rw [if_pos hwant]
          left
          rcases H with H | ⟨_, a1, w1, h1⟩
          · exact wp_both (fun a' w' h => step a' w' h) (fun e a' w' he h => absurd (hR _ _ _ h) he) H
          · exact absurd (hR _ _ _ h1) (by simp)
        · rw [if_neg hwant] at H
          rw [if_neg hwant]
          exact step _ _ H
      have prep : t.i = TP.i ∨ t ∈ TE → listed.getD TP.i false = false := by
        intro h
        rcases h with h | h
        · rw [h] at hti
          rw [hti]
          exact getD_both hil
        · cases hlp : listed.getD TP.i false with
          | false => rfl
          | true =>
            obtain ⟨hw, _⟩ := hE1 t h
            obtain ⟨ou, hou, e, he, hb, hon⟩ := Region.waitsFor_spec hw
            have := I.inv.closed TP.i ou hou hlp e he hb
            rw [hon, hti, getD_both hil] at this
            cases this
      by_cases htP : t = TP
      · subst htP
        have hpre := prep (.inl rfl)
        refine fin _ ?_ ?_ (hopP oi ho a w (I.pre hpre) hframe hfacts)
        · exact fun e a' w' h => h.1
        · rintro a' w' ⟨_, v, rfl, hp, hG, hS⟩
          refine step0 v w' (fun h => absurd rfl h) (fun _ => hG) (fun u hu hne _ => hS.mem u (rest u hu hne)) hp
      · have hipP : t.i ≠ TP.i := fun h => htP (hnodup t ht TP memP h)
        rcases split t ht with h | h | h
        · exact absurd h htP
        · have hpre := prep (.inr h)
          refine fin _ ?_ ?_ (hopE.mem t h oi ho a w (I.pre hpre) hframe hfacts)
          · exact fun e a' w' h => h.1
          · rintro a' w' ⟨_, v, rfl, hbel, hp⟩
            refine step0 v w' (fun _ => ⟨fun _ => (I.pre hpre).trans (hbel.mono (I.pre hpre).size), fun h => by rw [hpre] at h; cases h⟩) (fun h => absurd h hipP) (fun u hu hne hul => ?_) hp
            have huP : u ≠ TP := fun e => by rw [e, hpre] at hul; cases hul
            exact fun vs hv => hmono.mem u (rest u hu huP) vs w w' hbel hv
        · have hLw : L w := by
            cases hlp : listed.getD TP.i false with
            | false => exact hL1 w (I.pre hlp)
            | true => exact hL2 w (I.post hlp)
          refine fin _ ?_ ?_ (hopL.mem t h oi ho a w hLw hframe hfacts)
          · exact fun e a' w' h => h.1
          · rintro a' w' ⟨_, v, rfl, rfl, hp⟩
            exact step0 v _ (fun _ => ⟨I.pre, I.post⟩) (fun h => absurd h hipP) (fun u hu hne hul vs hv => hv) hp
  refine wp_region_any hm ?_
  have inv0 : HeadInv .any l.toArray n (Array.replicate l.toArray.size false) :=
    ⟨by simp, fun j oj _ hl => (by rw [getD_replicate_false] at hl; cases hl), fun t _ ht => getD_in (by simpa using ht) (getD_replicate_false _ _)⟩
  have I0 : MidInv l n TP.i T a0 w0 G (Array.replicate l.toArray.size false) a0 { w0 with drawn := w0.drawn + 1 } :=
    ⟨inv0, rfl, rfl, fun _ _ => rfl, fun _ => Still.below 1, fun hl => (by rw [getD_replicate_false] at hl; cases hl), fun t _ hl => (by rw [getD_replicate_false] at hl; cases hl)⟩
  have ht0 : todo (Array.replicate l.toArray.size false) n = n := by
    unfold todo
    rw [List.filter_eq_self.2 (fun j hj => by
      have hj' := List.mem_range.1 hj
      have : (Array.replicate l.toArray.size false).getD j true = false := getD_in (by simp; omega) (getD_replicate_false _ _)
      rw [this]; rfl), List.length_range]
  have := key n _ _ _ I0 ht0
  rwa [show n + (l.length - n) = l.toArray.size by simp; omega] at this
end
end Go.Dx
end
