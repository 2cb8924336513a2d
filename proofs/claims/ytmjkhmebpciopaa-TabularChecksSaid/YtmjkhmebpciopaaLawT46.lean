/- The contracts of the functions that the law reaches, joined into one text. -/
import Derived.Test.YtmjkhmebpciopaaLawT46a
set_option linter.unusedVariables false
set_option linter.unusedSimpArgs false

/- the text T43 -/
section
/- Chapter 15: the reference's Check. -/
namespace Go.Proofs.Ytmjkhmebpciopaa
open Go.RowKit Go.Dx

theorem idx_known_off {w : World} {ops : Array Oper} {rest : List Oper} {act : Act} {Q : Exit → Act → World → Prop} {ty : TypeId} {pos : String} {after : Array Edge} (d : Nat) (x y : Operand) (b o n c : Nat) (hx : act.eval x = .slice (some ⟨b, o, none⟩) n c) (hn : 1 ≤ n)
    (hy : act.eval y = .int .i64 0) (hK : wpList Try.prog ops Q rest (act.put (some d) (.pointer (some ⟨b, o, none⟩))) w) :
    wpList Try.prog ops Q ({ dst := some d, op := .indexAddr 22 x y, type := ty, pos := pos, after := after, guard := none } :: rest) act w := by
  refine wpList_plain rfl fun K hK' => ?_
  obtain ⟨i0, hi0, hs0⟩ := Option.map_eq_some_iff.1 size_int
  have hrun : (Instr.indexAt 22 (.slice (some ⟨b, o, none⟩) n c) (.int .i64 0)).run Try.prog w = .ok (.pointer (some ⟨b, o, none⟩)) w := by
    have h0 : 0 < n := hn
    simp [Instr.indexAt, asIntOf, run_underlying Try.underlying22, sizeOf, typeInfo, hi0, hs0, h0, Addr.add_lit]
  unfold Oper.wp
  simp [execOp, hx, hy, hrun, Result.andThen]
  exact hK' _ _ hK
set_option maxRecDepth 100000 in
set_option maxHeartbeats 400000 in
theorem ref15_Check_no (X : List (List (List UInt8))) (hs : List Hd) (a : Option Addr) (n c : Nat) (W : Int) (aF aL : Option Addr) (nF cF nL cL : Nat) (w : World) (hp : Pg3 w a n c hs X) (hW : -9223372036854775808 ≤ W ∧ W ≤ 9223372036854775807) (hE : errT X W ≠ 0) :
    Calls Try.prog 24 #[.slice a n c, .int .i64 W, .agg #[.slice aF nF cF, .slice aL nL cL]] w fun e w' => e = .returned (.int .i64 (errT X W)) ∧ Below w.heap.size w w' := by
  have hb0 := blo w (.cells #[.slice aF nF cF, .slice aL nL cL] 35)
  have he := ref15_Error X hs a n c W _ (hp.below hb0) hW
  have hne : (errT X W != 0) = true := by simp [hE]
  generalize errT X W = E at *
  clear hE
  go_enter Try.func24, Try.ntmps24
  go_wp2_with fail
  refine he.mono ?_
  rintro e w2 ⟨rfl, rfl⟩
  go_wp2_with fail
  go_ret
  exact ⟨rfl, hb0⟩

set_option maxRecDepth 100000 in
set_option maxHeartbeats 2000000 in
theorem ref15_Check (X : List (List (List UInt8))) (hs : List Hd) (a : Option Addr) (n c : Nat) (W : Int) (L T : Nat → Nat) (F L' : List Int) (aF aL : Option Addr) (nF cF nL cL : Nat) (w : World) (hp : Pg3 w a n c hs X) (hW : -9223372036854775808 ≤ W ∧ W ≤ 9223372036854775807) (hE : errT X W = 0) (hS : Sol (colW X) (nCols X) X.length W L T 1)
    (hF : Sl w 1 aF nF cF (F.map I64)) (hL : Sl w 1 aL nL cL (L'.map I64)) (hFl : F.length ≤ 1000000) (hLl : L'.length ≤ 1000000) :
    Calls Try.prog 24 #[.slice a n c, .int .i64 W, .agg #[.slice aF nF cF, .slice aL nL cL]] w fun e w' => e = .returned (.int .i64 (chkT X W (chain (nCols X) T (nCols X) 1).length (leastL (nCols X) L) F L')) ∧ Below w.heap.size w w' := by
  obtain rfl := hp.n_eq
  obtain rfl : nF = F.length := by simpa using hF.n_eq
  obtain rfl : nL = L'.length := by simpa using hL.n_eq
  obtain ⟨HX, hW1, hW2, hfit⟩ := errT_zero hE
  have hb0 := blo w (.cells #[.slice aF F.length cF, .slice aL L'.length cL] 35)
  have hx0 := Box.new w 35 #[.slice aF F.length cF, .slice aL L'.length cL]
  have he := ref15_Error X hs a X.length c W _ (hp.below hb0) hW
  rw [hE] at he
  have hlt0 : ∀ w', Below w.heap.size w w' → Calls Try.prog 33 #[.slice a X.length c, .int .i64 W] w' fun e w2 => ∃ a', e = .returned (.slice a' (nCols X) (nCols X)) ∧ Sl w2 1 a' (nCols X) (nCols X) ((ints (leastL (nCols X) L)).map I64) ∧ Below w'.heap.size w' w2 := fun w' h =>
    (ref15_Least X hs a X.length c W L T w' (hp.below h) HX.row HX.r1 HX.r2 HX.c2 HX.c1 HX.le hfit.cols hS).mono (fun e w2 ⟨a', h1, h2, _, h3⟩ => ⟨a', h1, h2, h3⟩)
  have hsz : ∀ (j k : Nat) (w' : World), Below w.heap.size w w' → j ≤ 1000 → k ≤ nCols X → Calls Try.prog 34 #[.slice a X.length c, .int .i64 (j : Int), .int .i64 (k : Int)] w' fun e w2 => e = .returned (.int .i64 (sizeW (colW X) j (k - j) : Int)) ∧ w' = w2 := fun j k w' h hj hk =>
    ref15_Size X hs a X.length c (nCols X) j k w' (hp.below h) HX.row HX.c1 hk (by have := HX.c2; omega) hj HX.le
  have hn1 := HX.c1
  have hn2 := HX.c2
  have hr1 := HX.r1
  have hr2 := HX.r2
  obtain ⟨x0, hx00⟩ : ∃ x, X[0]? = some x := ⟨X[0]'(by omega), by simp⟩
  obtain ⟨ax0, cx0, ks0, hux0, hpx0⟩ := hp.get hx00
  rw [← nCols_of hx00] at hux0
  have HUX := hide hux0
  have htop := hp.top.below hb0
  have HCH : Hid (∀ (F L' : List Int), chkT X W (chain (nCols X) T (nCols X) 1).length (leastL (nCols X) L) F L' = if L' = ints (leastL (nCols X) L) ∧ F.length = (chain (nCols X) T (nCols X) 1).length then (if (List.range F.length).all (okPart (colW X) (nCols X) W F) = true then 0 else 19) else 19) := hide (fun F L' => by unfold chkT; rw [if_neg (fun h => h hE)])
  have HLL : Hid ((ints (leastL (nCols X) L)).length = nCols X) := hide (by unfold ints; rw [List.length_map, leastL_len])
  have HLN : Hid (1 < nCols X → L 1 + 1 = (chain (nCols X) T (nCols X) 1).length * (X.length + 1)) := hide (fun h => hS.lines 1 (Nat.le_refl _) h)
  have HL0 : Hid (1 < nCols X → (ints (leastL (nCols X) L))[0]? = some (L 1 : Int)) := hide (fun h => ints_get (by rw [leastL_get L (by omega : 0 < nCols X), if_pos (by omega)]))
  have HC1 : Hid (nCols X = 1 → (chain (nCols X) T (nCols X) 1).length = 0) := hide (fun h => by rw [h, chain_stop (by omega)]; rfl)
  have hcl := chain_len (n := nCols X) (T := T) (nCols X) 1
  clear hE hS hfit HX hp hx00 hux0 hpx0
  generalize chkT X W (chain (nCols X) T (nCols X) 1).length (leastL (nCols X) L) = CK at *
  generalize ints (leastL (nCols X) L) = LI at *
  generalize (chain (nCols X) T (nCols X) 1).length = m at *
  generalize colW X = f at *
  generalize nCols X = N at *
  generalize L 1 = M1 at *
  obtain ⟨D, HDD⟩ : ∃ D, Hid (decide (L' = LI) = D) := ⟨_, hide rfl⟩
  have hlt := hlt0
  clear hlt0
  go_enter Try.func24, Try.ntmps24
  go_wp2_with fail
  refine he.mono ?_
  rintro e w2 ⟨rfl, rfl⟩
  go_upto_region 5 with (with_reducible refine idx_3 19 _ _ _ _ _ hs rfl htop _ _ 0 rfl rfl _ HUX.out ?_; intro b o hcell hbo)
  clear he htop
  refine wp_region_free 6 [⟨0, 22, [22], fun vs _ => vs = [.pointer (some ⟨w.heap.size, 1, none⟩)]⟩, ⟨1, 23, [23], fun vs _ => vs = [.slice aL L'.length cL]⟩, ⟨2, 24, [24], fun vs _ => vs = [.slice a X.length c]⟩, ⟨3, 25, [25], fun vs _ => vs = [.int .i64 W]⟩, ⟨4, 26, [26], fun vs w => ∃ a, vs = [.slice a N N] ∧ Sl w 1 a N N (LI.map I64)⟩, ⟨5, 27, [27], fun vs _ => vs = [.bool D]⟩] (by kernel_rfl) (by kernel_rfl) ?_ ?_ ?_
  · simp only [All]
    refine ⟨fun _ _ _ _ h => h, fun _ _ _ _ h => h, fun _ _ _ _ h => h, fun _ _ _ _ h => h, ?_, fun _ _ _ _ h => h, trivial⟩
    · rintro vs w w' hb ⟨a, h1, h2⟩
      exact ⟨a, h1, h2.below hb⟩
  · simp only [All]
    refine ⟨?_, ?_, ?_, ?_, ?_, ?_, trivial⟩
    · intro o ho a' w' hb hfr hdep
      obtain rfl := Option.some.inj ho
      have g5 : a'.tmps[5]?.getD undef = .pointer (some ⟨w.heap.size, 0, none⟩) := by have h := hfr 5 (by kernel_rfl); simpa using h
      clear ho hfr hdep
      go_wp2_with fail
      exact ⟨rfl, _, rfl, Below.refl _ _, rfl⟩
    · intro o ho a' w' hb hfr hdep
      obtain rfl := Option.some.inj ho
      have g22 : a'.tmps[22]?.getD undef = .pointer (some ⟨w.heap.size, 1, none⟩) := by have h := hdep 0 _ rfl (by kernel_rfl); simpa using h
      clear ho hfr hdep
      have hcl := (hx0.under hb).at_ (j := 1) rfl
      go_wp2_with fail
      exact ⟨rfl, _, rfl, Below.refl _ _, rfl⟩
    · intro o ho a' w' hb hfr hdep
      obtain rfl := Option.some.inj ho
      have g0 : a'.tmps[0]?.getD undef = .slice a X.length c := by have h := hfr 0 (by kernel_rfl); simpa using h
      clear ho hfr hdep
      go_wp2_with fail
      exact ⟨rfl, _, rfl, Below.refl _ _, rfl⟩
    · intro o ho a' w' hb hfr hdep
      obtain rfl := Option.some.inj ho
      have g1 : a'.tmps[1]?.getD undef = .int .i64 W := by have h := hfr 1 (by kernel_rfl); simpa using h
      clear ho hfr hdep
      go_wp2_with fail
      exact ⟨rfl, _, rfl, Below.refl _ _, rfl⟩
    · intro o ho a' w' hb hfr hdep
      obtain rfl := Option.some.inj ho
      have g24 : a'.tmps[24]?.getD undef = .slice a X.length c := by have h := hdep 2 _ rfl (by kernel_rfl); simpa using h
      have g25 : a'.tmps[25]?.getD undef = .int .i64 W := by have h := hdep 3 _ rfl (by kernel_rfl); simpa using h
      clear ho hfr hdep
      go_wp2_with fail
      refine (hlt _ (hb0.trans (hb.mono hb0.size))).mono ?_
      rintro e w3 ⟨a3, rfl, h2, h3⟩
      go_wp2_with fail
      exact ⟨rfl, _, rfl, h3, a3, rfl, h2⟩
    · intro o ho a' w' hb hfr hdep
      obtain rfl := Option.some.inj ho
      have g23 : a'.tmps[23]?.getD undef = .slice aL L'.length cL := by have h := hdep 1 _ rfl (by kernel_rfl); simpa using h
      obtain ⟨a3, g26, hs26⟩ := hdep 4 _ rfl (by kernel_rfl)
      replace g26 : a'.tmps[26]?.getD undef = .slice a3 N N := by simpa using g26
      clear ho hfr hdep
      have hL2 := hL.below (hb0.trans (hb.mono hb0.size))
      go_wp2_with fail
      refine (SameInts_at HDD.out hL2 hs26).mono ?_
      rintro e w3 ⟨rfl, h2⟩
      go_wp2_with fail
      exact ⟨rfl, _, rfl, h2, rfl⟩
  · intro g w2 hb2 hp2
    have p27 := hp2 5 _ rfl
    clear hp2
    simp at p27
    simp only [List.drop_succ_cons, List.drop_zero, List.map_cons, List.map_nil, putAll, Act.put, List.setIfInBounds_toArray, List.set_cons_succ, List.set_cons_zero, p27]
    clear p27
    have hbw2 := hb0.trans (hb2.mono hb0.size)
    have hx2 := hx0.under hb2
    have hF2 := hF.below hbw2
    have hL2 := hL.below hbw2
    clear hb2 hx0 hb0 hlt
    cases D
    · have HANS : Hid (CK F L' = 19) := hide (by rw [HCH.out, if_neg (fun h => by have := HDD.out; rw [decide_eq_true h.1] at this; cases this)])
      go_wp2_with fail
      go_ret
      exact ⟨by rw [HANS.out]; rfl, hbw2⟩
    have HLE : Hid (L' = LI) := hide (of_decide_eq_true HDD.out)
    by_cases hN1 : N = 1
    · have hN1' : ((N : Int) == 1) = true := by simp [hN1]
      have c0 := hx2.at_ (j := 0) rfl
      by_cases hf0 : F.length = 0
      · have d3 : decide (0 < (F.length : Int)) = false := decide_eq_false (by omega)
        have d3' : decide (0 < F.length) = false := decide_eq_false (by omega)
        have HANS : Hid (CK F L' = 0) := hide (by rw [HCH.out, if_pos ⟨HLE.out, by rw [HC1.out hN1, hf0]⟩, hf0]; rfl)
        clear hN1 hf0
        go_wp2_with fail
        go_ret
        exact ⟨by rw [HANS.out]; rfl, hbw2⟩
      · have d3 : decide (0 < (F.length : Int)) = true := decide_eq_true (by omega)
        have d3' : decide (0 < F.length) = true := decide_eq_true (by omega)
        have HANS : Hid (CK F L' = 19) := hide (by rw [HCH.out, if_neg (fun h => hf0 (by rw [h.2, HC1.out hN1]))])
        clear hN1 hf0
        go_wp2_with fail
        go_ret
        exact ⟨by rw [HANS.out]; rfl, hbw2⟩
    have hN1' : ((N : Int) == 1) = false := by simp; omega
    have hN2 : 1 < N := by omega
    clear hN1
    have HM := hide (HLN.out hN2)
    by_cases hf0 : F.length = 0
    · have d3 : ((F.length : Int) == 0) = true := by simp [hf0]
      have HANS : Hid (CK F L' = 19) := hide (by
        rw [HCH.out, if_neg (fun h => by
          have h1 := HM.out
          rw [← h.2, hf0] at h1
          omega)])
      clear hf0
      go_upto_region 11 with fail
      refine wp_region_free 18 [⟨0, 35, [35], fun vs _ => vs = [.pointer (some ⟨w.heap.size, 0, none⟩)]⟩, ⟨1, 36, [36], fun vs _ => vs = [.slice aF F.length cF]⟩, ⟨2, 37, [37], fun vs _ => vs = [.int .i64 (F.length : Int)]⟩, ⟨3, 38, [38], fun vs _ => vs = [.bool true]⟩, ⟨4, 39, [39], fun vs _ => vs = [.bool true]⟩, ⟨5, 40, [40], fun vs _ => vs = [undef]⟩, ⟨6, 41, [41], fun vs _ => vs = [undef]⟩, ⟨7, 42, [42], fun vs _ => vs = [undef]⟩, ⟨8, 43, [43], fun vs _ => vs = [undef]⟩, ⟨9, 44, [44], fun vs _ => vs = [undef]⟩, ⟨10, 45, [45], fun vs _ => vs = [undef]⟩, ⟨11, 46, [46], fun vs _ => vs = [undef]⟩, ⟨12, 47, [47], fun vs _ => vs = [undef]⟩, ⟨13, 48, [48], fun vs _ => vs = [undef]⟩, ⟨14, 49, [49], fun vs _ => vs = [undef]⟩, ⟨15, 50, [50], fun vs _ => vs = [undef]⟩, ⟨16, 51, [51], fun vs _ => vs = [undef]⟩, ⟨17, 52, [52], fun vs _ => vs = [undef]⟩] (by kernel_rfl) (by kernel_rfl) ?_ ?_ ?_
      · simp only [All]
        refine ⟨fun _ _ _ _ h => h, fun _ _ _ _ h => h, fun _ _ _ _ h => h, fun _ _ _ _ h => h, fun _ _ _ _ h => h, fun _ _ _ _ h => h, fun _ _ _ _ h => h, fun _ _ _ _ h => h, fun _ _ _ _ h => h, fun _ _ _ _ h => h, fun _ _ _ _ h => h, fun _ _ _ _ h => h, fun _ _ _ _ h => h, fun _ _ _ _ h => h, fun _ _ _ _ h => h, fun _ _ _ _ h => h, fun _ _ _ _ h => h, fun _ _ _ _ h => h, trivial⟩
      · simp only [All]
        refine ⟨?_, ?_, ?_, ?_, ?_, ?_, ?_, ?_, ?_, ?_, ?_, ?_, ?_, ?_, ?_, ?_, ?_, ?_, trivial⟩
        · intro o ho a' w' hb hfr hdep
          obtain rfl := Option.some.inj ho
          have g5 : a'.tmps[5]?.getD undef = .pointer (some ⟨w.heap.size, 0, none⟩) := by have h := hfr 5 (by kernel_rfl); simpa using h
          clear ho hfr hdep
          go_wp2_with fail
          exact ⟨rfl, _, rfl, Below.refl _ _, rfl⟩
        · intro o ho a' w' hb hfr hdep
          obtain rfl := Option.some.inj ho
          have g35 : a'.tmps[35]?.getD undef = .pointer (some ⟨w.heap.size, 0, none⟩) := by have h := hdep 0 _ rfl (by kernel_rfl); simpa using h
          clear ho hfr hdep
          have hcl := (hx2.under hb).at_ (j := 0) rfl
          go_wp2_with fail
          exact ⟨rfl, _, rfl, Below.refl _ _, rfl⟩
        · intro o ho a' w' hb hfr hdep
          obtain rfl := Option.some.inj ho
          have g36 : a'.tmps[36]?.getD undef = .slice aF F.length cF := by have h := hdep 1 _ rfl (by kernel_rfl); simpa using h
          clear ho hfr hdep
          go_wp2_with fail
          exact ⟨rfl, _, rfl, Below.refl _ _, rfl⟩
        · intro o ho a' w' hb hfr hdep
          obtain rfl := Option.some.inj ho
          have g37 : a'.tmps[37]?.getD undef = .int .i64 (F.length : Int) := by have h := hdep 2 _ rfl (by kernel_rfl); simpa using h
          clear ho hfr hdep
          go_wp2_with fail
          exact ⟨rfl, _, rfl, Below.refl _ _, rfl⟩
        · intro o ho a' w' hb hfr hdep
          obtain rfl := Option.some.inj ho
          have g38 : a'.tmps[38]?.getD undef = .bool true := by have h := hdep 3 _ rfl (by kernel_rfl); simpa using h
          clear ho hfr hdep
          go_wp2_with fail
          exact ⟨rfl, _, rfl, Below.refl _ _, rfl⟩
        · intro o ho a' w' hb hfr hdep
          obtain rfl := Option.some.inj ho
          have g39 : a'.tmps[39]?.getD undef = .bool true := by have h := hdep 4 _ rfl (by kernel_rfl); simpa using h
          have q39 := opt_bool g39
          clear ho hfr hdep
          go_wp2_with fail
          exact ⟨rfl, _, rfl, Below.refl _ _, rfl⟩
        · intro o ho a' w' hb hfr hdep
          obtain rfl := Option.some.inj ho
          have g39 : a'.tmps[39]?.getD undef = .bool true := by have h := hdep 4 _ rfl (by kernel_rfl); simpa using h
          have q39 := opt_bool g39
          clear ho hfr hdep
          go_wp2_with fail
          exact ⟨rfl, _, rfl, Below.refl _ _, rfl⟩
        · intro o ho a' w' hb hfr hdep
          obtain rfl := Option.some.inj ho
          have g39 : a'.tmps[39]?.getD undef = .bool true := by have h := hdep 4 _ rfl (by kernel_rfl); simpa using h
          have q39 := opt_bool g39
          clear ho hfr hdep
          go_wp2_with fail
          exact ⟨rfl, _, rfl, Below.refl _ _, rfl⟩
        · intro o ho a' w' hb hfr hdep
          obtain rfl := Option.some.inj ho
          have g39 : a'.tmps[39]?.getD undef = .bool true := by have h := hdep 4 _ rfl (by kernel_rfl); simpa using h
          have q39 := opt_bool g39
          clear ho hfr hdep
          go_wp2_with fail
          exact ⟨rfl, _, rfl, Below.refl _ _, rfl⟩
        · intro o ho a' w' hb hfr hdep
          obtain rfl := Option.some.inj ho
          have g39 : a'.tmps[39]?.getD undef = .bool true := by have h := hdep 4 _ rfl (by kernel_rfl); simpa using h
          have q39 := opt_bool g39
          clear ho hfr hdep
          go_wp2_with fail
          exact ⟨rfl, _, rfl, Below.refl _ _, rfl⟩
        · intro o ho a' w' hb hfr hdep
          obtain rfl := Option.some.inj ho
          have g39 : a'.tmps[39]?.getD undef = .bool true := by have h := hdep 4 _ rfl (by kernel_rfl); simpa using h
          have q39 := opt_bool g39
          clear ho hfr hdep
          go_wp2_with fail
          exact ⟨rfl, _, rfl, Below.refl _ _, rfl⟩
        · intro o ho a' w' hb hfr hdep
          obtain rfl := Option.some.inj ho
          have g39 : a'.tmps[39]?.getD undef = .bool true := by have h := hdep 4 _ rfl (by kernel_rfl); simpa using h
          have q39 := opt_bool g39
          clear ho hfr hdep
          go_wp2_with fail
          exact ⟨rfl, _, rfl, Below.refl _ _, rfl⟩
        · intro o ho a' w' hb hfr hdep
          obtain rfl := Option.some.inj ho
          have g39 : a'.tmps[39]?.getD undef = .bool true := by have h := hdep 4 _ rfl (by kernel_rfl); simpa using h
          have q39 := opt_bool g39
          clear ho hfr hdep
          go_wp2_with fail
          exact ⟨rfl, _, rfl, Below.refl _ _, rfl⟩
        · intro o ho a' w' hb hfr hdep
          obtain rfl := Option.some.inj ho
          have g39 : a'.tmps[39]?.getD undef = .bool true := by have h := hdep 4 _ rfl (by kernel_rfl); simpa using h
          have q39 := opt_bool g39
          clear ho hfr hdep
          go_wp2_with fail
          exact ⟨rfl, _, rfl, Below.refl _ _, rfl⟩
        · intro o ho a' w' hb hfr hdep
          obtain rfl := Option.some.inj ho
          have g39 : a'.tmps[39]?.getD undef = .bool true := by have h := hdep 4 _ rfl (by kernel_rfl); simpa using h
          have q39 := opt_bool g39
          clear ho hfr hdep
          go_wp2_with fail
          exact ⟨rfl, _, rfl, Below.refl _ _, rfl⟩
        · intro o ho a' w' hb hfr hdep
          obtain rfl := Option.some.inj ho
          have g39 : a'.tmps[39]?.getD undef = .bool true := by have h := hdep 4 _ rfl (by kernel_rfl); simpa using h
          have q39 := opt_bool g39
          clear ho hfr hdep
          go_wp2_with fail
          exact ⟨rfl, _, rfl, Below.refl _ _, rfl⟩
        · intro o ho a' w' hb hfr hdep
          obtain rfl := Option.some.inj ho
          have g39 : a'.tmps[39]?.getD undef = .bool true := by have h := hdep 4 _ rfl (by kernel_rfl); simpa using h
          have q39 := opt_bool g39
          clear ho hfr hdep
          go_wp2_with fail
          exact ⟨rfl, _, rfl, Below.refl _ _, rfl⟩
        · intro o ho a' w' hb hfr hdep
          obtain rfl := Option.some.inj ho
          have g39 : a'.tmps[39]?.getD undef = .bool true := by have h := hdep 4 _ rfl (by kernel_rfl); simpa using h
          have q39 := opt_bool g39
          clear ho hfr hdep
          go_wp2_with fail
          exact ⟨rfl, _, rfl, Below.refl _ _, rfl⟩
      · intro g w4 hb4 hp4
        have p39 := hp4 4 _ rfl
        have p52 := hp4 17 _ rfl
        clear hp4
        simp at p39 p52
        simp only [List.drop_succ_cons, List.drop_zero, List.map_cons, List.map_nil, putAll, Act.put, List.setIfInBounds_toArray, List.set_cons_succ, List.set_cons_zero, p39, p52]
        clear p39 p52
        go_wp2_with fail
        go_ret
        exact ⟨by rw [HANS.out]; rfl, hbw2.trans (hb4.mono hbw2.size)⟩
    · have d3 : ((F.length : Int) == 0) = false := by simp; intro h; exact hf0 (by rw [h]; rfl)
      have hf1 : 1 ≤ F.length := by omega
      clear hf0
      obtain ⟨R1, HR1⟩ : ∃ R1 : Nat, Hid (X.length + 1 = R1) := ⟨_, hide rfl⟩
      obtain ⟨FR, HFR⟩ : ∃ FR : Nat, Hid ((F.length : Int) * (R1 : Int) = (FR : Int)) := ⟨F.length * R1, hide (by simp)⟩
      have HBD : Hid (1 ≤ FR ∧ FR ≤ 13000000) := hide (by
        have h1 : FR = F.length * R1 := by have := HFR.out; rw [← Int.natCast_mul] at this; exact (Int.ofNat.inj this).symm
        have h2 := HR1.out
        rw [h1]
        refine ⟨Nat.mul_pos hf1 (by omega), Nat.le_trans (Nat.mul_le_mul hFl (show R1 ≤ 13 by omega)) (by decide)⟩)
      obtain ⟨D2, HD2⟩ : ∃ D2, Hid (((FR : Int) - 1 != (M1 : Int)) = D2) := ⟨_, hide rfl⟩
      have hl1 : 1 ≤ L'.length := by rw [HLE.out, HLL.out]; exact hn1
      obtain ⟨lb, lo, rfl, hlb, hlc⟩ := hL2.ex (by rw [List.length_map]; exact hl1)
      have hcL : ∀ w', Below w2.heap.size w2 w' → w'.cell? ⟨lb, lo, none⟩ = some (.int .i64 (M1 : Int)) := fun w' h => by
        have h0 : (L'.map I64)[0]? = some (.int .i64 (M1 : Int)) := by rw [List.getElem?_map, HLE.out, HL0.out hN2]; rfl
        exact (World.cell?_of_block (h.block lb hlb)).trans (hlc 0 _ h0)
      go_upto_region 11 with fail
      refine wp_region_free 18 [⟨0, 35, [35], fun vs _ => vs = [.pointer (some ⟨w.heap.size, 0, none⟩)]⟩, ⟨1, 36, [36], fun vs _ => vs = [.slice aF F.length cF]⟩, ⟨2, 37, [37], fun vs _ => vs = [.int .i64 (F.length : Int)]⟩, ⟨3, 38, [38], fun vs _ => vs = [.bool false]⟩, ⟨4, 39, [39], fun vs _ => vs = [.bool false]⟩, ⟨5, 40, [40], fun vs _ => vs = [.pointer (some ⟨w.heap.size, 0, none⟩)]⟩, ⟨6, 41, [41], fun vs _ => vs = [.slice aF F.length cF]⟩, ⟨7, 42, [42], fun vs _ => vs = [.int .i64 (F.length : Int)]⟩, ⟨8, 43, [43], fun vs _ => vs = [.slice a X.length c]⟩, ⟨9, 44, [44], fun vs _ => vs = [.int .i64 (X.length : Int)]⟩, ⟨10, 45, [45], fun vs _ => vs = [.int .i64 (R1 : Int)]⟩, ⟨11, 46, [46], fun vs _ => vs = [.int .i64 (FR : Int)]⟩, ⟨12, 47, [47], fun vs _ => vs = [.int .i64 ((FR : Int) - 1)]⟩, ⟨13, 48, [48], fun vs _ => vs = [.pointer (some ⟨w.heap.size, 1, none⟩)]⟩, ⟨14, 49, [49], fun vs _ => vs = [.slice (some ⟨lb, lo, none⟩) L'.length cL]⟩, ⟨15, 50, [50], fun vs _ => vs = [.pointer (some ⟨lb, lo, none⟩)]⟩, ⟨16, 51, [51], fun vs _ => vs = [.int .i64 (M1 : Int)]⟩, ⟨17, 52, [52], fun vs _ => vs = [.bool D2]⟩] (by kernel_rfl) (by kernel_rfl) ?_ ?_ ?_
      · simp only [All]
        refine ⟨fun _ _ _ _ h => h, fun _ _ _ _ h => h, fun _ _ _ _ h => h, fun _ _ _ _ h => h, fun _ _ _ _ h => h, fun _ _ _ _ h => h, fun _ _ _ _ h => h, fun _ _ _ _ h => h, fun _ _ _ _ h => h, fun _ _ _ _ h => h, fun _ _ _ _ h => h, fun _ _ _ _ h => h, fun _ _ _ _ h => h, fun _ _ _ _ h => h, fun _ _ _ _ h => h, fun _ _ _ _ h => h, fun _ _ _ _ h => h, fun _ _ _ _ h => h, trivial⟩
      · simp only [All]
        refine ⟨?_, ?_, ?_, ?_, ?_, ?_, ?_, ?_, ?_, ?_, ?_, ?_, ?_, ?_, ?_, ?_, ?_, ?_, trivial⟩
        · intro o ho a' w' hb hfr hdep
          obtain rfl := Option.some.inj ho
          have g5 : a'.tmps[5]?.getD undef = .pointer (some ⟨w.heap.size, 0, none⟩) := by have h := hfr 5 (by kernel_rfl); simpa using h
          clear ho hfr hdep
          go_wp2_with fail
          exact ⟨rfl, _, rfl, Below.refl _ _, rfl⟩
        · intro o ho a' w' hb hfr hdep
          obtain rfl := Option.some.inj ho
          have g35 : a'.tmps[35]?.getD undef = .pointer (some ⟨w.heap.size, 0, none⟩) := by have h := hdep 0 _ rfl (by kernel_rfl); simpa using h
          clear ho hfr hdep
          have hcl := (hx2.under hb).at_ (j := 0) rfl
          go_wp2_with fail
          exact ⟨rfl, _, rfl, Below.refl _ _, rfl⟩
        · intro o ho a' w' hb hfr hdep
          obtain rfl := Option.some.inj ho
          have g36 : a'.tmps[36]?.getD undef = .slice aF F.length cF := by have h := hdep 1 _ rfl (by kernel_rfl); simpa using h
          clear ho hfr hdep
          go_wp2_with fail
          exact ⟨rfl, _, rfl, Below.refl _ _, rfl⟩
        · intro o ho a' w' hb hfr hdep
          obtain rfl := Option.some.inj ho
          have g37 : a'.tmps[37]?.getD undef = .int .i64 (F.length : Int) := by have h := hdep 2 _ rfl (by kernel_rfl); simpa using h
          clear ho hfr hdep
          go_wp2_with fail
          exact ⟨rfl, _, rfl, Below.refl _ _, rfl⟩
        · intro o ho a' w' hb hfr hdep
          obtain rfl := Option.some.inj ho
          have g38 : a'.tmps[38]?.getD undef = .bool false := by have h := hdep 3 _ rfl (by kernel_rfl); simpa using h
          clear ho hfr hdep
          go_wp2_with fail
          exact ⟨rfl, _, rfl, Below.refl _ _, rfl⟩
        · intro o ho a' w' hb hfr hdep
          obtain rfl := Option.some.inj ho
          have g5 : a'.tmps[5]?.getD undef = .pointer (some ⟨w.heap.size, 0, none⟩) := by have h := hfr 5 (by kernel_rfl); simpa using h
          have g39 : a'.tmps[39]?.getD undef = .bool false := by have h := hdep 4 _ rfl (by kernel_rfl); simpa using h
          have q39 := opt_bool g39
          clear ho hfr hdep
          go_wp2_with fail
          exact ⟨rfl, _, rfl, Below.refl _ _, rfl⟩
        · intro o ho a' w' hb hfr hdep
          obtain rfl := Option.some.inj ho
          have g40 : a'.tmps[40]?.getD undef = .pointer (some ⟨w.heap.size, 0, none⟩) := by have h := hdep 5 _ rfl (by kernel_rfl); simpa using h
          have g39 : a'.tmps[39]?.getD undef = .bool false := by have h := hdep 4 _ rfl (by kernel_rfl); simpa using h
          have q39 := opt_bool g39
          clear ho hfr hdep
          have hcl := (hx2.under hb).at_ (j := 0) rfl
          go_wp2_with fail
          exact ⟨rfl, _, rfl, Below.refl _ _, rfl⟩
        · intro o ho a' w' hb hfr hdep
          obtain rfl := Option.some.inj ho
          have g41 : a'.tmps[41]?.getD undef = .slice aF F.length cF := by have h := hdep 6 _ rfl (by kernel_rfl); simpa using h
          have g39 : a'.tmps[39]?.getD undef = .bool false := by have h := hdep 4 _ rfl (by kernel_rfl); simpa using h
          have q39 := opt_bool g39
          clear ho hfr hdep
          go_wp2_with fail
          exact ⟨rfl, _, rfl, Below.refl _ _, rfl⟩
        · intro o ho a' w' hb hfr hdep
          obtain rfl := Option.some.inj ho
          have g0 : a'.tmps[0]?.getD undef = .slice a X.length c := by have h := hfr 0 (by kernel_rfl); simpa using h
          have g39 : a'.tmps[39]?.getD undef = .bool false := by have h := hdep 4 _ rfl (by kernel_rfl); simpa using h
          have q39 := opt_bool g39
          clear ho hfr hdep
          go_wp2_with fail
          exact ⟨rfl, _, rfl, Below.refl _ _, rfl⟩
        · intro o ho a' w' hb hfr hdep
          obtain rfl := Option.some.inj ho
          have g43 : a'.tmps[43]?.getD undef = .slice a X.length c := by have h := hdep 8 _ rfl (by kernel_rfl); simpa using h
          have g39 : a'.tmps[39]?.getD undef = .bool false := by have h := hdep 4 _ rfl (by kernel_rfl); simpa using h
          have q39 := opt_bool g39
          clear ho hfr hdep
          go_wp2_with fail
          exact ⟨rfl, _, rfl, Below.refl _ _, rfl⟩
        · intro o ho a' w' hb hfr hdep
          obtain rfl := Option.some.inj ho
          have g44 : a'.tmps[44]?.getD undef = .int .i64 (X.length : Int) := by have h := hdep 9 _ rfl (by kernel_rfl); simpa using h
          have g39 : a'.tmps[39]?.getD undef = .bool false := by have h := hdep 4 _ rfl (by kernel_rfl); simpa using h
          have q39 := opt_bool g39
          clear ho hfr hdep
          have hr1' := HR1.out
          go_wp2_with fail
          exact ⟨rfl, _, rfl, Below.refl _ _, by simp [← HR1.out]⟩
        · intro o ho a' w' hb hfr hdep
          obtain rfl := Option.some.inj ho
          have g42 : a'.tmps[42]?.getD undef = .int .i64 (F.length : Int) := by have h := hdep 7 _ rfl (by kernel_rfl); simpa using h
          have g45 : a'.tmps[45]?.getD undef = .int .i64 (R1 : Int) := by have h := hdep 10 _ rfl (by kernel_rfl); simpa using h
          have g39 : a'.tmps[39]?.getD undef = .bool false := by have h := hdep 4 _ rfl (by kernel_rfl); simpa using h
          have q39 := opt_bool g39
          clear ho hfr hdep
          have hfr := HFR.out
          have hbd := HBD.out
          go_wp2_with fail
          exact ⟨rfl, _, rfl, Below.refl _ _, by simp [hfr]⟩
        · intro o ho a' w' hb hfr hdep
          obtain rfl := Option.some.inj ho
          have g46 : a'.tmps[46]?.getD undef = .int .i64 (FR : Int) := by have h := hdep 11 _ rfl (by kernel_rfl); simpa using h
          have g39 : a'.tmps[39]?.getD undef = .bool false := by have h := hdep 4 _ rfl (by kernel_rfl); simpa using h
          have q39 := opt_bool g39
          clear ho hfr hdep
          have hbd := HBD.out
          go_wp2_with fail
          exact ⟨rfl, _, rfl, Below.refl _ _, rfl⟩
        · intro o ho a' w' hb hfr hdep
          obtain rfl := Option.some.inj ho
          have g5 : a'.tmps[5]?.getD undef = .pointer (some ⟨w.heap.size, 0, none⟩) := by have h := hfr 5 (by kernel_rfl); simpa using h
          have g39 : a'.tmps[39]?.getD undef = .bool false := by have h := hdep 4 _ rfl (by kernel_rfl); simpa using h
          have q39 := opt_bool g39
          clear ho hfr hdep
          go_wp2_with fail
          exact ⟨rfl, _, rfl, Below.refl _ _, rfl⟩
        · intro o ho a' w' hb hfr hdep
          obtain rfl := Option.some.inj ho
          have g48 : a'.tmps[48]?.getD undef = .pointer (some ⟨w.heap.size, 1, none⟩) := by have h := hdep 13 _ rfl (by kernel_rfl); simpa using h
          have g39 : a'.tmps[39]?.getD undef = .bool false := by have h := hdep 4 _ rfl (by kernel_rfl); simpa using h
          have q39 := opt_bool g39
          clear ho hfr hdep
          have hcl := (hx2.under hb).at_ (j := 1) rfl
          go_wp2_with fail
          exact ⟨rfl, _, rfl, Below.refl _ _, rfl⟩
        · intro o ho a' w' hb hfr hdep
          obtain rfl := Option.some.inj ho
          have g49 : a'.tmps[49]?.getD undef = .slice (some ⟨lb, lo, none⟩) L'.length cL := by have h := hdep 14 _ rfl (by kernel_rfl); simpa using h
          have g39 : a'.tmps[39]?.getD undef = .bool false := by have h := hdep 4 _ rfl (by kernel_rfl); simpa using h
          have q39 := opt_bool g39
          clear ho hfr hdep
          refine unguard (by simp [Region.wanted, yielded, q39]) ?_
          refine idx_known_off (act := a') 50 (.tmp 49) (.const (.int .i64 0)) lb lo L'.length cL (by show a'.tmps.getD 49 undef = _; simpa using g49) hl1 rfl ?_
          go_wp2_with fail
          exact ⟨rfl, _, rfl, Below.refl _ _, rfl⟩
        · intro o ho a' w' hb hfr hdep
          obtain rfl := Option.some.inj ho
          have g50 : a'.tmps[50]?.getD undef = .pointer (some ⟨lb, lo, none⟩) := by have h := hdep 15 _ rfl (by kernel_rfl); simpa using h
          have g39 : a'.tmps[39]?.getD undef = .bool false := by have h := hdep 4 _ rfl (by kernel_rfl); simpa using h
          have q39 := opt_bool g39
          clear ho hfr hdep
          have hcl := hcL _ hb
          go_wp2_with fail
          exact ⟨rfl, _, rfl, Below.refl _ _, rfl⟩
        · intro o ho a' w' hb hfr hdep
          obtain rfl := Option.some.inj ho
          have g47 : a'.tmps[47]?.getD undef = .int .i64 ((FR : Int) - 1) := by have h := hdep 12 _ rfl (by kernel_rfl); simpa using h
          have g51 : a'.tmps[51]?.getD undef = .int .i64 (M1 : Int) := by have h := hdep 16 _ rfl (by kernel_rfl); simpa using h
          have g39 : a'.tmps[39]?.getD undef = .bool false := by have h := hdep 4 _ rfl (by kernel_rfl); simpa using h
          have q39 := opt_bool g39
          clear ho hfr hdep
          go_wp2_with fail
          exact ⟨rfl, _, rfl, Below.refl _ _, by rw [HD2.out]; rfl⟩
      · intro g w4 hb4 hp4
        have p39 := hp4 4 _ rfl
        have p52 := hp4 17 _ rfl
        clear hp4
        simp at p39 p52
        simp only [List.drop_succ_cons, List.drop_zero, List.map_cons, List.map_nil, putAll, Act.put, List.setIfInBounds_toArray, List.set_cons_succ, List.set_cons_zero, p39, p52]
        clear p39 p52
        have hbw4 := hbw2.trans (hb4.mono hbw2.size)
        have hx4 := hx2.under hb4
        have hF4 := hF2.below hb4
        clear hx2 hF2 hL2 hb4 hcL hlc
        cases D2
        case true =>
          have HANS : Hid (CK F L' = 19) := hide (by
            rw [HCH.out, if_neg (fun h => by
              have h1 := HM.out
              have h2 := HD2.out
              have h3 := HFR.out
              rw [HR1.out, ← h.2] at h1
              rw [← Int.natCast_mul, ← h1] at h3
              have h4 : (FR : Int) - 1 = (M1 : Int) := by rw [← h3]; omega
              rw [h4] at h2
              simp at h2)])
          go_wp2_with fail
          go_ret
          exact ⟨by rw [HANS.out]; rfl, hbw4⟩
        have HFM : Hid (F.length = m) := hide (by
          have h1 := HM.out
          have h2 : (FR : Int) - 1 = (M1 : Int) := by have := HD2.out; simpa using this
          have h3 := HFR.out
          rw [← Int.natCast_mul] at h3
          have h4 : F.length * R1 = m * R1 := by rw [HR1.out] at h1; omega
          exact Nat.eq_of_mul_eq_mul_right (by have := HR1.out; omega) h4)
        have hcl2 : F.length ≤ N := by rw [HFM.out]; exact hcl
        have c0 := hx4.at_ (j := 0) rfl
        go_wp2_with fail
        go_loopg [9] F.length (fun g j' w' => ∃ i : Nat, i ≤ F.length ∧ g = F.length - i ∧ j' = .int .i64 (i : Int) ∧ Hid ((List.range i).all (okPart f N W F) = true) ∧ w4 = w')
        case atStart => exact ⟨0, by omega, by omega, rfl, hide rfl, rfl⟩
        case round =>
          obtain ⟨i, hi, hg, rfl, HA, rfl⟩ := hrel
          have HG := hide hg
          clear hg
          by_cases hil : i < F.length
          · obtain ⟨x, hx⟩ : ∃ x, F[i]? = some x := ⟨F[i], by simp [hil]⟩
            have HX := hide hx
            obtain ⟨t, ht⟩ : ∃ t, toAt F N i = t := ⟨_, rfl⟩
            have HT := hide ht
            have HD : F.getD i 0 = x := by rw [List.getD_eq_getElem?_getD, hx]; rfl
            obtain ⟨r, hr⟩ : ∃ r, okPart f N W F i = r := ⟨_, rfl⟩
            have HR := hide hr
            have hok : okPart f N W F i = decide ((i = 0 → x = 1) ∧ 1 ≤ x ∧ x < t ∧ t ≤ N ∧ (sizeW f x.toNat (t.toNat - x.toNat) : Int) ≤ W) := by unfold okPart; rw [HD, ht]
            have HOK := hide hok
            clear hx ht HD hr hok
            have d0 : decide ((i : Int) < (F.length : Int)) = true := decide_eq_true (by omega)
            go_upto_if 72 with (with_reducible refine idx_i 64 _ _ _ _ _ _ rfl hF4 _ _ i rfl rfl _ HX.out ?_; intro b o hcell hbo)
            go_cut [11] (fun v w' => v = .int .i64 t ∧ w4 = w')
            case first =>
              by_cases h1 : i + 1 < F.length
              · obtain ⟨y, hy⟩ : ∃ y, F[i + 1]? = some y := ⟨F[i + 1], by simp [h1]⟩
                have HY := hide hy
                have hty : y = t := by rw [← HT.out]; unfold toAt; rw [if_pos h1, List.getD_eq_getElem?_getD, hy]; rfl
                have HTY := hide hty
                have d5 : decide ((i : Int) + 1 < (F.length : Int)) = true := decide_eq_true (by omega)
                clear hy hty
                go_wp2_with (with_reducible refine idx_i 77 _ _ _ _ _ _ rfl hF4 _ _ (i + 1) rfl (by omega) _ HY.out ?_; intro b2 o2 hcell2 hbo2)
                go_meet
                exact ⟨by rw [HTY.out], rfl⟩
              · have htN : (N : Int) = t := by rw [← HT.out]; unfold toAt; rw [if_neg h1]
                have HTY := hide htN
                have d5 : decide ((i : Int) + 1 < (F.length : Int)) = false := decide_eq_false (by omega)
                clear htN
                go_wp2_with fail
                go_meet
                exact ⟨by rw [HTY.out], rfl⟩
            case rest =>
              obtain ⟨rfl, rfl⟩ := hcut
              clear hcell hbo
              go_upto_region 20 with fail
              go_cut [98] (fun v w' => ∃ q : Bool, v = .bool q ∧ Hid ((q = true → r = false) ∧ (q = false → (1 ≤ x ∧ x < t ∧ t ≤ N) ∧ r = decide ((sizeW f x.toNat (t.toNat - x.toNat) : Int) ≤ W))) ∧ w4 = w')
              case first =>
                have hHR := HR.out
                have hHOK := HOK.out
                have hq : (∃ q : Bool, q = ((i : Int) == 0)) := ⟨_, rfl⟩
                have hfin : (((i : Int) == 0) = true ∧ (x != 1) = true ∧ r = false) ∨ (((((i : Int) == 0) = true ∧ (x != 1) = false) ∨ ((i : Int) == 0) = false) ∧ ((decide (x < 1) = true ∧ r = false) ∨ (decide (x < 1) = false ∧ decide (t ≤ x) = true ∧ r = false) ∨ (decide (x < 1) = false ∧ decide (t ≤ x) = false ∧ decide ((N : Int) < t) = true ∧ r = false) ∨
                    (decide (x < 1) = false ∧ decide (t ≤ x) = false ∧ decide ((N : Int) < t) = false ∧ (1 ≤ x ∧ x < t ∧ t ≤ N) ∧ r = decide ((sizeW f x.toNat (t.toNat - x.toNat) : Int) ≤ W)))) := by
                  rw [← hHR, hHOK]
                  by_cases e0 : i = 0
                  · have e1 : ((i : Int) == 0) = true := by simp [e0]
                    by_cases e2 : x = 1
                    · have e3 : (x != 1) = false := by simp [e2]
                      refine .inr ⟨.inl ⟨e1, e3⟩, ?_⟩
                      have e4 : ¬ x < 1 := by omega
                      by_cases e5 : t ≤ x
                      · exact .inr (.inl ⟨decide_eq_false e4, decide_eq_true e5, decide_eq_false (fun h => by omega)⟩)
                      · by_cases e6 : (N : Int) < t
                        · exact .inr (.inr (.inl ⟨decide_eq_false e4, decide_eq_false e5, decide_eq_true e6, decide_eq_false (fun h => by omega)⟩))
                        · exact .inr (.inr (.inr ⟨decide_eq_false e4, decide_eq_false e5, decide_eq_false e6, ⟨by omega, by omega, by omega⟩, decide_eq_decide.2 ⟨fun h => h.2.2.2.2, fun h => ⟨fun _ => e2, by omega, by omega, by omega, h⟩⟩⟩))
                    · exact .inl ⟨e1, by simp [e2], decide_eq_false (fun h => e2 (h.1 e0))⟩
                  · have e1 : ((i : Int) == 0) = false := by simp [e0]
                    refine .inr ⟨.inr e1, ?_⟩
                    by_cases e4 : x < 1
                    · exact .inl ⟨decide_eq_true e4, decide_eq_false (fun h => by omega)⟩
                    · by_cases e5 : t ≤ x
                      · exact .inr (.inl ⟨decide_eq_false e4, decide_eq_true e5, decide_eq_false (fun h => by omega)⟩)
                      · by_cases e6 : (N : Int) < t
                        · exact .inr (.inr (.inl ⟨decide_eq_false e4, decide_eq_false e5, decide_eq_true e6, decide_eq_false (fun h => by omega)⟩))
                        · exact .inr (.inr (.inr ⟨decide_eq_false e4, decide_eq_false e5, decide_eq_false e6, ⟨by omega, by omega, by omega⟩, decide_eq_decide.2 ⟨fun h => h.2.2.2.2, fun h => ⟨fun hh => absurd hh e0, by omega, by omega, by omega, h⟩⟩⟩))
                have HFI := hide hfin
                clear hHR hHOK hq hfin HOK HR HT
                rcases HFI.out with ⟨b0, b1, rr⟩ | ⟨⟨b0, b1⟩ | b0, ⟨b2, rr⟩ | ⟨b2, b3, rr⟩ | ⟨b2, b3, b4, rr⟩ | ⟨b2, b3, b4, ⟨g1, g2, g3⟩, rr⟩⟩
                · have RR := hide rr
                  clear rr HFI
                  go_wp2_with fail
                  go_meet
                  exact ⟨true, rfl, hide ⟨fun _ => RR.out, (fun h => by cases h)⟩, rfl⟩
                · have RR := hide rr
                  clear rr HFI
                  go_wp2_with fail
                  go_meet
                  exact ⟨true, rfl, hide ⟨fun _ => RR.out, (fun h => by cases h)⟩, rfl⟩
                · have RR := hide rr
                  clear rr HFI
                  go_wp2_with fail
                  go_meet
                  exact ⟨true, rfl, hide ⟨fun _ => RR.out, (fun h => by cases h)⟩, rfl⟩
                · have RR := hide rr
                  clear rr HFI
                  go_wp2_with fail
                  go_meet
                  exact ⟨true, rfl, hide ⟨fun _ => RR.out, (fun h => by cases h)⟩, rfl⟩
                · have RR := hide rr
                  have GG := hide (And.intro g1 (And.intro g2 g3))
                  clear rr HFI
                  go_wp2_with fail
                  go_meet
                  exact ⟨false, by first | rfl | (simp; omega), hide ⟨(fun h => by cases h), fun _ => ⟨GG.out, RR.out⟩⟩, rfl⟩
                · have RR := hide rr
                  clear rr HFI
                  go_wp2_with fail
                  go_meet
                  exact ⟨true, rfl, hide ⟨fun _ => RR.out, (fun h => by cases h)⟩, rfl⟩
                · have RR := hide rr
                  clear rr HFI
                  go_wp2_with fail
                  go_meet
                  exact ⟨true, rfl, hide ⟨fun _ => RR.out, (fun h => by cases h)⟩, rfl⟩
                · have RR := hide rr
                  clear rr HFI
                  go_wp2_with fail
                  go_meet
                  exact ⟨true, rfl, hide ⟨fun _ => RR.out, (fun h => by cases h)⟩, rfl⟩
                · have RR := hide rr
                  have GG := hide (And.intro g1 (And.intro g2 g3))
                  clear rr HFI
                  go_wp2_with fail
                  go_meet
                  exact ⟨false, by first | rfl | (simp; omega), hide ⟨(fun h => by cases h), fun _ => ⟨GG.out, RR.out⟩⟩, rfl⟩
              case rest =>
                obtain ⟨q, rfl, HQ, rfl⟩ := hcut
                cases q
                · obtain ⟨⟨g1, g2, g3⟩, rr⟩ := HQ.out.2 rfl
                  obtain ⟨j, rfl⟩ := Int.eq_ofNat_of_zero_le (show 0 ≤ x by omega)
                  obtain ⟨k, rfl⟩ := Int.eq_ofNat_of_zero_le (show 0 ≤ t by omega)
                  have hszc := hsz j k w4 hbw4 (by omega) (by omega)
                  have RR := hide rr
                  clear rr HQ
                  go_wp2_with fail
                  refine hszc.mono ?_
                  rintro e w9 ⟨rfl, rfl⟩
                  obtain ⟨S, HS⟩ : ∃ S, Hid (sizeW f j (k - j) = S) := ⟨_, hide rfl⟩
                  rw [HS.out]
                  have hrr : r = decide ((S : Int) ≤ W) := by have := RR.out; simpa [HS.out] using this
                  clear hszc
                  rcases Int.lt_or_le W S with hWS | hWS
                  · have d6 : decide (W < (S : Int)) = true := decide_eq_true hWS
                    have HANS : Hid (CK F L' = 19) := hide (by rw [HCH.out, if_pos ⟨HLE.out, HFM.out⟩, all_no hil (HR.out.trans (hrr.trans (decide_eq_false (by omega)))), if_neg (by decide)])
                    clear hrr
                    go_wp2_with fail
                    go_ret
                    exact ⟨by rw [HANS.out]; rfl, hbw4⟩
                  · have d6 : decide (W < (S : Int)) = false := decide_eq_false (by omega)
                    have HA2 := hide (all_next HA.out (HR.out.trans (hrr.trans (decide_eq_true (by omega)))))
                    clear hrr
                    go_wp2_with fail
                    go_roundg (F.length - (i + 1))
                    case measure => have := HG.out; omega
                    case rel => exact ⟨i + 1, by omega, rfl, by go_num, HA2, rfl⟩
                · have HANS : Hid (CK F L' = 19) := hide (by rw [HCH.out, if_pos ⟨HLE.out, HFM.out⟩, all_no hil (HR.out.trans (HQ.out.1 rfl)), if_neg (by decide)])
                  go_wp2_with fail
                  go_ret
                  exact ⟨by rw [HANS.out]; rfl, hbw4⟩
          · obtain rfl : F.length = i := by omega
            have HANS : Hid (CK F L' = 0) := hide (by rw [HCH.out, if_pos ⟨HLE.out, HFM.out⟩, if_pos HA.out])
            go_wp2_with fail
            go_ret
            exact ⟨by rw [HANS.out]; rfl, hbw4⟩
end Go.Proofs.Ytmjkhmebpciopaa
end

/- the text AppN -/
section
/- The law on 'append([]T{}, xs...)': what is handed back is the empty slice or lies in a new block. No program in sight. -/
set_option linter.unusedVariables false
set_option linter.unusedSimpArgs false
namespace Go.Dx
open Go.RowKit
section ops
variable {P : Program} {w : World} {ops : Array Oper} {rest : List Oper} {o : Oper} {act : Act} {Q : Exit → Act → World → Prop}
theorem run_append_empty (B : Nat) (t tx ty e : TypeId) (i : TypeInfo) (z : Value) (ht : P.underlying t = some (.slice e)) (hi : P.info? e = some i) (hz : i.zero = some z)
    (hzs : z.cells.size = i.size) (a : Option Addr) (hown : Own w B e i.size a 0 0 [])
    (x : Value) (m : Nat) (news : List Value) (hs : Src P i.size tx x m news w)
    (h63 : m ≤ maxLen) (hbytes : m * i.bytes ≤ 140737488355328) (hB : B ≤ w.heap.size) :
    ∃ a' c' w', (Builtin.append_ #[t, tx] ty #[.slice a 0 0, x]).run P w = .ok (.slice a' m c') w' ∧ Own w' B e i.size a' m c' news ∧ Below w.heap.size w w' ∧ (m = 0 ∧ c' = 0 ∨ m ≠ 0 ∧ ∀ p, a' = some p → w.heap.size ≤ p.block) := by
  have hsmall : m ≤ 9223372036854775807 := by simp only [maxLen] at h63; omega
  have hlen : news.length = m * i.size := hs.newsLen
  have hold : (Builtin.firstCells i.size 0 (.slice a 0 0)).run P w.drew = .ok ([] : List Value).toArray w.drew := by
    cases a with
    | none => exact run_firstCells_none w.drew i.size 0 0 0
    | some p => exact run_firstCells_some w.drew i.size 0 p 0 0 [] (by simp) (fun j u hj => by simp at hj)
  by_cases hm : m = 0
  · subst hm
    have hnews : news = [] := List.eq_nil_of_length_eq_zero (by simpa using hs.newsLen)
    subst hnews
    refine ⟨a, 0, w, ?_, hown, Below.refl _ _, .inl ⟨rfl, rfl⟩⟩
    cases a with
    | none =>
      rcases hs.kind with ⟨e', hk⟩ | hk <;> simp [Builtin.append_, run_underlying ht, run_underlying hk, sizeOf, typeInfo, hi, hs.len, hs.cells]
    | some p =>
      have hst : ∀ q : Addr, (storeCells q ([] : List Value)).run P w = .ok () w := by intro q; simp [storeCells]
      rcases hs.kind with ⟨e', hk⟩ | hk <;> simp [Builtin.append_, run_underlying ht, run_underlying hk, sizeOf, typeInfo, hi, hs.len, hs.cells, hst]
  · have hr := run_append_grow_src (P := P) w t tx ty e i z ht hi hz a 0 0 [] hold x m news hs (by omega) (by omega) (growslice_fits (by omega) (by rw [Nat.zero_add]; exact hbytes))
    have hge := grownCap_ge w (0 + m) 0 e
    have hcm : grownCap w (0 + m) 0 e ≤ maxLen := grownCap_le_maxLen w (0 + m) 0 e (by rw [Nat.zero_add]; exact h63)
    rw [Nat.zero_add] at hr hge hcm
    refine ⟨_, _, _, hr, ⟨hlen, .inr ⟨w.heap.size, _, _, rfl, hB, heap_alloc_new w.drew _, hge, hcm, ?_, ?_⟩⟩, undrew (Below.alloc (Below.refl w.heap.size w.drew) (Nat.le_refl w.heap.size) _), .inr ⟨hm, fun p hp => by cases hp; exact Nat.le_refl _⟩⟩
    · simp only [Array.size_append, List.size_toArray, size_zeroCells, hzs, List.nil_append, hlen, ← Nat.add_mul]
      congr 1
      omega
    · simp only [Array.toList_append, List.nil_append]
      rw [← hlen]
      exact List.take_left
/-- 'append([]T{}, xs...)' -/
theorem append_empty (hg : o.guard = none) (s x : Operand) (t : TypeId) (hop : o.op = Op.call { callee := Callee.builtin Builtin.append, args := #[s, x], argTypes := #[t, t] })
    (e : TypeId) (z : Value) (sz bytes : Nat) (ht : P.underlying t = some (.slice e)) (hi : (P.info? e).map (fun i => (i.zero, i.size, i.bytes)) = some (some z, sz, bytes)) (hz : z.cells.size = sz)
    (B : Nat) (a : Option Addr) (hs : act.eval s = .slice a 0 0) (hown : Own w B e sz a 0 0 [])
    (a2 : Option Addr) (m c2 : Nat) (ys : List Value) (hx : act.eval x = .slice a2 m c2) (hy : Sl w sz a2 m c2 ys) (h1 : ∀ u ∈ ys, u.oneCell' = true)
    (hn : m * bytes ≤ 140737488355328) (hn2 : m ≤ maxLen) (hB : B ≤ w.heap.size)
    (hK : ∀ a' c' w', Own w' B e sz a' m c' ys → Below w.heap.size w w' → (m = 0 ∧ c' = 0 ∨ m ≠ 0 ∧ ∀ p, a' = some p → w.heap.size ≤ p.block) → wpList P ops Q rest (act.put o.dst (.slice a' m c')) w') :
    wpList P ops Q (o :: rest) act w := by
  obtain ⟨i, hi0, hz0, hz1, hz2⟩ := info_parts hi
  subst hz1 hz2
  clear hi
  obtain ⟨a', c', w', hrun, ho, hgr, hfr⟩ := run_append_empty B t t o.type e i z ht hi0 hz0 hz a hown _ m ys (hy.src ht h1) hn2 hn hB
  refine wpList_plain hg fun K hK' => ?_
  unfold Oper.wp
  simp [execOp, hop, resolve, invoke, builtin, hs, hx, hrun, Result.andThen]
  exact hK' _ _ (hK a' c' w' ho hgr hfr)
/-- 'append(out, ys...)', out owned: either all that lay there stays, or there is room and the block of out grows in place. -/
theorem run_append_where (base : Nat) (t tx ty e : TypeId) (i : TypeInfo) (z : Value) (ht : P.underlying t = some (.slice e)) (hi : P.info? e = some i) (hz : i.zero = some z)
    (hzs : z.cells.size = i.size) (a : Option Addr) (n c : Nat) (xs : List Value) (hown : Own w base e i.size a n c xs)
    (x : Value) (m : Nat) (news : List Value) (hs : Src P i.size tx x m news w)
    (h63 : n + m ≤ maxLen) (hbytes : (n + m) * i.bytes ≤ 140737488355328) (hbase : base ≤ w.heap.size) :
    ∃ a' c' w', (Builtin.append_ #[t, tx] ty #[.slice a n c, x]).run P w = .ok (.slice a' (n + m) c') w' ∧ Own w' base e i.size a' (n + m) c' (xs ++ news) ∧ w.grownBy w' (a.map (·.block)) ∧ (n + m ≤ c ∨ Below w.heap.size w w') := by
  obtain ⟨a', c', w', h1, h2, h3, _⟩ := run_append_fresh base t tx ty e i z ht hi hz hzs a n c xs hown x m news hs h63 hbytes hbase
  by_cases hroom : n + m ≤ c
  · exact ⟨a', c', w', h1, h2, h3, .inl hroom⟩
  · have hsmall : n + m ≤ 9223372036854775807 := by simp only [maxLen] at h63; omega
    have hold : (Builtin.firstCells i.size n (.slice a n c)).run P w.drew = .ok xs.toArray w.drew := by
      have hsl := hown.sl
      cases a with
      | none =>
        have := hsl.nil rfl
        have := hsl.le
        obtain rfl : n = 0 := by omega
        have hnews : xs = [] := List.eq_nil_of_length_eq_zero (by simpa using hsl.len)
        subst hnews
        exact run_firstCells_none w.drew i.size 0 0 c
      | some p => exact run_firstCells_some w.drew i.size n p n c xs hsl.len (by simpa using hsl.cell p rfl)
    have hr := run_append_grow_src (P := P) w t tx ty e i z ht hi hz a n c xs hold x m news hs (by omega) (by omega) (growslice_fits (by omega) hbytes)
    rw [hr] at h1
    cases h1
    exact ⟨_, _, _, hr, h2, h3, .inr (undrew (Below.alloc (Below.refl w.heap.size w.drew) (Nat.le_refl w.heap.size) _))⟩
theorem append_where (hg : o.guard = none) (s x : Operand) (t : TypeId) (hop : o.op = Op.call { callee := Callee.builtin Builtin.append, args := #[s, x], argTypes := #[t, t] })
    (e : TypeId) (z : Value) (sz bytes : Nat) (ht : P.underlying t = some (.slice e)) (hi : (P.info? e).map (fun i => (i.zero, i.size, i.bytes)) = some (some z, sz, bytes)) (hz : z.cells.size = sz)
    (B : Nat) (a : Option Addr) (n c : Nat) (xs : List Value) (hs : act.eval s = .slice a n c) (hown : Own w B e sz a n c xs)
    (a2 : Option Addr) (m c2 : Nat) (ys : List Value) (hx : act.eval x = .slice a2 m c2) (hy : Sl w sz a2 m c2 ys) (h1 : ∀ u ∈ ys, u.oneCell' = true)
    (hn : (n + m) * bytes ≤ 140737488355328) (hn2 : n + m ≤ maxLen) (hB : B ≤ w.heap.size)
    (hK : ∀ a' c' w', Own w' B e sz a' (n + m) c' (xs ++ ys) → w.grownBy w' (a.map (·.block)) → (n + m ≤ c ∨ Below w.heap.size w w') → wpList P ops Q rest (act.put o.dst (.slice a' (n + m) c')) w') :
    wpList P ops Q (o :: rest) act w := by
  obtain ⟨i, hi0, hz0, hz1, hz2⟩ := info_parts hi
  subst hz1 hz2
  clear hi
  obtain ⟨a', c', w', hrun, ho, hgr, hfr⟩ := run_append_where B t t o.type e i z ht hi0 hz0 hz a n c xs hown _ m ys (hy.src ht h1) hn2 hn hB
  refine wpList_plain hg fun K hK' => ?_
  unfold Oper.wp
  simp [execOp, hop, resolve, invoke, builtin, hs, hx, hrun, Result.andThen]
  exact hK' _ _ (hK a' c' w' ho hgr hfr)
end ops
end Go.Dx
end

/- the text T44 -/
section
/- Chapter 15: a certificate with one thing changed (bent). -/
namespace Go.Proofs.Ytmjkhmebpciopaa
open Go.RowKit Go.Dx

/-- the slices lie apart, or the first one is empty -/
def Apart (a : Option Addr) (n c : Nat) (a0 : Option Addr) : Prop := (n = 0 ∧ c = 0) ∨ ∀ q q0, a = some q → a0 = some q0 → q.block ≠ q0.block
theorem own_lt {w : World} {B : Nat} {e : TypeId} {q : Addr} {n c sz : Nat} {xs : List Value} (h : Own w B e sz (some q) n c xs) : q.block < w.heap.size := by
  obtain ⟨C, z, h⟩ := own_kindW h
  exact (Array.getElem?_eq_some_iff.1 h).1

/-- what is known of the second copy, beside the first one -/
def F19 (z : Nat) (F L : List Int) (vs : List Value) (w : World) : Prop := ∃ a c a0 c0, vs = [.slice a L.length c, .slice a0 F.length c0] ∧ Own w (z + 2) 3 1 a L.length c (L.map I64) ∧ Apart a L.length c a0

theorem fin_own {w w8 : World} {z n c : Nat} {a : Option Addr} {xs : List Value} (h : Own w (z + 2) 3 1 a n c xs) (hg : w.grownBy w8 (some (z + 1))) : Sl w8 1 a n c xs := (h.kept hg (fun q hq e => by
    subst hq
    have h1 := h.base.1
    have h2 : q.block = z + 1 := by simpa using e
    omega)).sl
theorem sl_zero (w : World) (a : Option Addr) : Sl w 1 a 0 0 [] := ⟨by simp, Nat.le_refl _, by unfold maxLen; omega, fun _ => rfl, fun p _ j u hj => by simp at hj⟩
theorem slOr {w w8 : World} {z c : Nat} {a : Option Addr} {L : List Int} (h : Own w (z + 2) 3 1 a L.length c (L.map I64) ∨ L.length = 0 ∧ c = 0) (hg : w.grownBy w8 (some (z + 1))) : Sl w8 1 a L.length c (L.map I64) := by
  rcases h with h | ⟨h, rfl⟩
  · exact fin_own h hg
  · obtain rfl : L = [] := List.eq_nil_of_length_eq_zero h
    exact sl_zero w8 a
theorem sl_take {w : World} {a : Option Addr} {n c m : Nat} {L : List Int} (h : Sl w 1 a n c (L.map I64)) (hm : m ≤ n) : Sl w 1 a m c ((L.take m).map I64) := by
  have hkt := h.cut 0 m (Nat.zero_le _) hm
  have e1 : (if c = 0 then a else a.map (·.add (0 * 1))) = a := by
    split
    · rfl
    · cases a <;> simp [Addr.add]
  rw [e1] at hkt
  simpa [List.map_take] using hkt
theorem Apart.ne {a a0 : Option Addr} {n c : Nat} (h : Apart a n c a0) (hn : 1 ≤ n) : ∀ q q0, a = some q → a0 = some q0 → q.block ≠ q0.block := by
  rcases h with h | h
  · omega
  · exact h

set_option maxRecDepth 100000 in
set_option maxHeartbeats 2000000 in
theorem law15_bent (F L : List Int) (aF aL : Option Addr) (nF cF nL cL : Nat) (at_ how by_ : Int) (w0 : World) (hF : Sl w0 1 aF nF cF (F.map I64)) (hL : Sl w0 1 aL nL cL (L.map I64)) (hFl : F.length ≤ 1000) (hLl : L.length ≤ 1000)
    (hat : -9223372036854775808 ≤ at_ ∧ at_ ≤ 9223372036854775807) (hho : -9223372036854775808 ≤ how ∧ how ≤ 9223372036854775807) (hby : -9223372036854775808 ≤ by_ ∧ by_ ≤ 9223372036854775807) :
    Calls Try.prog 22 #[.agg #[.slice aF nF cF, .slice aL nL cL], .int .i64 at_, .int .i64 how, .int .i64 by_] w0 fun e w' => ∃ (F2 L2 : List Int) (a1 a2 : Option Addr) (c1 c2 : Nat), e = .returned (.agg #[.slice a1 F2.length c1, .slice a2 L2.length c2]) ∧ Sl w' 1 a1 F2.length c1 (F2.map I64) ∧ Sl w' 1 a2 L2.length c2 (L2.map I64) ∧ F2.length ≤ F.length + 1 ∧ L2.length ≤ L.length ∧ Below w0.heap.size w0 w' := by
  obtain rfl : nF = F.length := by simpa using hF.n_eq
  obtain rfl : nL = L.length := by simpa using hL.n_eq
  obtain ⟨s, Hs⟩ : ∃ k, Hid (aroundF how 4 = k) := ⟨_, hide rfl⟩
  have hs4 : s < 4 := by rw [← Hs.out]; exact aroundF_lt (by omega)
  have hA3 := fun (w : World) => Around_at (w := w) Hs.out (v := 4) rfl (by omega) (by omega) hho.1 hho.2
  obtain ⟨r5, Hr5⟩ : ∃ k, Hid (aroundF by_ 5 = k) := ⟨_, hide rfl⟩
  have hA5 := fun (w : World) => Around_at (w := w) Hr5.out (v := 5) rfl (by omega) (by omega) hby.1 hby.2
  obtain ⟨r8, Hr8⟩ : ∃ k, Hid (aroundF by_ 8 = k) := ⟨_, hide rfl⟩
  have hA8 := fun (w : World) => Around_at (w := w) Hr8.out (v := 8) rfl (by omega) (by omega) hby.1 hby.2
  go_enter Try.func22, Try.ntmps22
  go_upto_region 1 with fail
  have hb0 := blo w0 (.cells #[.slice aF F.length cF, .slice aL L.length cL] 35)
  have hx0 := Box.new w0 35 #[.slice aF F.length cF, .slice aL L.length cL]
  have hb1 := blo (w0.alloc (.cells #[.slice aF F.length cF, .slice aL L.length cL] 35)) (.cells #[.slice none 0 0, .slice none 0 0] 35)
  have hx1 := hx0.under hb1
  have hxr := Box.new (w0.alloc (.cells #[.slice aF F.length cF, .slice aL L.length cL] 35)) 35 #[.slice none 0 0, .slice none 0 0]
  have hbw := hb0.trans (hb1.mono hb0.size)
  have hF1 := hF.below hbw
  have hL1 := hL.below hbw
  have hz0 : (w0.alloc (.cells #[.slice aF F.length cF, .slice aL L.length cL] 35)).heap.size = w0.heap.size + 1 := by simp
  have hz1 : w0.heap.size + 2 ≤ ((w0.alloc (.cells #[.slice aF F.length cF, .slice aL L.length cL] 35)).alloc (.cells #[.slice none 0 0, .slice none 0 0] 35)).heap.size := by simp
  rw [hz0] at hxr
  clear hb0 hx0 hb1 hF hL hz0
  generalize ((w0.alloc (.cells #[.slice aF F.length cF, .slice aL L.length cL] 35)).alloc (.cells #[.slice none 0 0, .slice none 0 0] 35)) = w1 at *
  refine wp_region_free 10 [⟨0, 12, [12], fun vs w => ∃ b, vs = [.slice (some ⟨b, 0, none⟩) 0 0] ∧ Own w (w0.heap.size + 2) 3 1 (some ⟨b, 0, none⟩) 0 0 []⟩, ⟨1, 13, [13], fun vs _ => vs = [.pointer (some ⟨w0.heap.size, 0, none⟩)]⟩, ⟨2, 14, [14], fun vs _ => vs = [.slice aF F.length cF]⟩, ⟨3, 15, [15], fun vs w => ∃ a c, vs = [.slice a F.length c] ∧ Own w (w0.heap.size + 2) 3 1 a F.length c (F.map I64)⟩, ⟨4, 16, [16], fun vs w => ∃ b, vs = [.slice (some ⟨b, 0, none⟩) 0 0] ∧ Own w (w0.heap.size + 2) 3 1 (some ⟨b, 0, none⟩) 0 0 []⟩, ⟨5, 17, [17], fun vs _ => vs = [.pointer (some ⟨w0.heap.size, 1, none⟩)]⟩, ⟨6, 18, [18], fun vs _ => vs = [.slice aL L.length cL]⟩, ⟨7, 19, [19, 15], fun vs w => F19 w0.heap.size F L vs w⟩, ⟨8, 20, [20], fun vs w => ∃ a c a0 c0, vs = [.agg #[.slice a0 F.length c0, .slice a L.length c]] ∧ Own w (w0.heap.size + 2) 3 1 a0 F.length c0 (F.map I64) ∧ Own w (w0.heap.size + 2) 3 1 a L.length c (L.map I64) ∧ Apart a L.length c a0⟩, ⟨9, 9, [9], fun vs w => ∃ b, vs = [.pointer (some ⟨b, 0, none⟩)] ∧ w0.heap.size + 2 ≤ b ∧ Box w b 35 [.slice none 0 0, .slice none 0 0]⟩] (by kernel_rfl) (by kernel_rfl) ?_ ?_ ?_
  · simp only [All]
    refine ⟨?_, fun _ _ _ _ h => h, fun _ _ _ _ h => h, ?_, ?_, fun _ _ _ _ h => h, fun _ _ _ _ h => h, ?_, ?_, ?_, trivial⟩
    · rintro vs w w' hb ⟨b, h1, h2⟩
      exact ⟨b, h1, h2.below hb⟩
    · rintro vs w w' hb ⟨a, c, h1, h2⟩
      exact ⟨a, c, h1, h2.below hb⟩
    · rintro vs w w' hb ⟨b, h1, h2⟩
      exact ⟨b, h1, h2.below hb⟩
    · rintro vs w w' hb ⟨a, c, a0, c0, h1, h2, h3⟩
      exact ⟨a, c, a0, c0, h1, h2.below hb, h3⟩
    · rintro vs w w' hb ⟨a, c, a0, c0, h1, h2, h3, h4⟩
      exact ⟨a, c, a0, c0, h1, h2.below hb, h3.below hb, h4⟩
    · rintro vs w w' hb ⟨b, h1, h2, h3⟩
      exact ⟨b, h1, h2, h3.under hb⟩
  · simp only [All]
    refine ⟨?_, ?_, ?_, ?_, ?_, ?_, ?_, ?_, ?_, ?_, trivial⟩
    · intro o ho a' w' hb hfr hdep
      obtain rfl := Option.some.inj ho
      clear ho hfr hdep
      have hB := Nat.le_trans hz1 hb.size
      have hbl := (Below.refl w'.heap.size w').alloc (Nat.le_refl _) (.cells #[] 3)
      go_wp2_with fail
      exact ⟨rfl, _, rfl, hbl, w'.heap.size, rfl, Own.built w' (w0.heap.size + 2) 3 1 0 #[] hB rfl (by decide)⟩
    · intro o ho a' w' hb hfr hdep
      obtain rfl := Option.some.inj ho
      have g4 : a'.tmps[4]?.getD undef = .pointer (some ⟨w0.heap.size, 0, none⟩) := by have h := hfr 4 (by kernel_rfl); simpa using h
      clear ho hfr hdep
      go_wp2_with fail
      exact ⟨rfl, _, rfl, Below.refl _ _, rfl⟩
    · intro o ho a' w' hb hfr hdep
      obtain rfl := Option.some.inj ho
      have g13 : a'.tmps[13]?.getD undef = .pointer (some ⟨w0.heap.size, 0, none⟩) := by have h := hdep 1 _ rfl (by kernel_rfl); simpa using h
      clear ho hfr hdep
      have hcl := (hx1.under hb).at_ (j := 0) rfl
      go_wp2_with fail
      exact ⟨rfl, _, rfl, Below.refl _ _, rfl⟩
    · intro o ho a' w' hb hfr hdep
      obtain rfl := Option.some.inj ho
      obtain ⟨b1, g12, ho1⟩ := hdep 0 _ rfl (by kernel_rfl)
      replace g12 : a'.tmps[12]?.getD undef = .slice (some ⟨b1, 0, none⟩) 0 0 := by simpa using g12
      have g14 : a'.tmps[14]?.getD undef = .slice aF F.length cF := by have h := hdep 2 _ rfl (by kernel_rfl); simpa using h
      clear ho hfr hdep
      refine append_empty rfl _ _ 22 rfl 3 (.int .i64 0) 1 8 Try.underlying22 info_int rfl (w0.heap.size + 2) _ (by show a'.tmps.getD 12 undef = _; simpa using g12) ho1 aF F.length cF (F.map I64) (by show a'.tmps.getD 14 undef = _; simpa using g14) (hF1.below hb) (one_map _ (fun _ => rfl) _) (by omega) (by unfold maxLen; omega) (Nat.le_trans hz1 hb.size) ?_
      intro a3 c3 w3 ho3 hb3 hf3
      go_wp2
      exact ⟨rfl, _, rfl, hb3, a3, c3, rfl, ho3⟩
    · intro o ho a' w' hb hfr hdep
      obtain rfl := Option.some.inj ho
      clear ho hfr hdep
      have hB := Nat.le_trans hz1 hb.size
      have hbl := (Below.refl w'.heap.size w').alloc (Nat.le_refl _) (.cells #[] 3)
      go_wp2_with fail
      exact ⟨rfl, _, rfl, hbl, w'.heap.size, rfl, Own.built w' (w0.heap.size + 2) 3 1 0 #[] hB rfl (by decide)⟩
    · intro o ho a' w' hb hfr hdep
      obtain rfl := Option.some.inj ho
      have g4 : a'.tmps[4]?.getD undef = .pointer (some ⟨w0.heap.size, 0, none⟩) := by have h := hfr 4 (by kernel_rfl); simpa using h
      clear ho hfr hdep
      go_wp2_with fail
      exact ⟨rfl, _, rfl, Below.refl _ _, rfl⟩
    · intro o ho a' w' hb hfr hdep
      obtain rfl := Option.some.inj ho
      have g17 : a'.tmps[17]?.getD undef = .pointer (some ⟨w0.heap.size, 1, none⟩) := by have h := hdep 5 _ rfl (by kernel_rfl); simpa using h
      clear ho hfr hdep
      have hcl := (hx1.under hb).at_ (j := 1) rfl
      go_wp2_with fail
      exact ⟨rfl, _, rfl, Below.refl _ _, rfl⟩
    · intro o ho a' w' hb hfr hdep
      obtain rfl := Option.some.inj ho
      obtain ⟨a4, c4, g15, ho4⟩ := hdep 3 _ rfl (by kernel_rfl)
      replace g15 : a'.tmps[15]?.getD undef = .slice a4 F.length c4 := by simpa using g15
      obtain ⟨b2, g16, ho2⟩ := hdep 4 _ rfl (by kernel_rfl)
      replace g16 : a'.tmps[16]?.getD undef = .slice (some ⟨b2, 0, none⟩) 0 0 := by simpa using g16
      have g18 : a'.tmps[18]?.getD undef = .slice aL L.length cL := by have h := hdep 6 _ rfl (by kernel_rfl); simpa using h
      clear ho hfr hdep
      have G15 := hide g15
      refine append_empty rfl _ _ 22 rfl 3 (.int .i64 0) 1 8 Try.underlying22 info_int rfl (w0.heap.size + 2) _ (by show a'.tmps.getD 16 undef = _; simpa using g16) ho2 aL L.length cL (L.map I64) (by show a'.tmps.getD 18 undef = _; simpa using g18) (hL1.below hb) (one_map _ (fun _ => rfl) _) (by omega) (by unfold maxLen; omega) (Nat.le_trans hz1 hb.size) ?_
      intro a3 c3 w3 ho3 hb3 hf3
      go_wp2
      exact ⟨rfl, _, rfl, hb3, a3, c3, a4, c4, by simp [G15.out], ho3, hf3.imp id fun h q q0 hq hq0 => by have h1 := h.2 q hq; rw [hq0] at ho4; have h2 := own_lt ho4; omega⟩
    · intro o ho a' w' hb hfr hdep
      obtain rfl := Option.some.inj ho
      obtain ⟨a4, c4, g15, ho4⟩ := hdep 3 _ rfl (by kernel_rfl)
      replace g15 : a'.tmps[15]?.getD undef = .slice a4 F.length c4 := by simpa using g15
      obtain ⟨a5, c5, a6, c6, g19, ho5, hap⟩ : F19 _ _ _ _ _ := hdep 7 _ rfl (by kernel_rfl)
      obtain ⟨g19, h15⟩ : a'.tmps[19]?.getD undef = .slice a5 L.length c5 ∧ a'.tmps[15]?.getD undef = .slice a6 F.length c6 := by simpa using g19
      rw [g15] at h15
      cases h15
      clear ho hfr hdep
      go_wp2_with fail
      exact ⟨rfl, _, rfl, Below.refl _ _, a5, c5, a4, c4, rfl, ho4, ho5, hap⟩
    · intro o ho a' w' hb hfr hdep
      obtain rfl := Option.some.inj ho
      clear ho hfr hdep
      have hB := Nat.le_trans hz1 hb.size
      go_wp2_with fail
      exact ⟨rfl, _, rfl, (Below.refl _ _).alloc (Nat.le_refl _) _, w'.heap.size, rfl, hB, Box.new _ _ _⟩
  · intro g w2 hb2 hp2
    obtain ⟨a5, c5, a4, c4, g20, ho4, ho5, hap⟩ := hp2 8 _ rfl
    obtain ⟨b9, g9, hb9, hx9⟩ := hp2 9 _ rfl
    replace g20 : g 20 = .agg #[.slice a4 F.length c4, .slice a5 L.length c5] := by simpa using g20
    replace g9 : g 9 = .pointer (some ⟨b9, 0, none⟩) := by simpa using g9
    clear hp2
    simp only [List.drop_succ_cons, List.drop_zero, List.map_cons, List.map_nil, putAll, Act.put, List.setIfInBounds_toArray, List.set_cons_succ, List.set_cons_zero, g20, g9]
    clear g20 g9
    have hbw2 := hbw.trans (hb2.mono hbw.size)
    have hxr2 := hxr.under hb2
    have hlt9 := hx9.lt
    clear hb2 hx1 hbw hF1 hL1 hxr
    refine store_all 35 _ _ 35 b9 _ [.slice a4 F.length c4, .slice a5 L.length c5] _ (size_rcert _ _) hx9 rfl rfl rfl (Eq.refl 2) (by simp [Value.oneCell']) ?_
    intro w3 hx3 hg3 hs3
    replace ho4 := ho4.kept hg3 ((KindOf.own ho4).ne hx9 (by decide))
    replace ho5 := ho5.kept hg3 ((KindOf.own ho5).ne hx9 (by decide))
    have hxr3 := hxr2.grown hg3 (fun e => by have : w0.heap.size + 1 = b9 := by simpa using e
                                             omega)
    have hbw3 := hbw2.grown hg3 hbw2.size (fun k hk => by cases hk; omega)
    clear hbw2 hxr2 hg3 hs3 hx9 hlt9
    go_wp2_with fail
    refine (hA3 _).mono ?_
    rintro e w4 ⟨rfl, rfl⟩
    clear hA3
    have f1 := hx3.at_ (j := 1) rfl
    have f0 := hx3.at_ (j := 0) rfl
    have h4 : s = 0 ∨ s = 1 ∨ s = 2 ∨ s = 3 := by omega
    rcases h4 with rfl | rfl | rfl | rfl
    · by_cases hl : L.length = 0
      · have d1 : decide (0 < (L.length : Int)) = false := decide_eq_false (by omega)
        have d1' : decide (0 < L.length) = false := decide_eq_false (by omega)
        clear hl
        go_upto_region 14 with fail
        have hxz := hx3
        have hxrz := hxr3
        have hbz := hbw3
        clear f0 f1
        go_wp2_with (first
          | (with_reducible refine load_box 88 35 _ 35 b9 0 _ [.slice a4 F.length c4, .slice a5 L.length c5] isAgg_rcert (size_rcert _ _) hxz rfl (fun j u hj => by rw [Nat.zero_add]; exact hj) ?_)
          | (with_reducible refine store_all 35 _ _ 35 (w0.heap.size + 1) _ [.slice a4 F.length c4, .slice a5 L.length c5] _ (size_rcert _ _) hxrz rfl rfl rfl (Eq.refl 2) (by simp [Value.oneCell']) ?_; intro w8 hx8 hg8 hs8))
        have hbz8 := hbz.grown hg8 hbz.size (fun k hk => by cases hk; omega)
        refine bodyPost_ret (run_results_cell rfl rfl isAgg_rcert (size_rcert _ _) hx8) rfl ⟨F, L, a4, a5, c4, c5, rfl, fin_own ho4 hg8, fin_own ho5 hg8, by omega, Nat.le_refl _, hbz8⟩
      · have d1 : decide (0 < (L.length : Int)) = true := decide_eq_true (by omega)
        have d1' : decide (0 < L.length) = true := decide_eq_true (by omega)
        obtain ⟨k, Hk⟩ : ∃ k, Hid (aroundF at_ L.length = k) := ⟨_, hide rfl⟩
        have hkl : k < L.length := by rw [← Hk.out]; exact aroundF_lt (by omega)
        have hA1 := fun (w : World) => Around_at (w := w) Hk.out (v := (L.length : Int)) rfl (by omega) (by omega) hat.1 hat.2
        obtain ⟨lq, rfl⟩ : ∃ q, a5 = some q := by
          cases a5 with
          | some q => exact ⟨q, rfl⟩
          | none => have := ho5.sl.nil rfl; have := ho5.sl.le; omega
        obtain ⟨lb, rfl⟩ : ∃ b, lq = ⟨b, 0, none⟩ := ⟨_, ho5.zero⟩
        obtain ⟨xk, hxk⟩ : ∃ x, (L.map I64)[k]? = some (.int .i64 x) := ⟨L[k], by rw [List.getElem?_map]; simp [hkl]⟩
        have HXK := hide hxk
        clear hl hxk
        go_wp2_with fail
        refine (hA1 _).mono ?_
        rintro e w4 ⟨rfl, rfl⟩
        go_upto_region 7 with fail
        clear f0 f1
        refine wp_region_free 12 [⟨0, 42, [42], fun vs _ => vs = [.pointer (some ⟨b9, 1, none⟩)]⟩, ⟨1, 43, [43], fun vs _ => vs = [.slice (some ⟨lb, 0, none⟩) L.length c5]⟩, ⟨2, 44, [44], fun vs _ => vs = [.int .i64 (k : Int)]⟩, ⟨3, 45, [45], fun vs _ => vs = [.pointer (some ⟨b9, 1, none⟩)]⟩, ⟨4, 46, [46], fun vs _ => vs = [.slice (some ⟨lb, 0, none⟩) L.length c5]⟩, ⟨5, 47, [47], fun vs _ => vs = [.int .i64 (k : Int)]⟩, ⟨6, 48, [48], fun vs _ => vs = [.pointer (some ⟨lb, k, none⟩)]⟩, ⟨7, 49, [49], fun vs _ => vs = [.int .i64 xk]⟩, ⟨8, 50, [50], fun vs _ => vs = [.int .i64 by_]⟩, ⟨9, 51, [51], fun vs _ => vs = [.int .i64 (r5 : Int)]⟩, ⟨10, 52, [52], fun vs _ => ∃ z, vs = [.int .i64 z]⟩, ⟨11, 53, [53], fun vs _ => ∃ z, vs = [.int .i64 z]⟩] (by kernel_rfl) (by kernel_rfl) ?_ ?_ ?_
        · simp only [All]
          refine ⟨fun _ _ _ _ h => h, fun _ _ _ _ h => h, fun _ _ _ _ h => h, fun _ _ _ _ h => h, fun _ _ _ _ h => h, fun _ _ _ _ h => h, fun _ _ _ _ h => h, fun _ _ _ _ h => h, fun _ _ _ _ h => h, fun _ _ _ _ h => h, fun _ _ _ _ h => h, fun _ _ _ _ h => h, trivial⟩
        · simp only [All]
          refine ⟨?_, ?_, ?_, ?_, ?_, ?_, ?_, ?_, ?_, ?_, ?_, ?_, trivial⟩
          · intro o ho a' w' hb hfr hdep
            obtain rfl := Option.some.inj ho
            have g9 : a'.tmps[9]?.getD undef = .pointer (some ⟨b9, 0, none⟩) := by have h := hfr 9 (by kernel_rfl); simpa using h
            clear ho hfr hdep
            go_wp2_with fail
            exact ⟨rfl, _, rfl, Below.refl _ _, rfl⟩
          · intro o ho a' w' hb hfr hdep
            obtain rfl := Option.some.inj ho
            have g42 : a'.tmps[42]?.getD undef = .pointer (some ⟨b9, 1, none⟩) := by have h := hdep 0 _ rfl (by kernel_rfl); simpa using h
            clear ho hfr hdep
            have hcl := (hx3.under hb).at_ (j := 1) rfl
            go_wp2_with fail
            exact ⟨rfl, _, rfl, Below.refl _ _, rfl⟩
          · intro o ho a' w' hb hfr hdep
            obtain rfl := Option.some.inj ho
            have g10 : a'.tmps[10]?.getD undef = .int .i64 (k : Int) := by have h := hfr 10 (by kernel_rfl); simpa using h
            clear ho hfr hdep
            go_wp2_with fail
            exact ⟨rfl, _, rfl, Below.refl _ _, rfl⟩
          · intro o ho a' w' hb hfr hdep
            obtain rfl := Option.some.inj ho
            have g9 : a'.tmps[9]?.getD undef = .pointer (some ⟨b9, 0, none⟩) := by have h := hfr 9 (by kernel_rfl); simpa using h
            clear ho hfr hdep
            go_wp2_with fail
            exact ⟨rfl, _, rfl, Below.refl _ _, rfl⟩
          · intro o ho a' w' hb hfr hdep
            obtain rfl := Option.some.inj ho
            have g45 : a'.tmps[45]?.getD undef = .pointer (some ⟨b9, 1, none⟩) := by have h := hdep 3 _ rfl (by kernel_rfl); simpa using h
            clear ho hfr hdep
            have hcl := (hx3.under hb).at_ (j := 1) rfl
            go_wp2_with fail
            exact ⟨rfl, _, rfl, Below.refl _ _, rfl⟩
          · intro o ho a' w' hb hfr hdep
            obtain rfl := Option.some.inj ho
            have g10 : a'.tmps[10]?.getD undef = .int .i64 (k : Int) := by have h := hfr 10 (by kernel_rfl); simpa using h
            clear ho hfr hdep
            go_wp2_with fail
            exact ⟨rfl, _, rfl, Below.refl _ _, rfl⟩
          · intro o ho a' w' hb hfr hdep
            obtain rfl := Option.some.inj ho
            have g46 : a'.tmps[46]?.getD undef = .slice (some ⟨lb, 0, none⟩) L.length c5 := by have h := hdep 4 _ rfl (by kernel_rfl); simpa using h
            have g47 : a'.tmps[47]?.getD undef = .int .i64 (k : Int) := by have h := hdep 5 _ rfl (by kernel_rfl); simpa using h
            clear ho hfr hdep
            go_wp2_with fail
            exact ⟨rfl, _, rfl, Below.refl _ _, rfl⟩
          · intro o ho a' w' hb hfr hdep
            obtain rfl := Option.some.inj ho
            have g48 : a'.tmps[48]?.getD undef = .pointer (some ⟨lb, k, none⟩) := by have h := hdep 6 _ rfl (by kernel_rfl); simpa using h
            clear ho hfr hdep
            have hcl := (ho5.below hb).at_ HXK.out
            go_wp2_with fail
            exact ⟨rfl, _, rfl, Below.refl _ _, rfl⟩
          · intro o ho a' w' hb hfr hdep
            obtain rfl := Option.some.inj ho
            have g3 : a'.tmps[3]?.getD undef = .int .i64 by_ := by have h := hfr 3 (by kernel_rfl); simpa using h
            clear ho hfr hdep
            go_wp2_with fail
            exact ⟨rfl, _, rfl, Below.refl _ _, rfl⟩
          · intro o ho a' w' hb hfr hdep
            obtain rfl := Option.some.inj ho
            have g50 : a'.tmps[50]?.getD undef = .int .i64 by_ := by have h := hdep 8 _ rfl (by kernel_rfl); simpa using h
            clear ho hfr hdep
            go_wp2_with fail
            refine (hA5 _).mono ?_
            rintro e w3 ⟨rfl, rfl⟩
            go_wp2_with fail
            exact ⟨rfl, _, rfl, Below.refl _ _, rfl⟩
          · intro o ho a' w' hb hfr hdep
            obtain rfl := Option.some.inj ho
            have g49 : a'.tmps[49]?.getD undef = .int .i64 xk := by have h := hdep 7 _ rfl (by kernel_rfl); simpa using h
            have g51 : a'.tmps[51]?.getD undef = .int .i64 (r5 : Int) := by have h := hdep 9 _ rfl (by kernel_rfl); simpa using h
            clear ho hfr hdep
            go_wp2_with fail
            exact ⟨rfl, _, rfl, Below.refl _ _, _, rfl⟩
          · intro o ho a' w' hb hfr hdep
            obtain rfl := Option.some.inj ho
            obtain ⟨z, g52⟩ := hdep 10 _ rfl (by kernel_rfl)
            replace g52 : a'.tmps[52]?.getD undef = .int .i64 z := by simpa using g52
            clear ho hfr hdep
            go_wp2_with fail
            exact ⟨rfl, _, rfl, Below.refl _ _, _, rfl⟩
        · intro g w4 hb4 hp4
          have p43 := hp4 1 _ rfl
          have p44 := hp4 2 _ rfl
          obtain ⟨z, p53⟩ := hp4 11 _ rfl
          clear hp4
          simp at p43 p44 p53
          simp only [List.drop_succ_cons, List.drop_zero, List.map_cons, List.map_nil, putAll, Act.put, List.setIfInBounds_toArray, List.set_cons_succ, List.set_cons_zero, p43, p44, p53]
          clear p43 p44 p53
          have ho7 := ho5.below hb4
          have hcl := ho7.at_ HXK.out
          have hfr := ho7.free k
          refine index_known 54 22 _ _ 3 Try.underlying22 size_int lb L.length c5 rfl _ _ k rfl rfl hkl ?_
          go_upto_region 14 with fail
          have hne9 : b9 ≠ lb := fun e => (KindOf.own ho5).ne hx3 (by decide) _ rfl (by rw [e])
          have hlb := ho5.base.1
          have hoL := ho7.put (i := k) (.int .i64 z)
          rw [show (.int .i64 z : Value) = I64 z from rfl, ← List.map_set] at hoL
          have hoF := (ho4.below hb4).set_other (p := ⟨lb, k, none⟩) (fun q hq => fun e => hap.ne (by omega) _ q rfl hq e.symm) (I64 z)
          have hxz := (hx3.under hb4).far (p := ⟨lb, k, none⟩) hne9 (I64 z)
          have hxrz := (hxr3.under hb4).far (p := ⟨lb, k, none⟩) (by show _ ≠ lb; simp at hlb; omega) (I64 z)
          have hbz := (hbw3.trans (hb4.mono hbw3.size)).setCell (p := ⟨lb, k, none⟩) (by show _ ≤ lb; simp at hlb; omega) (I64 z)
          clear hcl hfr
          go_wp2_with (first
            | (with_reducible refine load_box 88 35 _ 35 b9 0 _ [.slice a4 F.length c4, .slice (some ⟨lb, 0, none⟩) L.length c5] isAgg_rcert (size_rcert _ _) hxz rfl (fun j u hj => by rw [Nat.zero_add]; exact hj) ?_)
            | (with_reducible refine store_all 35 _ _ 35 (w0.heap.size + 1) _ [.slice a4 F.length c4, .slice (some ⟨lb, 0, none⟩) L.length c5] _ (size_rcert _ _) hxrz rfl rfl rfl (Eq.refl 2) (by simp [Value.oneCell']) ?_; intro w8 hx8 hg8 hs8))
          have hbz8 := hbz.grown hg8 hbz.size (fun k hk => by cases hk; omega)
          refine bodyPost_ret (run_results_cell rfl rfl isAgg_rcert (size_rcert _ _) hx8) rfl ⟨F, L.set k z, a4, some ⟨lb, 0, none⟩, c4, c5, by rw [List.length_set], fin_own hoF hg8, by rw [List.length_set]; exact fin_own hoL hg8, by omega, by rw [List.length_set]; exact Nat.le_refl _, hbz8⟩
    · by_cases hl : F.length = 0
      · have d1 : decide (0 < (F.length : Int)) = false := decide_eq_false (by omega)
        have d1' : decide (0 < F.length) = false := decide_eq_false (by omega)
        clear hl
        go_upto_region 14 with fail
        have hxz := hx3
        have hxrz := hxr3
        have hbz := hbw3
        clear f0 f1
        go_wp2_with (first
          | (with_reducible refine load_box 88 35 _ 35 b9 0 _ [.slice a4 F.length c4, .slice a5 L.length c5] isAgg_rcert (size_rcert _ _) hxz rfl (fun j u hj => by rw [Nat.zero_add]; exact hj) ?_)
          | (with_reducible refine store_all 35 _ _ 35 (w0.heap.size + 1) _ [.slice a4 F.length c4, .slice a5 L.length c5] _ (size_rcert _ _) hxrz rfl rfl rfl (Eq.refl 2) (by simp [Value.oneCell']) ?_; intro w8 hx8 hg8 hs8))
        have hbz8 := hbz.grown hg8 hbz.size (fun k hk => by cases hk; omega)
        refine bodyPost_ret (run_results_cell rfl rfl isAgg_rcert (size_rcert _ _) hx8) rfl ⟨F, L, a4, a5, c4, c5, rfl, fin_own ho4 hg8, fin_own ho5 hg8, by omega, Nat.le_refl _, hbz8⟩
      · have d1 : decide (0 < (F.length : Int)) = true := decide_eq_true (by omega)
        have d1' : decide (0 < F.length) = true := decide_eq_true (by omega)
        obtain ⟨k, Hk⟩ : ∃ k, Hid (aroundF at_ F.length = k) := ⟨_, hide rfl⟩
        have hkl : k < F.length := by rw [← Hk.out]; exact aroundF_lt (by omega)
        have hA1 := fun (w : World) => Around_at (w := w) Hk.out (v := (F.length : Int)) rfl (by omega) (by omega) hat.1 hat.2
        obtain ⟨lq, rfl⟩ : ∃ q, a4 = some q := by
          cases a4 with
          | some q => exact ⟨q, rfl⟩
          | none => have := ho4.sl.nil rfl; have := ho4.sl.le; omega
        obtain ⟨lb, rfl⟩ : ∃ b, lq = ⟨b, 0, none⟩ := ⟨_, ho4.zero⟩
        obtain ⟨xk, hxk⟩ : ∃ x, (F.map I64)[k]? = some (.int .i64 x) := ⟨F[k], by rw [List.getElem?_map]; simp [hkl]⟩
        have HXK := hide hxk
        clear hl hxk
        go_wp2_with fail
        refine (hA1 _).mono ?_
        rintro e w4 ⟨rfl, rfl⟩
        go_upto_region 11 with fail
        clear f0 f1
        refine wp_region_free 12 [⟨0, 66, [66], fun vs _ => vs = [.pointer (some ⟨b9, 0, none⟩)]⟩, ⟨1, 67, [67], fun vs _ => vs = [.slice (some ⟨lb, 0, none⟩) F.length c4]⟩, ⟨2, 68, [68], fun vs _ => vs = [.int .i64 (k : Int)]⟩, ⟨3, 69, [69], fun vs _ => vs = [.pointer (some ⟨b9, 0, none⟩)]⟩, ⟨4, 70, [70], fun vs _ => vs = [.slice (some ⟨lb, 0, none⟩) F.length c4]⟩, ⟨5, 71, [71], fun vs _ => vs = [.int .i64 (k : Int)]⟩, ⟨6, 72, [72], fun vs _ => vs = [.pointer (some ⟨lb, k, none⟩)]⟩, ⟨7, 73, [73], fun vs _ => vs = [.int .i64 xk]⟩, ⟨8, 74, [74], fun vs _ => vs = [.int .i64 by_]⟩, ⟨9, 75, [75], fun vs _ => vs = [.int .i64 (r5 : Int)]⟩, ⟨10, 76, [76], fun vs _ => ∃ z, vs = [.int .i64 z]⟩, ⟨11, 77, [77], fun vs _ => ∃ z, vs = [.int .i64 z]⟩] (by kernel_rfl) (by kernel_rfl) ?_ ?_ ?_
        · simp only [All]
          refine ⟨fun _ _ _ _ h => h, fun _ _ _ _ h => h, fun _ _ _ _ h => h, fun _ _ _ _ h => h, fun _ _ _ _ h => h, fun _ _ _ _ h => h, fun _ _ _ _ h => h, fun _ _ _ _ h => h, fun _ _ _ _ h => h, fun _ _ _ _ h => h, fun _ _ _ _ h => h, fun _ _ _ _ h => h, trivial⟩
        · simp only [All]
          refine ⟨?_, ?_, ?_, ?_, ?_, ?_, ?_, ?_, ?_, ?_, ?_, ?_, trivial⟩
          · intro o ho a' w' hb hfr hdep
            obtain rfl := Option.some.inj ho
            have g9 : a'.tmps[9]?.getD undef = .pointer (some ⟨b9, 0, none⟩) := by have h := hfr 9 (by kernel_rfl); simpa using h
            clear ho hfr hdep
            go_wp2_with fail
            exact ⟨rfl, _, rfl, Below.refl _ _, rfl⟩
          · intro o ho a' w' hb hfr hdep
            obtain rfl := Option.some.inj ho
            have g66 : a'.tmps[66]?.getD undef = .pointer (some ⟨b9, 0, none⟩) := by have h := hdep 0 _ rfl (by kernel_rfl); simpa using h
            clear ho hfr hdep
            have hcl := (hx3.under hb).at_ (j := 0) rfl
            go_wp2_with fail
            exact ⟨rfl, _, rfl, Below.refl _ _, rfl⟩
          · intro o ho a' w' hb hfr hdep
            obtain rfl := Option.some.inj ho
            have g11 : a'.tmps[11]?.getD undef = .int .i64 (k : Int) := by have h := hfr 11 (by kernel_rfl); simpa using h
            clear ho hfr hdep
            go_wp2_with fail
            exact ⟨rfl, _, rfl, Below.refl _ _, rfl⟩
          · intro o ho a' w' hb hfr hdep
            obtain rfl := Option.some.inj ho
            have g9 : a'.tmps[9]?.getD undef = .pointer (some ⟨b9, 0, none⟩) := by have h := hfr 9 (by kernel_rfl); simpa using h
            clear ho hfr hdep
            go_wp2_with fail
            exact ⟨rfl, _, rfl, Below.refl _ _, rfl⟩
          · intro o ho a' w' hb hfr hdep
            obtain rfl := Option.some.inj ho
            have g69 : a'.tmps[69]?.getD undef = .pointer (some ⟨b9, 0, none⟩) := by have h := hdep 3 _ rfl (by kernel_rfl); simpa using h
            clear ho hfr hdep
            have hcl := (hx3.under hb).at_ (j := 0) rfl
            go_wp2_with fail
            exact ⟨rfl, _, rfl, Below.refl _ _, rfl⟩
          · intro o ho a' w' hb hfr hdep
            obtain rfl := Option.some.inj ho
            have g11 : a'.tmps[11]?.getD undef = .int .i64 (k : Int) := by have h := hfr 11 (by kernel_rfl); simpa using h
            clear ho hfr hdep
            go_wp2_with fail
            exact ⟨rfl, _, rfl, Below.refl _ _, rfl⟩
          · intro o ho a' w' hb hfr hdep
            obtain rfl := Option.some.inj ho
            have g70 : a'.tmps[70]?.getD undef = .slice (some ⟨lb, 0, none⟩) F.length c4 := by have h := hdep 4 _ rfl (by kernel_rfl); simpa using h
            have g71 : a'.tmps[71]?.getD undef = .int .i64 (k : Int) := by have h := hdep 5 _ rfl (by kernel_rfl); simpa using h
            clear ho hfr hdep
            go_wp2_with fail
            exact ⟨rfl, _, rfl, Below.refl _ _, rfl⟩
          · intro o ho a' w' hb hfr hdep
            obtain rfl := Option.some.inj ho
            have g72 : a'.tmps[72]?.getD undef = .pointer (some ⟨lb, k, none⟩) := by have h := hdep 6 _ rfl (by kernel_rfl); simpa using h
            clear ho hfr hdep
            have hcl := (ho4.below hb).at_ HXK.out
            go_wp2_with fail
            exact ⟨rfl, _, rfl, Below.refl _ _, rfl⟩
          · intro o ho a' w' hb hfr hdep
            obtain rfl := Option.some.inj ho
            have g3 : a'.tmps[3]?.getD undef = .int .i64 by_ := by have h := hfr 3 (by kernel_rfl); simpa using h
            clear ho hfr hdep
            go_wp2_with fail
            exact ⟨rfl, _, rfl, Below.refl _ _, rfl⟩
          · intro o ho a' w' hb hfr hdep
            obtain rfl := Option.some.inj ho
            have g74 : a'.tmps[74]?.getD undef = .int .i64 by_ := by have h := hdep 8 _ rfl (by kernel_rfl); simpa using h
            clear ho hfr hdep
            go_wp2_with fail
            refine (hA5 _).mono ?_
            rintro e w3 ⟨rfl, rfl⟩
            go_wp2_with fail
            exact ⟨rfl, _, rfl, Below.refl _ _, rfl⟩
          · intro o ho a' w' hb hfr hdep
            obtain rfl := Option.some.inj ho
            have g73 : a'.tmps[73]?.getD undef = .int .i64 xk := by have h := hdep 7 _ rfl (by kernel_rfl); simpa using h
            have g75 : a'.tmps[75]?.getD undef = .int .i64 (r5 : Int) := by have h := hdep 9 _ rfl (by kernel_rfl); simpa using h
            clear ho hfr hdep
            go_wp2_with fail
            exact ⟨rfl, _, rfl, Below.refl _ _, _, rfl⟩
          · intro o ho a' w' hb hfr hdep
            obtain rfl := Option.some.inj ho
            obtain ⟨z, g76⟩ := hdep 10 _ rfl (by kernel_rfl)
            replace g76 : a'.tmps[76]?.getD undef = .int .i64 z := by simpa using g76
            clear ho hfr hdep
            go_wp2_with fail
            exact ⟨rfl, _, rfl, Below.refl _ _, _, rfl⟩
        · intro g w4 hb4 hp4
          have p43 := hp4 1 _ rfl
          have p44 := hp4 2 _ rfl
          obtain ⟨z, p53⟩ := hp4 11 _ rfl
          clear hp4
          simp at p43 p44 p53
          simp only [List.drop_succ_cons, List.drop_zero, List.map_cons, List.map_nil, putAll, Act.put, List.setIfInBounds_toArray, List.set_cons_succ, List.set_cons_zero, p43, p44, p53]
          clear p43 p44 p53
          have ho7 := ho4.below hb4
          have hcl := ho7.at_ HXK.out
          have hfr := ho7.free k
          refine index_known 78 22 _ _ 3 Try.underlying22 size_int lb F.length c4 rfl _ _ k rfl rfl hkl ?_
          go_upto_region 14 with fail
          have hne9 : b9 ≠ lb := fun e => (KindOf.own ho4).ne hx3 (by decide) _ rfl (by rw [e])
          have hlb := ho4.base.1
          have hoF := ho7.put (i := k) (.int .i64 z)
          rw [show (.int .i64 z : Value) = I64 z from rfl, ← List.map_set] at hoF
          have hxz := (hx3.under hb4).far (p := ⟨lb, k, none⟩) hne9 (I64 z)
          have hxrz := (hxr3.under hb4).far (p := ⟨lb, k, none⟩) (by show _ ≠ lb; simp at hlb; omega) (I64 z)
          have hbz := (hbw3.trans (hb4.mono hbw3.size)).setCell (p := ⟨lb, k, none⟩) (by show _ ≤ lb; simp at hlb; omega) (I64 z)
          have hoL : Own (w4.setCell ⟨lb, k, none⟩ (I64 z)) (w0.heap.size + 2) 3 1 a5 L.length c5 (L.map I64) ∨ L.length = 0 ∧ c5 = 0 := by
            rcases hap with h | h
            · exact .inr h
            · exact .inl ((ho5.below hb4).set_other (p := ⟨lb, k, none⟩) (fun q hq => (h q ⟨lb, 0, none⟩ hq rfl)) (I64 z))
          clear hcl hfr
          go_wp2_with (first
            | (with_reducible refine load_box 88 35 _ 35 b9 0 _ [.slice (some ⟨lb, 0, none⟩) F.length c4, .slice a5 L.length c5] isAgg_rcert (size_rcert _ _) hxz rfl (fun j u hj => by rw [Nat.zero_add]; exact hj) ?_)
            | (with_reducible refine store_all 35 _ _ 35 (w0.heap.size + 1) _ [.slice (some ⟨lb, 0, none⟩) F.length c4, .slice a5 L.length c5] _ (size_rcert _ _) hxrz rfl rfl rfl (Eq.refl 2) (by simp [Value.oneCell']) ?_; intro w8 hx8 hg8 hs8))
          have hbz8 := hbz.grown hg8 hbz.size (fun k hk => by cases hk; omega)
          refine bodyPost_ret (run_results_cell rfl rfl isAgg_rcert (size_rcert _ _) hx8) rfl ⟨F.set k z, L, some ⟨lb, 0, none⟩, a5, c4, c5, by rw [List.length_set], by rw [List.length_set]; exact fin_own hoF hg8, slOr hoL hg8, by rw [List.length_set]; omega, Nat.le_refl _, hbz8⟩
    · go_upto_region 13 with fail
      clear f0 f1
      refine wp_region_free 5 [⟨0, 81, [81], fun vs _ => vs = [.pointer (some ⟨b9, 0, none⟩)]⟩, ⟨1, 82, [82], fun vs _ => vs = [.slice a4 F.length c4]⟩, ⟨2, 83, [83], fun vs _ => vs = [.int .i64 by_]⟩, ⟨3, 84, [84], fun vs _ => vs = [.int .i64 (r8 : Int)]⟩, ⟨4, 85, [85], fun vs w => ∃ b, vs = [.slice (some ⟨b, 0, none⟩) 1 1] ∧ Sl w 1 (some ⟨b, 0, none⟩) 1 1 [I64 (r8 : Int)]⟩] (by kernel_rfl) (by kernel_rfl) ?_ ?_ ?_
      · simp only [All]
        refine ⟨fun _ _ _ _ h => h, fun _ _ _ _ h => h, fun _ _ _ _ h => h, fun _ _ _ _ h => h, ?_, trivial⟩
        · rintro vs w w' hb ⟨b, h1, h2⟩
          exact ⟨b, h1, h2.below hb⟩
      · simp only [All]
        refine ⟨?_, ?_, ?_, ?_, ?_, trivial⟩
        · intro o ho a' w' hb hfr hdep
          obtain rfl := Option.some.inj ho
          have g9 : a'.tmps[9]?.getD undef = .pointer (some ⟨b9, 0, none⟩) := by have h := hfr 9 (by kernel_rfl); simpa using h
          clear ho hfr hdep
          go_wp2_with fail
          exact ⟨rfl, _, rfl, Below.refl _ _, rfl⟩
        · intro o ho a' w' hb hfr hdep
          obtain rfl := Option.some.inj ho
          have g81 : a'.tmps[81]?.getD undef = .pointer (some ⟨b9, 0, none⟩) := by have h := hdep 0 _ rfl (by kernel_rfl); simpa using h
          clear ho hfr hdep
          have hcl := (hx3.under hb).at_ (j := 0) rfl
          go_wp2_with fail
          exact ⟨rfl, _, rfl, Below.refl _ _, rfl⟩
        · intro o ho a' w' hb hfr hdep
          obtain rfl := Option.some.inj ho
          have g3 : a'.tmps[3]?.getD undef = .int .i64 by_ := by have h := hfr 3 (by kernel_rfl); simpa using h
          clear ho hfr hdep
          go_wp2_with fail
          exact ⟨rfl, _, rfl, Below.refl _ _, rfl⟩
        · intro o ho a' w' hb hfr hdep
          obtain rfl := Option.some.inj ho
          have g83 : a'.tmps[83]?.getD undef = .int .i64 by_ := by have h := hdep 2 _ rfl (by kernel_rfl); simpa using h
          clear ho hfr hdep
          go_wp2_with fail
          refine (hA8 _).mono ?_
          rintro e w3 ⟨rfl, rfl⟩
          go_wp2_with fail
          exact ⟨rfl, _, rfl, Below.refl _ _, rfl⟩
        · intro o ho a' w' hb hfr hdep
          obtain rfl := Option.some.inj ho
          have g84 : a'.tmps[84]?.getD undef = .int .i64 (r8 : Int) := by have h := hdep 3 _ rfl (by kernel_rfl); simpa using h
          clear ho hfr hdep
          go_wp2_with fail
          exact ⟨rfl, _, rfl, blo _ _, w'.heap.size, rfl, Sl.fresh w' 3 1 1 [I64 (r8 : Int)] rfl (by unfold maxLen; omega)⟩
      · intro g w4 hb4 hp4
        have p82 := hp4 1 _ rfl
        obtain ⟨b, p85, hsb⟩ := hp4 4 _ rfl
        clear hp4
        simp at p82 p85
        simp only [List.drop_succ_cons, List.drop_zero, List.map_cons, List.map_nil, putAll, Act.put, List.setIfInBounds_toArray, List.set_cons_succ, List.set_cons_zero, p82, p85]
        clear p82 p85
        have hz3 : w0.heap.size + 2 ≤ w3.heap.size := Nat.le_trans hb9 (Nat.le_of_lt hx3.lt)
        have hne9 : some b9 ≠ a4.map (·.block) := fun e => by
          cases a4 with
          | none => cases e
          | some q => exact (KindOf.own ho4).ne hx3 (by decide) q rfl (by simpa using e.symm)
        have hner : some (w0.heap.size + 1) ≠ a4.map (·.block) := fun e => by
          cases a4 with
          | none => cases e
          | some q =>
            have h1 := ho4.base.1
            have h2 : w0.heap.size + 1 = q.block := by simpa using e
            omega
        refine append_own rfl _ _ 22 rfl 3 (.int .i64 0) 1 8 Try.underlying22 info_int rfl w3 (w0.heap.size + 2) a4 F.length c4 _ rfl (ho4.below hb4) (some ⟨b, 0, none⟩) 1 1 [I64 (r8 : Int)] rfl hsb (by simp [Value.oneCell']) (by omega) (by unfold maxLen; omega) (Nat.le_trans hz3 hb4.size) (hb4.mono hz3) ?_
        intro a6 c6 w5 ho6 hg6 hb6
        have hx5 := (hx3.under hb4).grown hg6 hne9
        have hf5 := hx5.at_ (j := 0) rfl
        have hfr5 := hx5.free 0
        have hxr5 := (hxr3.under hb4).grown hg6 hner
        have hb05 := hbw3.trans (hb6.mono (by omega))
        have hoL5 : Own w5 (w0.heap.size + 2) 3 1 a5 L.length c5 (L.map I64) ∨ L.length = 0 ∧ c5 = 0 := by
          rcases hap with h | h
          · exact .inr h
          · refine .inl ((ho5.below hb4).kept hg6 (fun q hq e => ?_))
            cases a4 with
            | none => cases e
            | some q0 => exact h q q0 hq rfl (by simpa using e)
        clear hsb hg6 hb6 hne9 hner
        simp only [Act.put, List.setIfInBounds_toArray, List.set_cons_succ, List.set_cons_zero]
        go_upto_region 14 with (with_reducible refine store_slice 22 _ _ size_ints b9 0 rfl a6 (F.length + 1) c6 rfl _ hf5 hfr5 ?_)
        have hxz : Box (w5.setCell ⟨b9, 0, none⟩ (.slice a6 (F.length + 1) c6)) b9 35 [.slice a6 (F.length + 1) c6, .slice a5 L.length c5] := hx5.put 0 _
        have hxrz := hxr5.far (p := ⟨b9, 0, none⟩) (by show _ ≠ b9; omega) (.slice a6 (F.length + 1) c6)
        have hbz := hb05.setCell (p := ⟨b9, 0, none⟩) (by show _ ≤ b9; omega) (.slice a6 (F.length + 1) c6)
        have hoF := ho6.set_other (p := ⟨b9, 0, none⟩) (fun q hq e => (KindOf.own ho6).ne hx5 (by decide) q hq (by rw [show q.block = b9 from e])) (.slice a6 (F.length + 1) c6)
        have hoL : Own (w5.setCell ⟨b9, 0, none⟩ (.slice a6 (F.length + 1) c6)) (w0.heap.size + 2) 3 1 a5 L.length c5 (L.map I64) ∨ L.length = 0 ∧ c5 = 0 := by
          rcases hoL5 with h | h
          · exact .inl (h.set_other (p := ⟨b9, 0, none⟩) (fun q hq e => (KindOf.own h).ne hx5 (by decide) q hq (by rw [show q.block = b9 from e])) _)
          · exact .inr h
        rw [show F.map I64 ++ [I64 (r8 : Int)] = (F ++ [(r8 : Int)]).map I64 by simp] at hoF
        clear hf5 hfr5
        go_wp2_with (first
          | (with_reducible refine load_box 88 35 _ 35 b9 0 _ [.slice a6 (F.length + 1) c6, .slice a5 L.length c5] isAgg_rcert (size_rcert _ _) hxz rfl (fun j u hj => by rw [Nat.zero_add]; exact hj) ?_)
          | (with_reducible refine store_all 35 _ _ 35 (w0.heap.size + 1) _ [.slice a6 (F.length + 1) c6, .slice a5 L.length c5] _ (size_rcert _ _) hxrz rfl rfl rfl (Eq.refl 2) (by simp [Value.oneCell']) ?_; intro w8 hx8 hg8 hs8))
        have hbz8 := hbz.grown hg8 hbz.size (fun k hk => by cases hk; omega)
        refine bodyPost_ret (run_results_cell rfl rfl isAgg_rcert (size_rcert _ _) hx8) rfl ⟨F ++ [(r8 : Int)], L, a6, a5, c6, c5, by rw [List.length_append]; rfl, by rw [List.length_append]; exact fin_own hoF hg8, slOr hoL hg8, by rw [List.length_append]; exact Nat.le_refl _, Nat.le_refl _, hbz8⟩
    · obtain ⟨m, Hm⟩ : ∃ m, Hid (L.length / 2 = m) := ⟨_, hide rfl⟩
      have hmc : m ≤ c5 := by rw [← Hm.out]; have := ho5.sl.le; omega
      have hml : m ≤ L.length := by rw [← Hm.out]; omega
      have hq2 : ((L.length : Int) / 2) = (m : Int) := by rw [← Hm.out]; omega
      have hf5 := hx3.at_ (j := 1) rfl
      have hfr5 := hx3.free 1
      go_upto_region 14 with (first
        | (with_reducible refine cut_hi_any 29 22 _ _ 3 Try.underlying22 1 size_int a5 L.length c5 rfl .i64 m rfl hmc ?_)
        | (with_reducible refine store_slice 22 _ _ size_ints b9 1 rfl a5 m c5 rfl _ hf5 hfr5 ?_))
      have hz3 : w0.heap.size + 2 ≤ w3.heap.size := Nat.le_trans hb9 (Nat.le_of_lt hx3.lt)
      have hxz : Box (w3.setCell ⟨b9, 1, none⟩ (.slice a5 m c5)) b9 35 [.slice a4 F.length c4, .slice a5 m c5] := hx3.put 1 _
      have hxrz := hxr3.far (p := ⟨b9, 1, none⟩) (by show _ ≠ b9; omega) (.slice a5 m c5)
      have hbz := hbw3.setCell (p := ⟨b9, 1, none⟩) (by show _ ≤ b9; omega) (.slice a5 m c5)
      have hoF := ho4.set_other (p := ⟨b9, 1, none⟩) (fun q hq e => (KindOf.own ho4).ne hx3 (by decide) q hq (by rw [show q.block = b9 from e])) (.slice a5 m c5)
      have hoL := ho5.set_other (p := ⟨b9, 1, none⟩) (fun q hq e => (KindOf.own ho5).ne hx3 (by decide) q hq (by rw [show q.block = b9 from e])) (.slice a5 m c5)
      have HQ2 := hide hq2
      clear hf5 hfr5 f0 f1 hq2
      go_wp2_with (first
        | (with_reducible refine load_box 88 35 _ 35 b9 0 _ [.slice a4 F.length c4, .slice a5 m c5] isAgg_rcert (size_rcert _ _) hxz rfl (fun j u hj => by rw [Nat.zero_add]; exact hj) ?_)
        | (with_reducible refine store_all 35 _ _ 35 (w0.heap.size + 1) _ [.slice a4 F.length c4, .slice a5 m c5] _ (size_rcert _ _) hxrz rfl rfl rfl (Eq.refl 2) (by simp [Value.oneCell']) ?_; intro w8 hx8 hg8 hs8))
      have hbz8 := hbz.grown hg8 hbz.size (fun k hk => by cases hk; omega)
      refine bodyPost_ret (run_results_cell rfl rfl isAgg_rcert (size_rcert _ _) hx8) rfl ⟨F, L.take m, a4, a5, c4, c5, by rw [List.length_take, Nat.min_eq_left hml], fin_own hoF hg8, by rw [List.length_take, Nat.min_eq_left hml]; exact sl_take (fin_own hoL hg8) hml, by omega, by rw [List.length_take]; omega, hbz8⟩
end Go.Proofs.Ytmjkhmebpciopaa
end

/- the text T45 -/
section
/- Chapter 15: Check of the right certificate, and of others; in plain words. -/
namespace Go.Proofs.Ytmjkhmebpciopaa
open Go.RowKit Go.Dx

theorem tab_check_any {X : List (List (List UInt8))} {W : Int} {P : List (List UInt8)} {F0 Ls : List Nat} (h : LayOf X W P F0 Ls) (hs : List Hd) (a : Option Addr) (n c : Nat) (F L' : List Int) (aF aL : Option Addr) (nF cF nL cL : Nat) (w : World) (hp : Pg3 w a n c hs X)
    (hF : Sl w 1 aF nF cF (F.map I64)) (hL : Sl w 1 aL nL cL (L'.map I64)) (hFl : F.length ≤ 1000000) (hLl : L'.length ≤ 1000000) :
    Calls Try.prog 23 #[.slice a n c, .int .i64 W, .agg #[.slice aF nF cF, .slice aL nL cL]] w fun e w' => e = .returned (.int .i64 (chkT X W F0.length Ls F L')) ∧ Below w.heap.size w w' := by
  rcases h with ⟨h0, L, T, hS, rfl, rfl, rfl⟩ | ⟨h0, rfl, rfl, rfl⟩
  · exact tab_Check X hs a n c W L T F L' aF aL nF cF nL cL w hp h0 hS hF hL hFl hLl
  · rw [chkT_err h0]; exact tab_Check_no X hs a n c W aF aL nF cF nL cL w hp h0
theorem ref_check_any {X : List (List (List UInt8))} {W : Int} {P : List (List UInt8)} {F0 Ls : List Nat} (h : LayOf X W P F0 Ls) (hs : List Hd) (a : Option Addr) (n c : Nat) (F L' : List Int) (aF aL : Option Addr) (nF cF nL cL : Nat) (w : World) (hp : Pg3 w a n c hs X)
    (hW : -9223372036854775808 ≤ W ∧ W ≤ 9223372036854775807) (hF : Sl w 1 aF nF cF (F.map I64)) (hL : Sl w 1 aL nL cL (L'.map I64)) (hFl : F.length ≤ 1000000) (hLl : L'.length ≤ 1000000) :
    Calls Try.prog 24 #[.slice a n c, .int .i64 W, .agg #[.slice aF nF cF, .slice aL nL cL]] w fun e w' => e = .returned (.int .i64 (chkT X W F0.length Ls F L')) ∧ Below w.heap.size w w' := by
  rcases h with ⟨h0, L, T, hS, rfl, rfl, rfl⟩ | ⟨h0, rfl, rfl, rfl⟩
  · exact ref15_Check X hs a n c W L T F L' aF aL nF cF nL cL w hp hW h0 hS hF hL hFl hLl
  · rw [chkT_err h0]; exact ref15_Check_no X hs a n c W aF aL nF cF nL cL w hp hW h0
theorem ints_getD (l : List Nat) (i : Nat) (h : i < l.length) : (ints l).getD i 0 = (l[i] : Int) := by
  unfold ints
  rw [List.getD_eq_getElem?_getD, List.getElem?_map]
  simp [h]
/-- the parts of the right certificate -/
theorem Sol.parts {f : Nat → Nat} {n R : Nat} {W : Int} {L T : Nat → Nat} (h : Sol f n R W L T 1) : ∀ (i k : Nat), 1 ≤ k → k < n → ∀ a, (chain n T n k)[i]? = some a → (1 ≤ a ∧ a < n) ∧ (i = 0 → a = k) ∧ ((chain n T n k)[i + 1]? = none ∧ T a = n ∨ (chain n T n k)[i + 1]? = some (T a)) := by
  intro i
  induction i with
  | zero =>
    intro k h1 h2 a ha
    have hb := h k h1 h2
    have hlt := hb.lt
    have hle := hb.le
    rw [chain_step h.gt h1 h2] at ha ⊢
    cases ha
    refine ⟨⟨h1, h2⟩, fun _ => rfl, ?_⟩
    show ((chain n T n (T k))[0]? = none ∧ T k = n) ∨ (chain n T n (T k))[0]? = some (T k)
    by_cases hn : T k < n
    · right; rw [chain_step h.gt (by omega) hn]; rfl
    · left; rw [chain_stop hn]; exact ⟨rfl, by omega⟩
  | succ i ih =>
    intro k h1 h2 a ha
    have hb := h k h1 h2
    have hlt := hb.lt
    rw [chain_step h.gt h1 h2] at ha ⊢
    replace ha : (chain n T n (T k))[i]? = some a := ha
    by_cases hn : T k < n
    · obtain ⟨g1, _, g3⟩ := ih (T k) (by omega) hn a ha
      exact ⟨g1, fun h => absurd h (by omega), g3⟩
    · rw [chain_stop hn] at ha; simp at ha
theorem Sol.accept {f : Nat → Nat} {n R : Nat} {W : Int} {L T : Nat → Nat} (h : Sol f n R W L T 1) (hn : 1 ≤ n) : (List.range (ints (chain n T n 1)).length).all (okPart f n W (ints (chain n T n 1))) = true := by
  apply List.all_eq_true.2
  intro i hi
  have hi := List.mem_range.1 hi
  have hl : (ints (chain n T n 1)).length = (chain n T n 1).length := by unfold ints; simp
  rw [hl] at hi
  have h2 : 1 < n := by
    rcases Nat.lt_or_ge 1 n with h | h
    · exact h
    · rw [chain_stop (by omega)] at hi; simp at hi
  obtain ⟨⟨a1, a2⟩, a3, a4⟩ := h.parts i 1 (Nat.le_refl _) h2 _ (List.getElem?_eq_getElem hi)
  have hb := h _ a1 a2
  have e1 := ints_getD (chain n T n 1) i hi
  have e2 : toAt (ints (chain n T n 1)) n i = (T ((chain n T n 1)[i]) : Int) := by
    unfold toAt
    rw [hl]
    rcases a4 with ⟨g1, g2⟩ | g1
    · have : ¬ i + 1 < (chain n T n 1).length := fun h => by rw [List.getElem?_eq_getElem h] at g1; cases g1
      rw [if_neg this, g2]
    · have hlt : i + 1 < (chain n T n 1).length := (List.getElem?_eq_some_iff.1 g1).1
      rw [if_pos hlt, ints_getD _ _ hlt]
      have := (List.getElem?_eq_some_iff.1 g1).2
      rw [this]
  have hlt := hb.lt
  have hle := hb.le
  unfold okPart
  rw [e1, e2]
  refine decide_eq_true ⟨fun h => by rw [a3 h]; rfl, by omega, by omega, by omega, ?_⟩
  rw [Int.toNat_natCast, Int.toNat_natCast]
  exact hb.ok
theorem chk_own {X : List (List (List UInt8))} {W : Int} {P : List (List UInt8)} {F0 Ls : List Nat} (h : LayOf X W P F0 Ls) (h0 : errT X W = 0) : chkT X W F0.length Ls (ints F0) (ints Ls) = 0 ∧ Ls.length = nCols X := by
  rcases h with ⟨_, L, T, hS, rfl, rfl, rfl⟩ | ⟨h, _⟩
  · refine ⟨?_, leastL_len _ _⟩
    unfold chkT
    rw [if_neg (fun h => h h0), if_pos ⟨rfl, by unfold ints; simp⟩, if_pos (hS.accept (errT_zero h0).1.c1)]
  · exact absurd h0 h
theorem chk_least {X : List (List (List UInt8))} {W : Int} {m : Nat} {Ls : List Nat} {F L : List Int} (h0 : errT X W = 0) (h : L ≠ ints Ls) : chkT X W m Ls F L = 19 := by
  unfold chkT
  rw [if_neg (fun h => h h0), if_neg (fun hh => h hh.1)]
theorem chk_first {X : List (List (List UInt8))} {W : Int} {m : Nat} {Ls : List Nat} {F L : List Int} (h0 : errT X W = 0) (h : F.length ≠ m) : chkT X W m Ls F L = 19 := by
  unfold chkT
  rw [if_neg (fun h => h h0), if_neg (fun hh => h hh.2)]
end Go.Proofs.Ytmjkhmebpciopaa
end

/- the text T46 -/
section
/- Chapter 15: the walk of TabularChecks. -/
namespace Go.Proofs.Ytmjkhmebpciopaa
open Go.RowKit Go.Dx

theorem KeepsT.own {e T : TypeId} {w w' : World} {B n c sz : Nat} {a : Option Addr} {cs : List Value} (hT : e ≠ T) (ho : Own w B e sz a n c cs) (hg : w.grownBy w' (a.map (·.block))) : KeepsT T w w' := fun k C z hk =>
  ⟨C, rfl, (hg.block k (Array.getElem?_eq_some_iff.1 hk).1 (fun e0 => by
    cases a with
    | none => cases e0
    | some t =>
      obtain ⟨C', z', h⟩ := own_kindW ho
      have e' : k = t.block := by simpa using e0
      rw [e', h] at hk
      injection hk with hk
      injection hk with _ hk _
      exact hT hk)).trans hk⟩
/-- certificates' blocks stay, small blocks of numbers too -/
def KeepR (w w' : World) : Prop := KeepsT 31 w w' ∧ ∀ (k : Nat) (C : Array Value) (z : Nat × Nat), w.heap[k]? = some (.cells C 3 z) → C.size ≤ 1 → w'.heap[k]? = w.heap[k]?
theorem KeepR.of {w w' : World} (h : Below w.heap.size w w') : KeepR w w' := ⟨KeepsT.of h, fun k _ _ hk _ => h.block k (Array.getElem?_eq_some_iff.1 hk).1⟩
theorem KeepR.app {w w' : World} {B n c : Nat} {a : Option Addr} {cs : List Value} (ho : Own w B 3 1 a n c cs) (hg : w.grownBy w' (a.map (·.block))) (hor : n + 1 ≤ c ∨ Below w.heap.size w w') (h0 : n = 0 → c = 0) : KeepR w w' := by
  rcases hor with h | h
  · refine ⟨KeepsT.own (by decide) ho hg, fun k C z hk hs => hg.block k (Array.getElem?_eq_some_iff.1 hk).1 (fun e0 => ?_)⟩
    rcases ho.2 with ⟨h1, _, h3⟩ | ⟨g, cap, cur, h1, _, h2, _, _, hcs, _⟩
    · omega
    · injection h1 with h1 h3 h4
      subst h1 h4
      have e' : k = g := by simpa using e0
      rw [e', h2] at hk
      injection hk with hk
      injection hk with hk _ _
      subst hk
      omega
  · exact KeepR.of h
theorem KeepR.box {w w' : World} (h : KeepR w w') {b : Nat} {cs : List Value} (hb : Box w b 3 cs) (hl : cs.length ≤ 1) : Box w' b 3 cs := (h.2 b _ _ hb (by simpa using hl)).trans hb
theorem own_empty {w : World} {B b : Nat} (h : Box w b 3 []) (hB : B ≤ b) : Own w B 3 1 (some ⟨b, 0, none⟩) 0 0 [] := ⟨rfl, .inr ⟨b, 0, #[], rfl, hB, h, Nat.le_refl _, by unfold maxLen; omega, rfl, rfl⟩⟩
/-- how far 'append(append([]int{}, own.First...), n)' is -/
def GR (w0 : World) (F : List Int) : Nat → List Value → World → Prop
  | 0, _, w => Below w0.heap.size w0 w
  | 1, vs, w => ∃ a c, vs.getD 0 undef = .slice a F.length c ∧ Own w w0.heap.size 3 1 a F.length c (F.map I64) ∧ (F.length = 0 → c = 0) ∧ Below w0.heap.size w0 w
  | _, vs, w => ∃ a c z, vs.getD 1 undef = .slice a (F.length + 1) c ∧ Own w w0.heap.size 3 1 a (F.length + 1) c ((F ++ [z]).map I64) ∧ Below w0.heap.size w0 w
theorem GR.mono {w0 : World} {F : List Int} : ∀ j vs w w', Below w.heap.size w w' → GR w0 F j vs w → GR w0 F j vs w' := by
  intro j vs w w' hb h
  match j, h with
  | 0, h => exact Below.trans h (hb.mono (Below.size h))
  | 1, ⟨a, c, h1, h2, h4, h3⟩ => exact ⟨a, c, h1, h2.below hb, h4, h3.trans (hb.mono h3.size)⟩
  | _ + 2, ⟨a, c, z, h1, h2, h3⟩ => exact ⟨a, c, z, h1, h2.below hb, h3.trans (hb.mono h3.size)⟩
theorem GR.bel {w0 w : World} {F : List Int} {vs : List Value} : ∀ {j}, GR w0 F j vs w → Below w0.heap.size w0 w := by
  intro j h
  match j, h with
  | 0, h => exact h
  | 1, ⟨_, _, _, _, _, h⟩ => exact h
  | _ + 2, ⟨_, _, _, _, _, h⟩ => exact h
theorem GR.last {w0 w : World} {F : List Int} {vs : List Value} : ∀ {j}, 2 ≤ j → GR w0 F j vs w → ∃ a c, vs.getD 1 undef = .slice a (F.length + 1) c := by
  intro j hj h
  match j, h with
  | _ + 2, ⟨a, c, _, h, _⟩ => exact ⟨a, c, h⟩
def F158 (n m : Nat) (a6 : Option Addr) (c6 : Nat) (vs : List Value) : Prop := ∃ a c, vs = [.agg #[.slice a n c, .slice a6 m c6], .slice a n c]
theorem idx0_off {w : World} {ops : Array Oper} {rest : List Oper} {act : Act} {Q : Exit → Act → World → Prop} {ty : TypeId} {pos : String} {after : Array Edge} (d : Nat) (x y : Operand) (b o n c : Nat) (hx : act.eval x = .slice (some ⟨b, o, none⟩) n c) (hn : 1 ≤ n)
    (hy : act.eval y = .int .i64 0) (hK : wpList Try.prog ops Q rest (act.put (some d) (.pointer (some ⟨b, o, none⟩))) w) :
    wpList Try.prog ops Q ({ dst := some d, op := .indexAddr 23 x y, type := ty, pos := pos, after := after, guard := none } :: rest) act w := by
  refine wpList_plain rfl fun K hK' => ?_
  obtain ⟨i0, hi0, hs0⟩ := Option.map_eq_some_iff.1 size_rows
  have hrun : (Instr.indexAt 23 (.slice (some ⟨b, o, none⟩) n c) (.int .i64 0)).run Try.prog w = .ok (.pointer (some ⟨b, o, none⟩)) w := by
    have h0 : 0 < n := hn
    simp [Instr.indexAt, asIntOf, run_underlying Try.underlying23, sizeOf, typeInfo, hi0, hs0, h0, Addr.add_lit]
  unfold Oper.wp
  simp [execOp, hx, hy, hrun, Result.andThen]
  exact hK' _ _ hK
theorem lay_small {X : List (List (List UInt8))} {W : Int} {P : List (List UInt8)} {F0 Ls : List Nat} (h : LayOf X W P F0 Ls) : ∀ x ∈ Ls, x ≤ 1000 := by
  intro x hx
  rcases h with ⟨h0, L, T, hS, rfl, rfl, rfl⟩ | ⟨_, _, _, rfl⟩
  · obtain ⟨HX, _, _, hfit⟩ := errT_zero h0
    have hsm := hS.small hfit.cols HX.c2 HX.r2
    unfold leastL at hx
    obtain ⟨i, hi, rfl⟩ := List.mem_map.1 hx
    split
    · have := hsm (i + 1) (by omega) (by assumption); omega
    · omega
  · cases hx
/-- four certificates in a list -/
structure CX (w : World) (B : Nat) : Prop where
  ex : ∃ cs, Box w B 35 cs ∧ ∀ i, i < 4 → ∃ (F L : List Int) (aF aL : Option Addr) (cF cL : Nat), cs[i * 2]? = some (.slice aF F.length cF) ∧ cs[i * 2 + 1]? = some (.slice aL L.length cL) ∧ Sl w 1 aF F.length cF (F.map I64) ∧ Sl w 1 aL L.length cL (L.map I64) ∧ F.length ≤ 1000 ∧ L.length ≤ 1000
theorem CX.below {w w' : World} {B : Nat} (h : CX w B) (hb : Below w.heap.size w w') : CX w' B := by
  obtain ⟨cs, h1, h2⟩ := h.ex
  exact ⟨cs, h1.under hb, fun i hi => by obtain ⟨F, L, aF, aL, cF, cL, g1, g2, g3, g4, g5⟩ := h2 i hi; exact ⟨F, L, aF, aL, cF, cL, g1, g2, g3.below hb, g4.below hb, g5⟩⟩

theorem cx4 {w : World} {B : Nat} {F0 L0 F1 L1 F2 L2 : List Int} {n0 m0 : Nat} {a1 a2 a3 a4 a5 a6 : Option Addr} {c1 c2 c3 c4 c5 c6 : Nat} (hx : Box w B 35 [.slice a1 n0 c1, .slice a2 m0 c2, .slice a3 F1.length c3, .slice a4 L1.length c4, .slice a5 F2.length c5, .slice a6 L2.length c6, .slice none 0 0, .slice none 0 0])
    (hn : F0.length = n0) (hm : L0.length = m0) (s1 : Sl w 1 a1 n0 c1 (F0.map I64)) (s2 : Sl w 1 a2 m0 c2 (L0.map I64)) (s3 : Sl w 1 a3 F1.length c3 (F1.map I64)) (s4 : Sl w 1 a4 L1.length c4 (L1.map I64)) (s5 : Sl w 1 a5 F2.length c5 (F2.map I64)) (s6 : Sl w 1 a6 L2.length c6 (L2.map I64))
    (k0 : n0 ≤ 1000 ∧ m0 ≤ 1000) (k1 : F1.length ≤ 1000 ∧ L1.length ≤ 1000) (k2 : F2.length ≤ 1000 ∧ L2.length ≤ 1000) : CX w B := by
  subst hn hm
  refine ⟨_, hx, fun i hi => ?_⟩
  rcases i with _ | _ | _ | _ | i
  · exact ⟨F0, L0, a1, a2, c1, c2, rfl, rfl, s1, s2, k0⟩
  · exact ⟨F1, L1, a3, a4, c3, c4, rfl, rfl, s3, s4, k1⟩
  · exact ⟨F2, L2, a5, a6, c5, c6, rfl, rfl, s5, s6, k2⟩
  · exact ⟨[], [], none, none, 0, 0, rfl, rfl, Sl.empty _ _, Sl.empty _ _, by simp, by simp⟩
  · omega

set_option maxRecDepth 100000 in
set_option maxHeartbeats 4000000 in
theorem walk_TabularChecks (l : List Int) (a : Option Addr) (n c : Nat) (wd at_ how by_ : Int) (w : World) (hs : Sl w 1 a n c (l.map I64)) (hl : ∀ x ∈ l, -9223372036854775808 ≤ x ∧ x ≤ 9223372036854775807)
    (hwd : -9223372036854775808 ≤ wd ∧ wd ≤ 9223372036854775807) (hat : -9223372036854775808 ≤ at_ ∧ at_ ≤ 9223372036854775807) (hho : -9223372036854775808 ≤ how ∧ how ≤ 9223372036854775807) (hby : -9223372036854775808 ≤ by_ ∧ by_ ≤ 9223372036854775807) :
    Calls Try.prog 6 #[.slice a n c, .int .i64 wd, .int .i64 at_, .int .i64 how, .int .i64 by_] w fun e w' => e = .returned (.bool true) ∧ Below w.heap.size w w' := by
  have hE := ref15_Entries l a n c w hs hl
  go_enter Try.func6, Try.ntmps6
  go_wp2_with fail
  refine hE.mono ?_
  rintro e w1 ⟨X, aX, cX, hsX, rfl, HX, hX4, hC6, hO, hb1⟩
  have hp1 := hO.pg
  clear hE hO hs hl
  go_wp2_with fail
  refine (law15_widths wd w1 hwd.1 hwd.2).mono ?_
  rintro e w3 ⟨a5, v0, v1, rfl, hsw, hv0, hv1, hb3⟩
  have hbw3 := hb1.trans (hb3.mono hb1.size)
  have hp3 := hp1.below hb3
  obtain ⟨ab, ao, rfl, hab, hcw⟩ := hsw.ex (by simp)
  clear hb1 hb3 hp1 hsw
  go_wp2_with fail
  go_loopg [13] 2 (fun g k' w' => ∃ k : Nat, k ≤ 2 ∧ g = 2 - k ∧ k' = .int .i64 (k : Int) ∧ Below w3.heap.size w3 w')
  case atStart => exact ⟨0, by omega, by omega, rfl, Below.refl _ _⟩
  case round =>
    obtain ⟨k, hk, hg, rfl, hbk⟩ := hrel
    have HG := hide hg
    clear hg
    by_cases hkl : k < 2
    · obtain ⟨v, hvk, hvb⟩ : ∃ v : Int, ([v0, v1].map I64)[k]? = some (.int .i64 v) ∧ (-1 ≤ v ∧ v ≤ 1001) := by
        rcases k with _ | _ | k
        · exact ⟨v0, rfl, by omega, by omega⟩
        · exact ⟨v1, rfl, hv1⟩
        · omega
      have hcv := hcw k _ hvk
      have HCV := hide hcv
      have hcV : ∀ w', Below wr.heap.size wr w' → w'.cell? ⟨ab, ao + k, none⟩ = some (.int .i64 v) := fun w' h => by
        have hb := hbk.trans (h.mono hbk.size)
        exact (World.cell?_of_block (hb.block ab hab)).trans hcv
      obtain ⟨P, F0, Ls, hlay⟩ := LayOf.ex X v
      have HLAY := hide hlay
      obtain ⟨E, HE⟩ : ∃ E, Hid (errT X v = E) := ⟨_, hide rfl⟩
      have hpr := hp3.below hbk
      have hL2 : Calls Try.prog 11 #[.slice aX X.length cX, .int .i64 v] wr (GivesLay P F0 Ls E wr) := by
        have := ref_lay_any hlay (by omega) hsX aX X.length cX wr hpr
        rw [HE.out] at this; exact this
      have hF0l : F0.length ≤ 12 ∧ Ls.length ≤ 12 := by
        rcases hlay with ⟨_, L, T, _, _, rfl, rfl⟩ | ⟨_, _, rfl, rfl⟩
        · have h1 := chain_len (n := nCols X) (T := T) (nCols X) 1
          have h2 := HX.c2
          exact ⟨by omega, by rw [leastL_len]; exact h2⟩
        · simp
      have hr0 := hcV _ (Below.refl _ _)
      have d1 : decide ((k : Int) < 2) = true := decide_eq_true (by omega)
      clear hvk hcv hlay
      go_wp2_with fail
      refine hL2.mono ?_
      rintro e w4 ⟨ap, cp, hsp, a1, c1, a2, c2, rfl, _, hF4, hL4, hb4⟩
      clear hL2 hr0
      have hx4 := Box.new w4 35 #[.slice a1 F0.length c1, .slice a2 Ls.length c2]
      have hb5 := blo w4 (.cells #[.slice a1 F0.length c1, .slice a2 Ls.length c2] 35)
      have hF5 := hF4.below hb5
      have hL5 := hL4.below hb5
      have hbk5 := hbk.trans ((hb4.trans (hb5.mono hb4.size)).mono hbk.size)
      have hil : (ints F0).length = F0.length ∧ (ints Ls).length = Ls.length := by unfold ints; simp
      have hbent := law15_bent (ints F0) (ints Ls) a1 a2 F0.length c1 Ls.length c2 at_ how by_ _ hF5 hL5 (by omega) (by omega) hat hho hby
      have hI1 := hil.1
      have hI2 := hil.2
      have HI1 := hide hI1
      have HI2 := hide hI2
      clear hil hI1 hI2 hb4 hF4 hL4
      go_wp2_with fail
      refine hbent.mono ?_
      rintro e w6 ⟨F1, L1, a3, a4, c3, c4, rfl, hF6, hL6, hle1, hle2, hb6⟩
      rw [HI1.out] at hle1
      rw [HI2.out] at hle2
      have hx6 := hx4.under hb6
      have hs15F' := hF5.below hb6
      have hs15L' := hL5.below hb6
      have hbk6 := hbk5.trans (hb6.mono hbk5.size)
      have hx7 := Box.new w6 35 #[.slice a3 F1.length c3, .slice a4 L1.length c4]
      have hb7 := blo w6 (.cells #[.slice a3 F1.length c3, .slice a4 L1.length c4] 35)
      have hx15 := hx6.under hb7
      have hs15F := hs15F'.below hb7
      have hs15L := hs15L'.below hb7
      have hs17F := hF6.below hb7
      have hs17L := hL6.below hb7
      have hbk7 := hbk6.trans (hb7.mono hbk6.size)
      have hx17 := hx7
      clear hbent hx4 hb5 hF5 hL5 hbk5 hx6 hs15F' hs15L' hbk6 hb7 hF6 hL6 hx7 hbk hpr
      go_upto_region 8 with fail
      generalize w6.alloc (.cells #[.slice a3 F1.length c3, .slice a4 L1.length c4] 35) = w7 at *
      generalize w4.heap.size = b15 at *
      generalize w6.heap.size = b17 at *
      refine wp_region_free 9 [⟨0, 49, [49], fun vs _ => vs = [.agg #[.slice a1 F0.length c1, .slice a2 Ls.length c2]]⟩, ⟨1, 50, [50], fun vs _ => vs = [.agg #[.slice a3 F1.length c3, .slice a4 L1.length c4]]⟩, ⟨2, 51, [51], fun vs _ => vs = [.agg #[.slice a3 F1.length c3, .slice a4 L1.length c4]]⟩, ⟨3, 52, [52], fun vs _ => vs = [.int .i64 by_]⟩, ⟨4, 53, [53], fun vs _ => vs = [.int .i64 at_]⟩, ⟨5, 54, [54], fun vs _ => vs = [.int .i64 how]⟩, ⟨6, 55, [55], fun vs w => ∃ (F L : List Int) (a a' : Option Addr) (c c' : Nat), vs = [.agg #[.slice a F.length c, .slice a' L.length c']] ∧ Sl w 1 a F.length c (F.map I64) ∧ Sl w 1 a' L.length c' (L.map I64) ∧ F.length ≤ 1000 ∧ L.length ≤ 1000⟩, ⟨7, 56, [56], fun vs _ => vs = [.agg #[.slice none 0 0, .slice none 0 0]]⟩, ⟨8, 57, [57], fun vs w => ∃ B, vs = [.slice (some ⟨B, 0, none⟩) 4 4] ∧ CX w B⟩] (by kernel_rfl) (by kernel_rfl) ?_ ?_ ?_
      · simp only [All]
        refine ⟨fun _ _ _ _ h => h, fun _ _ _ _ h => h, fun _ _ _ _ h => h, fun _ _ _ _ h => h, fun _ _ _ _ h => h, fun _ _ _ _ h => h, ?_, fun _ _ _ _ h => h, ?_, trivial⟩
        · rintro vs w w' hb ⟨F, L, a, a', c, c', h1, h2, h3, h4⟩
          exact ⟨F, L, a, a', c, c', h1, h2.below hb, h3.below hb, h4⟩
        · rintro vs w w' hb ⟨B, h1, h2⟩
          exact ⟨B, h1, h2.below hb⟩
      · simp only [All]
        refine ⟨?_, ?_, ?_, ?_, ?_, ?_, ?_, ?_, ?_, trivial⟩
        · intro o ho a' w' hb hfr hdep
          obtain rfl := Option.some.inj ho
          have g15 : a'.tmps[15]?.getD undef = .pointer (some ⟨b15, 0, none⟩) := by have h := hfr 15 (by kernel_rfl); simpa using h
          clear ho hfr hdep
          refine load_box 49 35 _ 35 _ 0 _ [.slice a1 F0.length c1, .slice a2 Ls.length c2] isAgg_rcert (size_rcert _ _) (hx15.under hb) (by show a'.tmps.getD 15 undef = _; simpa using g15) (fun j u hj => by rw [Nat.zero_add]; exact hj) ?_
          go_wp2
          exact ⟨rfl, _, rfl, Below.refl _ _, rfl⟩
        · intro o ho a' w' hb hfr hdep
          obtain rfl := Option.some.inj ho
          have g17 : a'.tmps[17]?.getD undef = .pointer (some ⟨b17, 0, none⟩) := by have h := hfr 17 (by kernel_rfl); simpa using h
          clear ho hfr hdep
          refine load_box 50 35 _ 35 _ 0 _ [.slice a3 F1.length c3, .slice a4 L1.length c4] isAgg_rcert (size_rcert _ _) (hx17.under hb) (by show a'.tmps.getD 17 undef = _; simpa using g17) (fun j u hj => by rw [Nat.zero_add]; exact hj) ?_
          go_wp2
          exact ⟨rfl, _, rfl, Below.refl _ _, rfl⟩
        · intro o ho a' w' hb hfr hdep
          obtain rfl := Option.some.inj ho
          have g17 : a'.tmps[17]?.getD undef = .pointer (some ⟨b17, 0, none⟩) := by have h := hfr 17 (by kernel_rfl); simpa using h
          clear ho hfr hdep
          refine load_box 51 35 _ 35 _ 0 _ [.slice a3 F1.length c3, .slice a4 L1.length c4] isAgg_rcert (size_rcert _ _) (hx17.under hb) (by show a'.tmps.getD 17 undef = _; simpa using g17) (fun j u hj => by rw [Nat.zero_add]; exact hj) ?_
          go_wp2
          exact ⟨rfl, _, rfl, Below.refl _ _, rfl⟩
        · intro o ho a' w' hb hfr hdep
          obtain rfl := Option.some.inj ho
          have g4 : a'.tmps[4]?.getD undef = .int .i64 by_ := by have h := hfr 4 (by kernel_rfl); simpa using h
          clear ho hfr hdep
          go_wp2_with fail
          exact ⟨rfl, _, rfl, Below.refl _ _, rfl⟩
        · intro o ho a' w' hb hfr hdep
          obtain rfl := Option.some.inj ho
          have g2 : a'.tmps[2]?.getD undef = .int .i64 at_ := by have h := hfr 2 (by kernel_rfl); simpa using h
          clear ho hfr hdep
          go_wp2_with fail
          exact ⟨rfl, _, rfl, Below.refl _ _, rfl⟩
        · intro o ho a' w' hb hfr hdep
          obtain rfl := Option.some.inj ho
          have g3 : a'.tmps[3]?.getD undef = .int .i64 how := by have h := hfr 3 (by kernel_rfl); simpa using h
          clear ho hfr hdep
          go_wp2_with fail
          exact ⟨rfl, _, rfl, Below.refl _ _, rfl⟩
        · intro o ho a' w' hb hfr hdep
          obtain rfl := Option.some.inj ho
          have g51 : a'.tmps[51]?.getD undef = .agg #[.slice a3 F1.length c3, .slice a4 L1.length c4] := by have h := hdep 2 _ rfl (by kernel_rfl); simpa using h
          have g52 : a'.tmps[52]?.getD undef = .int .i64 by_ := by have h := hdep 3 _ rfl (by kernel_rfl); simpa using h
          have g53 : a'.tmps[53]?.getD undef = .int .i64 at_ := by have h := hdep 4 _ rfl (by kernel_rfl); simpa using h
          have g54 : a'.tmps[54]?.getD undef = .int .i64 how := by have h := hdep 5 _ rfl (by kernel_rfl); simpa using h
          clear ho hfr hdep
          have hs3 := hs17F.below hb
          have hs4 := hs17L.below hb
          go_wp2_with fail
          refine (law15_bent F1 L1 a3 a4 F1.length c3 L1.length c4 by_ at_ how w' hs3 hs4 (by omega) (by omega) hby hat hho).mono ?_
          rintro e w3 ⟨F, L, a5, a6, c5, c6, rfl, h1, h2, h3, h4, h5⟩
          go_wp2_with fail
          exact ⟨rfl, _, rfl, h5, F, L, a5, a6, c5, c6, rfl, h1, h2, by omega, by omega⟩
        · intro o ho a' w' hb hfr hdep
          obtain rfl := Option.some.inj ho
          clear ho hfr hdep
          go_wp2_with fail
          exact ⟨rfl, _, rfl, Below.refl _ _, rfl⟩
        · intro o ho a' w' hb hfr hdep
          obtain rfl := Option.some.inj ho
          have g49 : a'.tmps[49]?.getD undef = .agg #[.slice a1 F0.length c1, .slice a2 Ls.length c2] := by have h := hdep 0 _ rfl (by kernel_rfl); simpa using h
          have g50 : a'.tmps[50]?.getD undef = .agg #[.slice a3 F1.length c3, .slice a4 L1.length c4] := by have h := hdep 1 _ rfl (by kernel_rfl); simpa using h
          obtain ⟨F, L, a5, a6, c5, c6, g55, h1, h2, h3, h4⟩ := hdep 6 _ rfl (by kernel_rfl)
          replace g55 : a'.tmps[55]?.getD undef = .agg #[.slice a5 F.length c5, .slice a6 L.length c6] := by simpa using g55
          have g56 : a'.tmps[56]?.getD undef = .agg #[.slice none 0 0, .slice none 0 0] := by have h := hdep 7 _ rfl (by kernel_rfl); simpa using h
          clear ho hfr hdep
          have hs1 := hs15F.below hb
          have hs2 := hs15L.below hb
          have hs3 := hs17F.below hb
          have hs4 := hs17L.below hb
          go_wp2_with fail
          have bz := blo w' (.cells #[.slice a1 F0.length c1, .slice a2 Ls.length c2, .slice a3 F1.length c3, .slice a4 L1.length c4, .slice a5 F.length c5, .slice a6 L.length c6, .slice none 0 0, .slice none 0 0] 35)
          have hxn := Box.new w' 35 #[.slice a1 F0.length c1, .slice a2 Ls.length c2, .slice a3 F1.length c3, .slice a4 L1.length c4, .slice a5 F.length c5, .slice a6 L.length c6, .slice none 0 0, .slice none 0 0]
          exact ⟨rfl, _, rfl, bz, w'.heap.size, rfl, cx4 hxn HI1.out HI2.out (hs1.below bz) (hs2.below bz) (hs3.below bz) (hs4.below bz) (h1.below bz) (h2.below bz) (by omega) (by omega) (by omega)⟩
      · intro g w9 hb9 hp9
        obtain ⟨B, g57, hCX⟩ := hp9 8 _ rfl
        replace g57 : g 57 = .slice (some ⟨B, 0, none⟩) 4 4 := by simpa using g57
        clear hp9
        simp only [List.drop_succ_cons, List.drop_zero, List.map_cons, List.map_nil, putAll, Act.put, List.setIfInBounds_toArray, List.set_cons_succ, List.set_cons_zero, g57]
        clear g57
        have hCX9 := hCX
        have hbk9 := hbk7.trans (hb9.mono hbk7.size)
        have hx15_9 := hx15.under hb9
        have hs15F9 := hs15F.below hb9
        have hs15L9 := hs15L.below hb9
        have hb79 := hb9
        clear hCX hbk7 hb9 hx15 hx17 hs15F hs15L hs17F hs17L hle1 hle2
        go_wp2_with fail
        go_loopg [19] 4 (fun g i' w' => ∃ i : Nat, i ≤ 4 ∧ g = 4 - i ∧ i' = .int .i64 (i : Int) ∧ Below w9.heap.size w9 w')
        case atStart => exact ⟨0, by omega, by omega, rfl, Below.refl _ _⟩
        case round =>
          obtain ⟨i, hi, hg2, rfl, hbi⟩ := hrel
          have HG2 := hide hg2
          clear hg2
          by_cases hil : i < 4
          · have hCXr := hCX9.below hbi
            obtain ⟨cs, hxB, hget⟩ := hCXr.ex
            obtain ⟨F, L, aF, aL, cF, cL, q1, q2, hF, hL, hFl, hLl⟩ := hget i hil
            have HQ1 := hide q1
            have HQ2 := hide q2
            have d4 : decide ((i : Int) < 4) = true := decide_eq_true (by omega)
            have hb3r := hbk9.trans (hbi.mono hbk9.size)
            have hchk := fun (w' : World) (h : Below wr.heap.size wr w') => tab_check_any HLAY.out hsX aX X.length cX F L aF aL F.length cF L.length cL w' (hp3.below (hb3r.trans (h.mono hb3r.size))) (hF.below h) (hL.below h) (by omega) (by omega)
            have hchr := fun (w' : World) (h : Below wr.heap.size wr w') => ref_check_any HLAY.out hsX aX X.length cX F L aF aL F.length cF L.length cL w' (hp3.below (hb3r.trans (h.mono hb3r.size))) (by omega) (hF.below h) (hL.below h) (by omega) (by omega)
            have hcv2 : ∀ w', Below wr.heap.size wr w' → w'.cell? ⟨ab, ao + k, none⟩ = some (.int .i64 v) := fun w' h => by
              have hb := hb3r.trans (h.mono hb3r.size)
              rw [hb.cell hab]
              exact HCV.out
            generalize chkT X v F0.length Ls F L = ck at *
            clear q1 q2 hget hCXr
            go_upto_region 12 with fail
            refine wp_region_free 27 [⟨0, 64, [64], fun vs _ => vs = [.slice aX X.length cX]⟩, ⟨1, 65, [65], fun vs _ => vs = [.slice (some ⟨ab, ao, none⟩) 2 2]⟩, ⟨2, 66, [66], fun vs _ => vs = [.int .i64 (k : Int)]⟩, ⟨3, 67, [67], fun vs _ => vs = [.pointer (some ⟨ab, ao + k, none⟩)]⟩, ⟨4, 68, [68], fun vs _ => vs = [.int .i64 v]⟩, ⟨5, 69, [69], fun vs _ => vs = [.slice (some ⟨B, 0, none⟩) 4 4]⟩, ⟨6, 70, [70], fun vs _ => vs = [.int .i64 (i : Int)]⟩, ⟨7, 71, [71], fun vs _ => vs = [.pointer (some ⟨B, i * 2, none⟩)]⟩, ⟨8, 72, [72], fun vs _ => vs = [.pointer (some ⟨B, i * 2, none⟩)]⟩, ⟨9, 73, [73], fun vs _ => vs = [.slice aF F.length cF]⟩, ⟨10, 74, [74], fun vs _ => vs = [.slice (some ⟨B, 0, none⟩) 4 4]⟩, ⟨11, 75, [75], fun vs _ => vs = [.int .i64 (i : Int)]⟩, ⟨12, 76, [76], fun vs _ => vs = [.pointer (some ⟨B, i * 2, none⟩)]⟩, ⟨13, 77, [77], fun vs _ => vs = [.pointer (some ⟨B, i * 2 + 1, none⟩)]⟩, ⟨14, 78, [78], fun vs _ => vs = [.slice aL L.length cL]⟩, ⟨15, 79, [79], fun vs _ => vs = [.agg #[.slice aF F.length cF, .slice aL L.length cL]]⟩, ⟨16, 80, [80], fun vs _ => vs = [.int .i64 ck]⟩, ⟨17, 81, [81], fun vs _ => vs = [.slice aX X.length cX]⟩, ⟨18, 82, [82], fun vs _ => vs = [.slice (some ⟨ab, ao, none⟩) 2 2]⟩, ⟨19, 83, [83], fun vs _ => vs = [.int .i64 (k : Int)]⟩, ⟨20, 84, [84], fun vs _ => vs = [.pointer (some ⟨ab, ao + k, none⟩)]⟩, ⟨21, 85, [85], fun vs _ => vs = [.int .i64 v]⟩, ⟨22, 86, [86], fun vs _ => vs = [.slice (some ⟨B, 0, none⟩) 4 4]⟩, ⟨23, 87, [87], fun vs _ => vs = [.int .i64 (i : Int)]⟩, ⟨24, 88, [88], fun vs _ => vs = [.pointer (some ⟨B, i * 2, none⟩)]⟩, ⟨25, 89, [89], fun vs _ => vs = [.agg #[.slice aF F.length cF, .slice aL L.length cL]]⟩, ⟨26, 90, [90], fun vs _ => vs = [.int .i64 ck]⟩] (by kernel_rfl) (by kernel_rfl) ?_ ?_ ?_
            · simp only [All]
              refine ⟨fun _ _ _ _ h => h, fun _ _ _ _ h => h, fun _ _ _ _ h => h, fun _ _ _ _ h => h, fun _ _ _ _ h => h, fun _ _ _ _ h => h, fun _ _ _ _ h => h, fun _ _ _ _ h => h, fun _ _ _ _ h => h, fun _ _ _ _ h => h, fun _ _ _ _ h => h, fun _ _ _ _ h => h, fun _ _ _ _ h => h, fun _ _ _ _ h => h, fun _ _ _ _ h => h, fun _ _ _ _ h => h, fun _ _ _ _ h => h, fun _ _ _ _ h => h, fun _ _ _ _ h => h, fun _ _ _ _ h => h, fun _ _ _ _ h => h, fun _ _ _ _ h => h, fun _ _ _ _ h => h, fun _ _ _ _ h => h, fun _ _ _ _ h => h, fun _ _ _ _ h => h, fun _ _ _ _ h => h, trivial⟩
            · simp only [All]
              refine ⟨?_, ?_, ?_, ?_, ?_, ?_, ?_, ?_, ?_, ?_, ?_, ?_, ?_, ?_, ?_, ?_, ?_, ?_, ?_, ?_, ?_, ?_, ?_, ?_, ?_, ?_, ?_, trivial⟩
              · intro o ho a' w' hb hfr hdep
                obtain rfl := Option.some.inj ho
                have g11 : a'.tmps[11]?.getD undef = .slice aX X.length cX := by have h := hfr 11 (by kernel_rfl); simpa using h
                clear ho hfr hdep
                go_wp2_with fail
                exact ⟨rfl, _, rfl, Below.refl _ _, rfl⟩
              · intro o ho a' w' hb hfr hdep
                obtain rfl := Option.some.inj ho
                have g12 : a'.tmps[12]?.getD undef = .slice (some ⟨ab, ao, none⟩) 2 2 := by have h := hfr 12 (by kernel_rfl); simpa using h
                clear ho hfr hdep
                go_wp2_with fail
                exact ⟨rfl, _, rfl, Below.refl _ _, rfl⟩
              · intro o ho a' w' hb hfr hdep
                obtain rfl := Option.some.inj ho
                have g13 : a'.tmps[13]?.getD undef = .int .i64 (k : Int) := by have h := hfr 13 (by kernel_rfl); simpa using h
                clear ho hfr hdep
                go_wp2_with fail
                exact ⟨rfl, _, rfl, Below.refl _ _, rfl⟩
              · intro o ho a' w' hb hfr hdep
                obtain rfl := Option.some.inj ho
                have g65 : a'.tmps[65]?.getD undef = .slice (some ⟨ab, ao, none⟩) 2 2 := by have h := hdep 1 _ rfl (by kernel_rfl); simpa using h
                have g66 : a'.tmps[66]?.getD undef = .int .i64 (k : Int) := by have h := hdep 2 _ rfl (by kernel_rfl); simpa using h
                clear ho hfr hdep
                go_wp2_with fail
                exact ⟨rfl, _, rfl, Below.refl _ _, rfl⟩
              · intro o ho a' w' hb hfr hdep
                obtain rfl := Option.some.inj ho
                have g67 : a'.tmps[67]?.getD undef = .pointer (some ⟨ab, ao + k, none⟩) := by have h := hdep 3 _ rfl (by kernel_rfl); simpa using h
                clear ho hfr hdep
                have hcl := hcv2 _ hb
                go_wp2_with fail
                exact ⟨rfl, _, rfl, Below.refl _ _, rfl⟩
              · intro o ho a' w' hb hfr hdep
                obtain rfl := Option.some.inj ho
                have g18 : a'.tmps[18]?.getD undef = .slice (some ⟨B, 0, none⟩) 4 4 := by have h := hfr 18 (by kernel_rfl); simpa using h
                clear ho hfr hdep
                go_wp2_with fail
                exact ⟨rfl, _, rfl, Below.refl _ _, rfl⟩
              · intro o ho a' w' hb hfr hdep
                obtain rfl := Option.some.inj ho
                have g19 : a'.tmps[19]?.getD undef = .int .i64 (i : Int) := by have h := hfr 19 (by kernel_rfl); simpa using h
                clear ho hfr hdep
                go_wp2_with fail
                exact ⟨rfl, _, rfl, Below.refl _ _, rfl⟩
              · intro o ho a' w' hb hfr hdep
                obtain rfl := Option.some.inj ho
                have g69 : a'.tmps[69]?.getD undef = .slice (some ⟨B, 0, none⟩) 4 4 := by have h := hdep 5 _ rfl (by kernel_rfl); simpa using h
                have g70 : a'.tmps[70]?.getD undef = .int .i64 (i : Int) := by have h := hdep 6 _ rfl (by kernel_rfl); simpa using h
                clear ho hfr hdep
                go_wp2_with fail
                exact ⟨rfl, _, rfl, Below.refl _ _, rfl⟩
              · intro o ho a' w' hb hfr hdep
                obtain rfl := Option.some.inj ho
                have g71 : a'.tmps[71]?.getD undef = .pointer (some ⟨B, i * 2, none⟩) := by have h := hdep 7 _ rfl (by kernel_rfl); simpa using h
                clear ho hfr hdep
                go_wp2_with fail
                exact ⟨rfl, _, rfl, Below.refl _ _, rfl⟩
              · intro o ho a' w' hb hfr hdep
                obtain rfl := Option.some.inj ho
                have g72 : a'.tmps[72]?.getD undef = .pointer (some ⟨B, i * 2, none⟩) := by have h := hdep 8 _ rfl (by kernel_rfl); simpa using h
                clear ho hfr hdep
                have hcl := (hxB.under hb).at_ HQ1.out
                go_wp2_with fail
                exact ⟨rfl, _, rfl, Below.refl _ _, rfl⟩
              · intro o ho a' w' hb hfr hdep
                obtain rfl := Option.some.inj ho
                have g18 : a'.tmps[18]?.getD undef = .slice (some ⟨B, 0, none⟩) 4 4 := by have h := hfr 18 (by kernel_rfl); simpa using h
                clear ho hfr hdep
                go_wp2_with fail
                exact ⟨rfl, _, rfl, Below.refl _ _, rfl⟩
              · intro o ho a' w' hb hfr hdep
                obtain rfl := Option.some.inj ho
                have g19 : a'.tmps[19]?.getD undef = .int .i64 (i : Int) := by have h := hfr 19 (by kernel_rfl); simpa using h
                clear ho hfr hdep
                go_wp2_with fail
                exact ⟨rfl, _, rfl, Below.refl _ _, rfl⟩
              · intro o ho a' w' hb hfr hdep
                obtain rfl := Option.some.inj ho
                have g74 : a'.tmps[74]?.getD undef = .slice (some ⟨B, 0, none⟩) 4 4 := by have h := hdep 10 _ rfl (by kernel_rfl); simpa using h
                have g75 : a'.tmps[75]?.getD undef = .int .i64 (i : Int) := by have h := hdep 11 _ rfl (by kernel_rfl); simpa using h
                clear ho hfr hdep
                go_wp2_with fail
                exact ⟨rfl, _, rfl, Below.refl _ _, rfl⟩
              · intro o ho a' w' hb hfr hdep
                obtain rfl := Option.some.inj ho
                have g76 : a'.tmps[76]?.getD undef = .pointer (some ⟨B, i * 2, none⟩) := by have h := hdep 12 _ rfl (by kernel_rfl); simpa using h
                clear ho hfr hdep
                go_wp2_with fail
                exact ⟨rfl, _, rfl, Below.refl _ _, rfl⟩
              · intro o ho a' w' hb hfr hdep
                obtain rfl := Option.some.inj ho
                have g77 : a'.tmps[77]?.getD undef = .pointer (some ⟨B, i * 2 + 1, none⟩) := by have h := hdep 13 _ rfl (by kernel_rfl); simpa using h
                clear ho hfr hdep
                have hcl := (hxB.under hb).at_ HQ2.out
                go_wp2_with fail
                exact ⟨rfl, _, rfl, Below.refl _ _, rfl⟩
              · intro o ho a' w' hb hfr hdep
                obtain rfl := Option.some.inj ho
                have g73 : a'.tmps[73]?.getD undef = .slice aF F.length cF := by have h := hdep 9 _ rfl (by kernel_rfl); simpa using h
                have g78 : a'.tmps[78]?.getD undef = .slice aL L.length cL := by have h := hdep 14 _ rfl (by kernel_rfl); simpa using h
                clear ho hfr hdep
                go_wp2_with fail
                exact ⟨rfl, _, rfl, Below.refl _ _, rfl⟩
              · intro o ho a' w' hb hfr hdep
                obtain rfl := Option.some.inj ho
                have g64 : a'.tmps[64]?.getD undef = .slice aX X.length cX := by have h := hdep 0 _ rfl (by kernel_rfl); simpa using h
                have g68 : a'.tmps[68]?.getD undef = .int .i64 v := by have h := hdep 4 _ rfl (by kernel_rfl); simpa using h
                have g79 : a'.tmps[79]?.getD undef = .agg #[.slice aF F.length cF, .slice aL L.length cL] := by have h := hdep 15 _ rfl (by kernel_rfl); simpa using h
                clear ho hfr hdep
                go_wp2_with fail
                refine (hchk _ hb).mono ?_
                rintro e w4 ⟨rfl, h4⟩
                go_wp2_with fail
                exact ⟨rfl, _, rfl, h4, rfl⟩
              · intro o ho a' w' hb hfr hdep
                obtain rfl := Option.some.inj ho
                have g11 : a'.tmps[11]?.getD undef = .slice aX X.length cX := by have h := hfr 11 (by kernel_rfl); simpa using h
                clear ho hfr hdep
                go_wp2_with fail
                exact ⟨rfl, _, rfl, Below.refl _ _, rfl⟩
              · intro o ho a' w' hb hfr hdep
                obtain rfl := Option.some.inj ho
                have g12 : a'.tmps[12]?.getD undef = .slice (some ⟨ab, ao, none⟩) 2 2 := by have h := hfr 12 (by kernel_rfl); simpa using h
                clear ho hfr hdep
                go_wp2_with fail
                exact ⟨rfl, _, rfl, Below.refl _ _, rfl⟩
              · intro o ho a' w' hb hfr hdep
                obtain rfl := Option.some.inj ho
                have g13 : a'.tmps[13]?.getD undef = .int .i64 (k : Int) := by have h := hfr 13 (by kernel_rfl); simpa using h
                clear ho hfr hdep
                go_wp2_with fail
                exact ⟨rfl, _, rfl, Below.refl _ _, rfl⟩
              · intro o ho a' w' hb hfr hdep
                obtain rfl := Option.some.inj ho
                have g82 : a'.tmps[82]?.getD undef = .slice (some ⟨ab, ao, none⟩) 2 2 := by have h := hdep 18 _ rfl (by kernel_rfl); simpa using h
                have g83 : a'.tmps[83]?.getD undef = .int .i64 (k : Int) := by have h := hdep 19 _ rfl (by kernel_rfl); simpa using h
                clear ho hfr hdep
                go_wp2_with fail
                exact ⟨rfl, _, rfl, Below.refl _ _, rfl⟩
              · intro o ho a' w' hb hfr hdep
                obtain rfl := Option.some.inj ho
                have g84 : a'.tmps[84]?.getD undef = .pointer (some ⟨ab, ao + k, none⟩) := by have h := hdep 20 _ rfl (by kernel_rfl); simpa using h
                clear ho hfr hdep
                have hcl := hcv2 _ hb
                go_wp2_with fail
                exact ⟨rfl, _, rfl, Below.refl _ _, rfl⟩
              · intro o ho a' w' hb hfr hdep
                obtain rfl := Option.some.inj ho
                have g18 : a'.tmps[18]?.getD undef = .slice (some ⟨B, 0, none⟩) 4 4 := by have h := hfr 18 (by kernel_rfl); simpa using h
                clear ho hfr hdep
                go_wp2_with fail
                exact ⟨rfl, _, rfl, Below.refl _ _, rfl⟩
              · intro o ho a' w' hb hfr hdep
                obtain rfl := Option.some.inj ho
                have g19 : a'.tmps[19]?.getD undef = .int .i64 (i : Int) := by have h := hfr 19 (by kernel_rfl); simpa using h
                clear ho hfr hdep
                go_wp2_with fail
                exact ⟨rfl, _, rfl, Below.refl _ _, rfl⟩
              · intro o ho a' w' hb hfr hdep
                obtain rfl := Option.some.inj ho
                have g86 : a'.tmps[86]?.getD undef = .slice (some ⟨B, 0, none⟩) 4 4 := by have h := hdep 22 _ rfl (by kernel_rfl); simpa using h
                have g87 : a'.tmps[87]?.getD undef = .int .i64 (i : Int) := by have h := hdep 23 _ rfl (by kernel_rfl); simpa using h
                clear ho hfr hdep
                go_wp2_with fail
                exact ⟨rfl, _, rfl, Below.refl _ _, rfl⟩
              · intro o ho a' w' hb hfr hdep
                obtain rfl := Option.some.inj ho
                have g88 : a'.tmps[88]?.getD undef = .pointer (some ⟨B, i * 2, none⟩) := by have h := hdep 24 _ rfl (by kernel_rfl); simpa using h
                clear ho hfr hdep
                refine load_box 89 35 _ 35 B (i * 2) cs [.slice aF F.length cF, .slice aL L.length cL] isAgg_rcert (size_rcert _ _) (hxB.under hb) (by show a'.tmps.getD 88 undef = _; simpa using g88) (fun j u hj => by rcases j with _ | _ | j; exact HQ1.out.trans hj; exact HQ2.out.trans hj; simp at hj) ?_
                go_wp2
                exact ⟨rfl, _, rfl, Below.refl _ _, rfl⟩
              · intro o ho a' w' hb hfr hdep
                obtain rfl := Option.some.inj ho
                have g81 : a'.tmps[81]?.getD undef = .slice aX X.length cX := by have h := hdep 17 _ rfl (by kernel_rfl); simpa using h
                have g85 : a'.tmps[85]?.getD undef = .int .i64 v := by have h := hdep 21 _ rfl (by kernel_rfl); simpa using h
                have g89 : a'.tmps[89]?.getD undef = .agg #[.slice aF F.length cF, .slice aL L.length cL] := by have h := hdep 25 _ rfl (by kernel_rfl); simpa using h
                clear ho hfr hdep
                go_wp2_with fail
                refine (hchr _ hb).mono ?_
                rintro e w4 ⟨rfl, h4⟩
                go_wp2_with fail
                exact ⟨rfl, _, rfl, h4, rfl⟩
            · intro g w4 hb4 hp4
              have p80 := hp4 16 _ rfl
              have p90 := hp4 26 _ rfl
              clear hp4
              simp at p80 p90
              simp only [List.drop_succ_cons, List.drop_zero, List.map_cons, List.map_nil, putAll, Act.put, List.setIfInBounds_toArray, List.set_cons_succ, List.set_cons_zero, p80, p90]
              clear p80 p90
              go_wp2_with fail
              go_roundg (4 - (i + 1))
              case measure => have := HG2.out; omega
              case rel => exact ⟨i + 1, by omega, rfl, by go_num, hbi.trans (hb4.mono hbi.size)⟩
          · obtain rfl : 4 = i := by omega
            have hb3r := hbk9.trans (hbi.mono hbk9.size)
            have hcl0 : wr.cell? ⟨ab, ao + k, none⟩ = some (.int .i64 v) := by rw [hb3r.cell hab]; exact HCV.out
            have hL1 : Calls Try.prog 10 #[.slice aX X.length cX, .int .i64 v] wr (GivesLay P F0 Ls E wr) := by
              have := lay_any HLAY.out hsX aX X.length cX wr (hp3.below hb3r)
              rw [HE.out] at this; exact this
            clear hx15_9 hs15F9 hs15L9 hb79 hCX9
            go_wp2_with fail
            refine hL1.mono ?_
            rintro e w10 ⟨ap1, cp1, hsp1, a5, c5, a6, c6, rfl, _, hF10, hL10, hb10⟩
            have hx21 := Box.new w10 31 #[.slice a5 F0.length c5, .slice a6 Ls.length c6]
            have hb11 := blo w10 (.cells #[.slice a5 F0.length c5, .slice a6 Ls.length c6] 31)
            have hF11 := hF10.below hb11
            have hL11 := hL10.below hb11
            have hb311 := hb3r.trans ((hb10.trans (hb11.mono hb10.size)).mono hb3r.size)
            clear hL1 hcl0 hF10 hL10 hb10 hb11 hb3r hbi
            go_upto_region 15 with fail
            generalize w10.alloc (.cells #[.slice a5 F0.length c5, .slice a6 Ls.length c6] 31) = w11 at *
            generalize w10.heap.size = b21 at *
            have hcv3 : ∀ w', Below w11.heap.size w11 w' → w'.cell? ⟨ab, ao + k, none⟩ = some (.int .i64 v) := fun w' h => by
              have hb := hb311.trans (h.mono hb311.size)
              rw [hb.cell hab]
              exact HCV.out
            have hchk := fun (F L : List Int) (aF aL : Option Addr) (nF cF nL cL : Nat) (w' : World) (h : Below w11.heap.size w11 w') hF hL hFl hLl => tab_check_any HLAY.out hsX aX X.length cX F L aF aL nF cF nL cL w' (hp3.below (hb311.trans (h.mono hb311.size))) hF hL hFl hLl
            by_cases hE0 : E = 0
            case neg =>
              have hE1 : (E == 0) = false := by simp [hE0]
              have hE2 : (E != 0) = true := by simp [hE0]
              have hEE : (E != E) = false := by simp
              clear hE0
              refine wp_region_free 22 [⟨0, 102, [102], fun vs _ => vs = [.int .i64 E]⟩, ⟨1, 103, [103], fun vs _ => vs = [.int .i64 E]⟩, ⟨2, 104, [104], fun vs _ => vs = [.bool false]⟩, ⟨3, 105, [105], fun vs _ => vs = [.bool false]⟩, ⟨4, 106, [106], fun vs _ => vs = [.int .i64 E]⟩, ⟨5, 107, [107], fun vs _ => vs = [.bool false]⟩, ⟨6, 108, [108], fun vs _ => vs = [.bool false]⟩, ⟨7, 109, [109], fun vs _ => vs = [undef]⟩, ⟨8, 110, [110], fun vs _ => vs = [undef]⟩, ⟨9, 111, [111], fun vs _ => vs = [undef]⟩, ⟨10, 112, [112], fun vs _ => vs = [undef]⟩, ⟨11, 113, [113], fun vs _ => vs = [undef]⟩, ⟨12, 114, [114], fun vs _ => vs = [undef]⟩, ⟨13, 115, [115], fun vs _ => vs = [undef]⟩, ⟨14, 116, [116], fun vs _ => vs = [undef]⟩, ⟨15, 117, [117], fun vs _ => vs = [undef]⟩, ⟨16, 118, [118], fun vs _ => vs = [undef]⟩, ⟨17, 119, [119], fun vs _ => vs = [undef]⟩, ⟨18, 120, [120], fun vs _ => vs = [undef]⟩, ⟨19, 121, [121], fun vs _ => vs = [undef]⟩, ⟨20, 122, [122], fun vs _ => vs = [undef]⟩, ⟨21, 123, [123], fun vs _ => vs = [.bool false]⟩] (by kernel_rfl) (by kernel_rfl) ?_ ?_ ?_
              · simp only [All]
                refine ⟨fun _ _ _ _ h => h, fun _ _ _ _ h => h, fun _ _ _ _ h => h, fun _ _ _ _ h => h, fun _ _ _ _ h => h, fun _ _ _ _ h => h, fun _ _ _ _ h => h, fun _ _ _ _ h => h, fun _ _ _ _ h => h, fun _ _ _ _ h => h, fun _ _ _ _ h => h, fun _ _ _ _ h => h, fun _ _ _ _ h => h, fun _ _ _ _ h => h, fun _ _ _ _ h => h, fun _ _ _ _ h => h, fun _ _ _ _ h => h, fun _ _ _ _ h => h, fun _ _ _ _ h => h, fun _ _ _ _ h => h, fun _ _ _ _ h => h, fun _ _ _ _ h => h, trivial⟩
              · simp only [All]
                refine ⟨?_, ?_, ?_, ?_, ?_, ?_, ?_, ?_, ?_, ?_, ?_, ?_, ?_, ?_, ?_, ?_, ?_, ?_, ?_, ?_, ?_, ?_, trivial⟩
                · intro o ho a' w' hb hfr hdep
                  obtain rfl := Option.some.inj ho
                  have g16 : a'.tmps[16]?.getD undef = .int .i64 E := by have h := hfr 16 (by kernel_rfl); simpa using h
                  clear ho hfr hdep
                  go_wp2_with fail
                  exact ⟨rfl, _, rfl, Below.refl _ _, rfl⟩
                · intro o ho a' w' hb hfr hdep
                  obtain rfl := Option.some.inj ho
                  have g22 : a'.tmps[22]?.getD undef = .int .i64 E := by have h := hfr 22 (by kernel_rfl); simpa using h
                  clear ho hfr hdep
                  go_wp2_with fail
                  exact ⟨rfl, _, rfl, Below.refl _ _, rfl⟩
                · intro o ho a' w' hb hfr hdep
                  obtain rfl := Option.some.inj ho
                  have g102 : a'.tmps[102]?.getD undef = .int .i64 E := by have h := hdep 0 _ rfl (by kernel_rfl); simpa using h
                  have g103 : a'.tmps[103]?.getD undef = .int .i64 E := by have h := hdep 1 _ rfl (by kernel_rfl); simpa using h
                  clear ho hfr hdep
                  go_wp2_with fail
                  exact ⟨rfl, _, rfl, Below.refl _ _, rfl⟩
                · intro o ho a' w' hb hfr hdep
                  obtain rfl := Option.some.inj ho
                  have g104 : a'.tmps[104]?.getD undef = .bool false := by have h := hdep 2 _ rfl (by kernel_rfl); simpa using h
                  clear ho hfr hdep
                  go_wp2_with fail
                  exact ⟨rfl, _, rfl, Below.refl _ _, rfl⟩
                · intro o ho a' w' hb hfr hdep
                  obtain rfl := Option.some.inj ho
                  have g16 : a'.tmps[16]?.getD undef = .int .i64 E := by have h := hfr 16 (by kernel_rfl); simpa using h
                  have g105 : a'.tmps[105]?.getD undef = .bool false := by have h := hdep 3 _ rfl (by kernel_rfl); simpa using h
                  have q105 := opt_bool g105
                  clear ho hfr hdep
                  go_wp2_with fail
                  exact ⟨rfl, _, rfl, Below.refl _ _, rfl⟩
                · intro o ho a' w' hb hfr hdep
                  obtain rfl := Option.some.inj ho
                  have g106 : a'.tmps[106]?.getD undef = .int .i64 E := by have h := hdep 4 _ rfl (by kernel_rfl); simpa using h
                  have g105 : a'.tmps[105]?.getD undef = .bool false := by have h := hdep 3 _ rfl (by kernel_rfl); simpa using h
                  have q105 := opt_bool g105
                  clear ho hfr hdep
                  go_wp2_with fail
                  exact ⟨rfl, _, rfl, Below.refl _ _, rfl⟩
                · intro o ho a' w' hb hfr hdep
                  obtain rfl := Option.some.inj ho
                  have g107 : a'.tmps[107]?.getD undef = .bool false := by have h := hdep 5 _ rfl (by kernel_rfl); simpa using h
                  have g105 : a'.tmps[105]?.getD undef = .bool false := by have h := hdep 3 _ rfl (by kernel_rfl); simpa using h
                  have q105 := opt_bool g105
                  clear ho hfr hdep
                  go_wp2_with fail
                  exact ⟨rfl, _, rfl, Below.refl _ _, rfl⟩
                · intro o ho a' w' hb hfr hdep
                  obtain rfl := Option.some.inj ho
                  have g108 : a'.tmps[108]?.getD undef = .bool false := by have h := hdep 6 _ rfl (by kernel_rfl); simpa using h
                  have q108 := opt_bool g108
                  clear ho hfr hdep
                  go_wp2_with fail
                  exact ⟨rfl, _, rfl, Below.refl _ _, rfl⟩
                · intro o ho a' w' hb hfr hdep
                  obtain rfl := Option.some.inj ho
                  have g108 : a'.tmps[108]?.getD undef = .bool false := by have h := hdep 6 _ rfl (by kernel_rfl); simpa using h
                  have q108 := opt_bool g108
                  clear ho hfr hdep
                  go_wp2_with fail
                  exact ⟨rfl, _, rfl, Below.refl _ _, rfl⟩
                · intro o ho a' w' hb hfr hdep
                  obtain rfl := Option.some.inj ho
                  have g108 : a'.tmps[108]?.getD undef = .bool false := by have h := hdep 6 _ rfl (by kernel_rfl); simpa using h
                  have q108 := opt_bool g108
                  clear ho hfr hdep
                  go_wp2_with fail
                  exact ⟨rfl, _, rfl, Below.refl _ _, rfl⟩
                · intro o ho a' w' hb hfr hdep
                  obtain rfl := Option.some.inj ho
                  have g108 : a'.tmps[108]?.getD undef = .bool false := by have h := hdep 6 _ rfl (by kernel_rfl); simpa using h
                  have q108 := opt_bool g108
                  clear ho hfr hdep
                  go_wp2_with fail
                  exact ⟨rfl, _, rfl, Below.refl _ _, rfl⟩
                · intro o ho a' w' hb hfr hdep
                  obtain rfl := Option.some.inj ho
                  have g108 : a'.tmps[108]?.getD undef = .bool false := by have h := hdep 6 _ rfl (by kernel_rfl); simpa using h
                  have q108 := opt_bool g108
                  clear ho hfr hdep
                  go_wp2_with fail
                  exact ⟨rfl, _, rfl, Below.refl _ _, rfl⟩
                · intro o ho a' w' hb hfr hdep
                  obtain rfl := Option.some.inj ho
                  have g108 : a'.tmps[108]?.getD undef = .bool false := by have h := hdep 6 _ rfl (by kernel_rfl); simpa using h
                  have q108 := opt_bool g108
                  clear ho hfr hdep
                  go_wp2_with fail
                  exact ⟨rfl, _, rfl, Below.refl _ _, rfl⟩
                · intro o ho a' w' hb hfr hdep
                  obtain rfl := Option.some.inj ho
                  have g108 : a'.tmps[108]?.getD undef = .bool false := by have h := hdep 6 _ rfl (by kernel_rfl); simpa using h
                  have q108 := opt_bool g108
                  clear ho hfr hdep
                  go_wp2_with fail
                  exact ⟨rfl, _, rfl, Below.refl _ _, rfl⟩
                · intro o ho a' w' hb hfr hdep
                  obtain rfl := Option.some.inj ho
                  have g108 : a'.tmps[108]?.getD undef = .bool false := by have h := hdep 6 _ rfl (by kernel_rfl); simpa using h
                  have q108 := opt_bool g108
                  clear ho hfr hdep
                  go_wp2_with fail
                  exact ⟨rfl, _, rfl, Below.refl _ _, rfl⟩
                · intro o ho a' w' hb hfr hdep
                  obtain rfl := Option.some.inj ho
                  have g108 : a'.tmps[108]?.getD undef = .bool false := by have h := hdep 6 _ rfl (by kernel_rfl); simpa using h
                  have q108 := opt_bool g108
                  clear ho hfr hdep
                  go_wp2_with fail
                  exact ⟨rfl, _, rfl, Below.refl _ _, rfl⟩
                · intro o ho a' w' hb hfr hdep
                  obtain rfl := Option.some.inj ho
                  have g117 : a'.tmps[117]?.getD undef = undef := by have h := hdep 15 _ rfl (by kernel_rfl); simpa using h
                  clear ho hfr hdep
                  have hsk : a'.tmps[117]? = none ∨ a'.tmps[117]? = some undef := by
                    cases hq : a'.tmps[117]? with
                    | none => exact .inl rfl
                    | some v => right; rw [hq] at g117; exact congrArg some g117
                  rcases hsk with hsk | hsk
                  · refine wpList_skip (by simp [Region.wanted, yielded, hsk]) ?_
                    exact ⟨rfl, _, rfl, Below.refl _ _, rfl⟩
                  · refine wpList_skip (by simp [Region.wanted, yielded, hsk, undef]) ?_
                    exact ⟨rfl, _, rfl, Below.refl _ _, rfl⟩
                · intro o ho a' w' hb hfr hdep
                  obtain rfl := Option.some.inj ho
                  have g117 : a'.tmps[117]?.getD undef = undef := by have h := hdep 15 _ rfl (by kernel_rfl); simpa using h
                  clear ho hfr hdep
                  have hsk : a'.tmps[117]? = none ∨ a'.tmps[117]? = some undef := by
                    cases hq : a'.tmps[117]? with
                    | none => exact .inl rfl
                    | some v => right; rw [hq] at g117; exact congrArg some g117
                  rcases hsk with hsk | hsk
                  · refine wpList_skip (by simp [Region.wanted, yielded, hsk]) ?_
                    exact ⟨rfl, _, rfl, Below.refl _ _, rfl⟩
                  · refine wpList_skip (by simp [Region.wanted, yielded, hsk, undef]) ?_
                    exact ⟨rfl, _, rfl, Below.refl _ _, rfl⟩
                · intro o ho a' w' hb hfr hdep
                  obtain rfl := Option.some.inj ho
                  have g117 : a'.tmps[117]?.getD undef = undef := by have h := hdep 15 _ rfl (by kernel_rfl); simpa using h
                  clear ho hfr hdep
                  have hsk : a'.tmps[117]? = none ∨ a'.tmps[117]? = some undef := by
                    cases hq : a'.tmps[117]? with
                    | none => exact .inl rfl
                    | some v => right; rw [hq] at g117; exact congrArg some g117
                  rcases hsk with hsk | hsk
                  · refine wpList_skip (by simp [Region.wanted, yielded, hsk]) ?_
                    exact ⟨rfl, _, rfl, Below.refl _ _, rfl⟩
                  · refine wpList_skip (by simp [Region.wanted, yielded, hsk, undef]) ?_
                    exact ⟨rfl, _, rfl, Below.refl _ _, rfl⟩
                · intro o ho a' w' hb hfr hdep
                  obtain rfl := Option.some.inj ho
                  have g117 : a'.tmps[117]?.getD undef = undef := by have h := hdep 15 _ rfl (by kernel_rfl); simpa using h
                  clear ho hfr hdep
                  have hsk : a'.tmps[117]? = none ∨ a'.tmps[117]? = some undef := by
                    cases hq : a'.tmps[117]? with
                    | none => exact .inl rfl
                    | some v => right; rw [hq] at g117; exact congrArg some g117
                  rcases hsk with hsk | hsk
                  · refine wpList_skip (by simp [Region.wanted, yielded, hsk]) ?_
                    exact ⟨rfl, _, rfl, Below.refl _ _, rfl⟩
                  · refine wpList_skip (by simp [Region.wanted, yielded, hsk, undef]) ?_
                    exact ⟨rfl, _, rfl, Below.refl _ _, rfl⟩
                · intro o ho a' w' hb hfr hdep
                  obtain rfl := Option.some.inj ho
                  have g108 : a'.tmps[108]?.getD undef = .bool false := by have h := hdep 6 _ rfl (by kernel_rfl); simpa using h
                  have q108 := opt_bool g108
                  clear ho hfr hdep
                  go_wp2_with fail
                  exact ⟨rfl, _, rfl, Below.refl _ _, rfl⟩
                · intro o ho a' w' hb hfr hdep
                  obtain rfl := Option.some.inj ho
                  have g108 : a'.tmps[108]?.getD undef = .bool false := by have h := hdep 6 _ rfl (by kernel_rfl); simpa using h
                  have g122 : a'.tmps[122]?.getD undef = undef := by have h := hdep 20 _ rfl (by kernel_rfl); simpa using h
                  have g105 : a'.tmps[105]?.getD undef = .bool false := by have h := hdep 3 _ rfl (by kernel_rfl); simpa using h
                  have q105 := opt_bool g105
                  clear ho hfr hdep
                  go_wp2_with fail
                  exact ⟨rfl, _, rfl, Below.refl _ _, rfl⟩
              · intro g w13 hb13 hp13
                have p105 := hp13 3 _ rfl
                have p123 := hp13 21 _ rfl
                clear hp13
                simp at p105 p123
                simp only [List.drop_succ_cons, List.drop_zero, List.map_cons, List.map_nil, putAll, Act.put, List.setIfInBounds_toArray, List.set_cons_succ, List.set_cons_zero, p105, p123]
                clear p105 p123
                have hb3z := hb311.trans (hb13.mono hb311.size)
                go_wp2_with fail
                go_roundg (2 - (k + 1))
                case measure => have := HG.out; omega
                case rel => exact ⟨k + 1, by omega, rfl, by go_num, hb3z⟩
            case pos =>
              subst hE0
              have hown := chk_own HLAY.out HE.out
              have hck := hown.1
              have hll := hown.2
              have hlp : 1 ≤ Ls.length := by rw [hll]; exact HX.c1
              have HCK := hide hck
              have HLL := hide hll
              clear hown hck hll
              refine wp_region_free 22 [⟨0, 102, [102], fun vs _ => vs = [.int .i64 0]⟩, ⟨1, 103, [103], fun vs _ => vs = [.int .i64 0]⟩, ⟨2, 104, [104], fun vs _ => vs = [.bool false]⟩, ⟨3, 105, [105], fun vs _ => vs = [.bool false]⟩, ⟨4, 106, [106], fun vs _ => vs = [.int .i64 0]⟩, ⟨5, 107, [107], fun vs _ => vs = [.bool true]⟩, ⟨6, 108, [108], fun vs _ => vs = [.bool true]⟩, ⟨7, 109, [109], fun vs _ => vs = [.slice aX X.length cX]⟩, ⟨8, 110, [110], fun vs _ => vs = [.slice (some ⟨ab, ao, none⟩) 2 2]⟩, ⟨9, 111, [111], fun vs _ => vs = [.int .i64 (k : Int)]⟩, ⟨10, 112, [112], fun vs _ => vs = [.pointer (some ⟨ab, ao + k, none⟩)]⟩, ⟨11, 113, [113], fun vs _ => vs = [.int .i64 v]⟩, ⟨12, 114, [114], fun vs _ => vs = [.agg #[.slice a5 F0.length c5, .slice a6 Ls.length c6]]⟩, ⟨13, 115, [115], fun vs _ => vs = [.int .i64 0]⟩, ⟨14, 116, [116], fun vs _ => vs = [.bool false]⟩, ⟨15, 117, [117], fun vs _ => vs = [.bool false]⟩, ⟨16, 118, [118], fun vs _ => vs = [.pointer (some ⟨b21, 1, none⟩)]⟩, ⟨17, 119, [119], fun vs _ => vs = [.slice a6 Ls.length c6]⟩, ⟨18, 120, [120], fun vs _ => vs = [.int .i64 (Ls.length : Int)]⟩, ⟨19, 121, [121], fun vs _ => vs = [.bool false]⟩, ⟨20, 122, [122], fun vs _ => vs = [.bool false]⟩, ⟨21, 123, [123], fun vs _ => vs = [.bool false]⟩] (by kernel_rfl) (by kernel_rfl) ?_ ?_ ?_
              · simp only [All]
                refine ⟨fun _ _ _ _ h => h, fun _ _ _ _ h => h, fun _ _ _ _ h => h, fun _ _ _ _ h => h, fun _ _ _ _ h => h, fun _ _ _ _ h => h, fun _ _ _ _ h => h, fun _ _ _ _ h => h, fun _ _ _ _ h => h, fun _ _ _ _ h => h, fun _ _ _ _ h => h, fun _ _ _ _ h => h, fun _ _ _ _ h => h, fun _ _ _ _ h => h, fun _ _ _ _ h => h, fun _ _ _ _ h => h, fun _ _ _ _ h => h, fun _ _ _ _ h => h, fun _ _ _ _ h => h, fun _ _ _ _ h => h, fun _ _ _ _ h => h, fun _ _ _ _ h => h, trivial⟩
              · simp only [All]
                refine ⟨?_, ?_, ?_, ?_, ?_, ?_, ?_, ?_, ?_, ?_, ?_, ?_, ?_, ?_, ?_, ?_, ?_, ?_, ?_, ?_, ?_, ?_, trivial⟩
                · intro o ho a' w' hb hfr hdep
                  obtain rfl := Option.some.inj ho
                  have g16 : a'.tmps[16]?.getD undef = .int .i64 0 := by have h := hfr 16 (by kernel_rfl); simpa using h
                  clear ho hfr hdep
                  go_wp2_with fail
                  exact ⟨rfl, _, rfl, Below.refl _ _, rfl⟩
                · intro o ho a' w' hb hfr hdep
                  obtain rfl := Option.some.inj ho
                  have g22 : a'.tmps[22]?.getD undef = .int .i64 0 := by have h := hfr 22 (by kernel_rfl); simpa using h
                  clear ho hfr hdep
                  go_wp2_with fail
                  exact ⟨rfl, _, rfl, Below.refl _ _, rfl⟩
                · intro o ho a' w' hb hfr hdep
                  obtain rfl := Option.some.inj ho
                  have g102 : a'.tmps[102]?.getD undef = .int .i64 0 := by have h := hdep 0 _ rfl (by kernel_rfl); simpa using h
                  have g103 : a'.tmps[103]?.getD undef = .int .i64 0 := by have h := hdep 1 _ rfl (by kernel_rfl); simpa using h
                  clear ho hfr hdep
                  go_wp2_with fail
                  exact ⟨rfl, _, rfl, Below.refl _ _, rfl⟩
                · intro o ho a' w' hb hfr hdep
                  obtain rfl := Option.some.inj ho
                  have g104 : a'.tmps[104]?.getD undef = .bool false := by have h := hdep 2 _ rfl (by kernel_rfl); simpa using h
                  clear ho hfr hdep
                  go_wp2_with fail
                  exact ⟨rfl, _, rfl, Below.refl _ _, rfl⟩
                · intro o ho a' w' hb hfr hdep
                  obtain rfl := Option.some.inj ho
                  have g16 : a'.tmps[16]?.getD undef = .int .i64 0 := by have h := hfr 16 (by kernel_rfl); simpa using h
                  have g105 : a'.tmps[105]?.getD undef = .bool false := by have h := hdep 3 _ rfl (by kernel_rfl); simpa using h
                  have q105 := opt_bool g105
                  clear ho hfr hdep
                  go_wp2_with fail
                  exact ⟨rfl, _, rfl, Below.refl _ _, rfl⟩
                · intro o ho a' w' hb hfr hdep
                  obtain rfl := Option.some.inj ho
                  have g106 : a'.tmps[106]?.getD undef = .int .i64 0 := by have h := hdep 4 _ rfl (by kernel_rfl); simpa using h
                  have g105 : a'.tmps[105]?.getD undef = .bool false := by have h := hdep 3 _ rfl (by kernel_rfl); simpa using h
                  have q105 := opt_bool g105
                  clear ho hfr hdep
                  go_wp2_with fail
                  exact ⟨rfl, _, rfl, Below.refl _ _, rfl⟩
                · intro o ho a' w' hb hfr hdep
                  obtain rfl := Option.some.inj ho
                  have g107 : a'.tmps[107]?.getD undef = .bool true := by have h := hdep 5 _ rfl (by kernel_rfl); simpa using h
                  have g105 : a'.tmps[105]?.getD undef = .bool false := by have h := hdep 3 _ rfl (by kernel_rfl); simpa using h
                  have q105 := opt_bool g105
                  clear ho hfr hdep
                  go_wp2_with fail
                  exact ⟨rfl, _, rfl, Below.refl _ _, rfl⟩
                · intro o ho a' w' hb hfr hdep
                  obtain rfl := Option.some.inj ho
                  have g11 : a'.tmps[11]?.getD undef = .slice aX X.length cX := by have h := hfr 11 (by kernel_rfl); simpa using h
                  have g108 : a'.tmps[108]?.getD undef = .bool true := by have h := hdep 6 _ rfl (by kernel_rfl); simpa using h
                  have q108 := opt_bool g108
                  clear ho hfr hdep
                  go_wp2_with fail
                  exact ⟨rfl, _, rfl, Below.refl _ _, rfl⟩
                · intro o ho a' w' hb hfr hdep
                  obtain rfl := Option.some.inj ho
                  have g12 : a'.tmps[12]?.getD undef = .slice (some ⟨ab, ao, none⟩) 2 2 := by have h := hfr 12 (by kernel_rfl); simpa using h
                  have g108 : a'.tmps[108]?.getD undef = .bool true := by have h := hdep 6 _ rfl (by kernel_rfl); simpa using h
                  have q108 := opt_bool g108
                  clear ho hfr hdep
                  go_wp2_with fail
                  exact ⟨rfl, _, rfl, Below.refl _ _, rfl⟩
                · intro o ho a' w' hb hfr hdep
                  obtain rfl := Option.some.inj ho
                  have g13 : a'.tmps[13]?.getD undef = .int .i64 (k : Int) := by have h := hfr 13 (by kernel_rfl); simpa using h
                  have g108 : a'.tmps[108]?.getD undef = .bool true := by have h := hdep 6 _ rfl (by kernel_rfl); simpa using h
                  have q108 := opt_bool g108
                  clear ho hfr hdep
                  go_wp2_with fail
                  exact ⟨rfl, _, rfl, Below.refl _ _, rfl⟩
                · intro o ho a' w' hb hfr hdep
                  obtain rfl := Option.some.inj ho
                  have g110 : a'.tmps[110]?.getD undef = .slice (some ⟨ab, ao, none⟩) 2 2 := by have h := hdep 8 _ rfl (by kernel_rfl); simpa using h
                  have g111 : a'.tmps[111]?.getD undef = .int .i64 (k : Int) := by have h := hdep 9 _ rfl (by kernel_rfl); simpa using h
                  have g108 : a'.tmps[108]?.getD undef = .bool true := by have h := hdep 6 _ rfl (by kernel_rfl); simpa using h
                  have q108 := opt_bool g108
                  clear ho hfr hdep
                  go_wp2_with fail
                  exact ⟨rfl, _, rfl, Below.refl _ _, rfl⟩
                · intro o ho a' w' hb hfr hdep
                  obtain rfl := Option.some.inj ho
                  have g112 : a'.tmps[112]?.getD undef = .pointer (some ⟨ab, ao + k, none⟩) := by have h := hdep 10 _ rfl (by kernel_rfl); simpa using h
                  have g108 : a'.tmps[108]?.getD undef = .bool true := by have h := hdep 6 _ rfl (by kernel_rfl); simpa using h
                  have q108 := opt_bool g108
                  clear ho hfr hdep
                  have hcl := hcv3 _ hb
                  go_wp2_with fail
                  exact ⟨rfl, _, rfl, Below.refl _ _, rfl⟩
                · intro o ho a' w' hb hfr hdep
                  obtain rfl := Option.some.inj ho
                  have g21 : a'.tmps[21]?.getD undef = .pointer (some ⟨b21, 0, none⟩) := by have h := hfr 21 (by kernel_rfl); simpa using h
                  have g108 : a'.tmps[108]?.getD undef = .bool true := by have h := hdep 6 _ rfl (by kernel_rfl); simpa using h
                  have q108 := opt_bool g108
                  clear ho hfr hdep
                  refine load_box_g 114 31 _ 31 b21 0 _ [.slice a5 F0.length c5, .slice a6 Ls.length c6] isAgg_tcert (size_tcert _ _) (hx21.under hb) (by show a'.tmps.getD 21 undef = _; simpa using g21) (fun j u hj => by rw [Nat.zero_add]; exact hj) (by simp [Region.wanted, yielded, q108]) ?_
                  go_wp2
                  exact ⟨rfl, _, rfl, Below.refl _ _, rfl⟩
                · intro o ho a' w' hb hfr hdep
                  obtain rfl := Option.some.inj ho
                  have g109 : a'.tmps[109]?.getD undef = .slice aX X.length cX := by have h := hdep 7 _ rfl (by kernel_rfl); simpa using h
                  have g113 : a'.tmps[113]?.getD undef = .int .i64 v := by have h := hdep 11 _ rfl (by kernel_rfl); simpa using h
                  have g114 : a'.tmps[114]?.getD undef = .agg #[.slice a5 F0.length c5, .slice a6 Ls.length c6] := by have h := hdep 12 _ rfl (by kernel_rfl); simpa using h
                  have g108 : a'.tmps[108]?.getD undef = .bool true := by have h := hdep 6 _ rfl (by kernel_rfl); simpa using h
                  have q108 := opt_bool g108
                  clear ho hfr hdep
                  have hc0 := hchk (ints F0) (ints Ls) a5 a6 F0.length c5 Ls.length c6 w' hb (hF11.below hb) (hL11.below hb) (by rw [HI1.out]; omega) (by rw [HI2.out]; omega)
                  rw [HCK.out] at hc0
                  go_wp2_with fail
                  refine hc0.mono ?_
                  rintro e w4 ⟨rfl, h4⟩
                  go_wp2_with fail
                  exact ⟨rfl, _, rfl, h4, rfl⟩
                · intro o ho a' w' hb hfr hdep
                  obtain rfl := Option.some.inj ho
                  have g115 : a'.tmps[115]?.getD undef = .int .i64 0 := by have h := hdep 13 _ rfl (by kernel_rfl); simpa using h
                  have g108 : a'.tmps[108]?.getD undef = .bool true := by have h := hdep 6 _ rfl (by kernel_rfl); simpa using h
                  have q108 := opt_bool g108
                  clear ho hfr hdep
                  go_wp2_with fail
                  exact ⟨rfl, _, rfl, Below.refl _ _, rfl⟩
                · intro o ho a' w' hb hfr hdep
                  obtain rfl := Option.some.inj ho
                  have g116 : a'.tmps[116]?.getD undef = .bool false := by have h := hdep 14 _ rfl (by kernel_rfl); simpa using h
                  have g108 : a'.tmps[108]?.getD undef = .bool true := by have h := hdep 6 _ rfl (by kernel_rfl); simpa using h
                  have q108 := opt_bool g108
                  clear ho hfr hdep
                  go_wp2_with fail
                  exact ⟨rfl, _, rfl, Below.refl _ _, rfl⟩
                · intro o ho a' w' hb hfr hdep
                  obtain rfl := Option.some.inj ho
                  have g21 : a'.tmps[21]?.getD undef = .pointer (some ⟨b21, 0, none⟩) := by have h := hfr 21 (by kernel_rfl); simpa using h
                  have g117 : a'.tmps[117]?.getD undef = .bool false := by have h := hdep 15 _ rfl (by kernel_rfl); simpa using h
                  have q117 := opt_bool g117
                  clear ho hfr hdep
                  go_wp2_with fail
                  exact ⟨rfl, _, rfl, Below.refl _ _, rfl⟩
                · intro o ho a' w' hb hfr hdep
                  obtain rfl := Option.some.inj ho
                  have g118 : a'.tmps[118]?.getD undef = .pointer (some ⟨b21, 1, none⟩) := by have h := hdep 16 _ rfl (by kernel_rfl); simpa using h
                  have g117 : a'.tmps[117]?.getD undef = .bool false := by have h := hdep 15 _ rfl (by kernel_rfl); simpa using h
                  have q117 := opt_bool g117
                  clear ho hfr hdep
                  have hcl := (hx21.under hb).at_ (j := 1) rfl
                  go_wp2_with fail
                  exact ⟨rfl, _, rfl, Below.refl _ _, rfl⟩
                · intro o ho a' w' hb hfr hdep
                  obtain rfl := Option.some.inj ho
                  have g119 : a'.tmps[119]?.getD undef = .slice a6 Ls.length c6 := by have h := hdep 17 _ rfl (by kernel_rfl); simpa using h
                  have g117 : a'.tmps[117]?.getD undef = .bool false := by have h := hdep 15 _ rfl (by kernel_rfl); simpa using h
                  have q117 := opt_bool g117
                  clear ho hfr hdep
                  go_wp2_with fail
                  exact ⟨rfl, _, rfl, Below.refl _ _, rfl⟩
                · intro o ho a' w' hb hfr hdep
                  obtain rfl := Option.some.inj ho
                  have g120 : a'.tmps[120]?.getD undef = .int .i64 (Ls.length : Int) := by have h := hdep 18 _ rfl (by kernel_rfl); simpa using h
                  have g117 : a'.tmps[117]?.getD undef = .bool false := by have h := hdep 15 _ rfl (by kernel_rfl); simpa using h
                  have q117 := opt_bool g117
                  clear ho hfr hdep
                  have hz1 : ((Ls.length : Int) == 0) = false := by simp; intro h; rw [h] at hlp; simp at hlp
                  go_wp2_with fail
                  exact ⟨rfl, _, rfl, Below.refl _ _, rfl⟩
                · intro o ho a' w' hb hfr hdep
                  obtain rfl := Option.some.inj ho
                  have g117 : a'.tmps[117]?.getD undef = .bool false := by have h := hdep 15 _ rfl (by kernel_rfl); simpa using h
                  have g121 : a'.tmps[121]?.getD undef = .bool false := by have h := hdep 19 _ rfl (by kernel_rfl); simpa using h
                  have g108 : a'.tmps[108]?.getD undef = .bool true := by have h := hdep 6 _ rfl (by kernel_rfl); simpa using h
                  have q108 := opt_bool g108
                  clear ho hfr hdep
                  go_wp2_with fail
                  exact ⟨rfl, _, rfl, Below.refl _ _, rfl⟩
                · intro o ho a' w' hb hfr hdep
                  obtain rfl := Option.some.inj ho
                  have g108 : a'.tmps[108]?.getD undef = .bool true := by have h := hdep 6 _ rfl (by kernel_rfl); simpa using h
                  have g122 : a'.tmps[122]?.getD undef = .bool false := by have h := hdep 20 _ rfl (by kernel_rfl); simpa using h
                  have g105 : a'.tmps[105]?.getD undef = .bool false := by have h := hdep 3 _ rfl (by kernel_rfl); simpa using h
                  have q105 := opt_bool g105
                  clear ho hfr hdep
                  go_wp2_with fail
                  exact ⟨rfl, _, rfl, Below.refl _ _, rfl⟩
              · intro g w13 hb13 hp13
                have p105 := hp13 3 _ rfl
                have p123 := hp13 21 _ rfl
                clear hp13
                simp at p105 p123
                simp only [List.drop_succ_cons, List.drop_zero, List.map_cons, List.map_nil, putAll, Act.put, List.setIfInBounds_toArray, List.set_cons_succ, List.set_cons_zero, p105, p123]
                clear p105 p123
                have hb313 := hb311.trans (hb13.mono hb311.size)
                have hx13 := hx21.under hb13
                have hF13 := hF11.below hb13
                have hL13 := hL11.below hb13
                have hchk2 := fun (F L : List Int) (aF aL : Option Addr) (nF cF nL cL : Nat) (w' : World) (h : Below w13.heap.size w13 w') hF hL hFl hLl => tab_check_any HLAY.out hsX aX X.length cX F L aF aL nF cF nL cL w' (hp3.below (hb313.trans (h.mono hb313.size))) hF hL hFl hLl
                clear hchk hcv3 hx21 hF11 hL11 hb311 hb13
                go_wp2_with fail
                have hz0 : w13.heap.size ≤ w13.heap.size := Nat.le_refl _
                refine wp_region_free 8 [⟨0, 127, [127], fun vs _ => vs = [.pointer (some ⟨b21, 0, none⟩)]⟩, ⟨1, 128, [128], fun vs _ => vs = [.slice a5 F0.length c5]⟩, ⟨2, 129, [129], fun vs w => ∃ b, vs = [.slice (some ⟨b, 0, none⟩) 0 0] ∧ Own w w13.heap.size 3 1 (some ⟨b, 0, none⟩) 0 0 []⟩, ⟨3, 130, [130], fun vs _ => vs = [.pointer (some ⟨b21, 1, none⟩)]⟩, ⟨4, 131, [131], fun vs _ => vs = [.slice a6 Ls.length c6]⟩, ⟨5, 132, [132], fun vs w => ∃ a c, vs = [.slice a Ls.length c] ∧ Own w w13.heap.size 3 1 a Ls.length c ((ints Ls).map I64)⟩, ⟨6, 133, [133], fun vs w => ∃ a c, vs = [.agg #[.slice a5 F0.length c5, .slice a Ls.length c]] ∧ Own w w13.heap.size 3 1 a Ls.length c ((ints Ls).map I64)⟩, ⟨7, 23, [23], fun vs w => ∃ b, vs = [.pointer (some ⟨b, 0, none⟩)] ∧ w13.heap.size ≤ b ∧ Box w b 31 [.slice none 0 0, .slice none 0 0]⟩] (by kernel_rfl) (by kernel_rfl) ?_ ?_ ?_
                · simp only [All]
                  refine ⟨fun _ _ _ _ h => h, fun _ _ _ _ h => h, ?_, fun _ _ _ _ h => h, fun _ _ _ _ h => h, ?_, ?_, ?_, trivial⟩
                  · rintro vs w w' hb ⟨b, h1, h2⟩
                    exact ⟨b, h1, h2.below hb⟩
                  · rintro vs w w' hb ⟨a, c, h1, h2⟩
                    exact ⟨a, c, h1, h2.below hb⟩
                  · rintro vs w w' hb ⟨a, c, h1, h2⟩
                    exact ⟨a, c, h1, h2.below hb⟩
                  · rintro vs w w' hb ⟨b, h1, h2, h3⟩
                    exact ⟨b, h1, h2, h3.under hb⟩
                · simp only [All]
                  refine ⟨?_, ?_, ?_, ?_, ?_, ?_, ?_, ?_, trivial⟩
                  · intro o ho a' w' hb hfr hdep
                    obtain rfl := Option.some.inj ho
                    have g21 : a'.tmps[21]?.getD undef = .pointer (some ⟨b21, 0, none⟩) := by have h := hfr 21 (by kernel_rfl); simpa using h
                    clear ho hfr hdep
                    go_wp2_with fail
                    exact ⟨rfl, _, rfl, Below.refl _ _, rfl⟩
                  · intro o ho a' w' hb hfr hdep
                    obtain rfl := Option.some.inj ho
                    have g127 : a'.tmps[127]?.getD undef = .pointer (some ⟨b21, 0, none⟩) := by have h := hdep 0 _ rfl (by kernel_rfl); simpa using h
                    clear ho hfr hdep
                    have hcl := (hx13.under hb).at_ (j := 0) rfl
                    go_wp2_with fail
                    exact ⟨rfl, _, rfl, Below.refl _ _, rfl⟩
                  · intro o ho a' w' hb hfr hdep
                    obtain rfl := Option.some.inj ho
                    clear ho hfr hdep
                    have hB := hb.size
                    have hbl := (Below.refl w'.heap.size w').alloc (Nat.le_refl _) (.cells #[] 3)
                    go_wp2_with fail
                    exact ⟨rfl, _, rfl, hbl, w'.heap.size, rfl, Own.built w' w13.heap.size 3 1 0 #[] hB rfl (by decide)⟩
                  · intro o ho a' w' hb hfr hdep
                    obtain rfl := Option.some.inj ho
                    have g21 : a'.tmps[21]?.getD undef = .pointer (some ⟨b21, 0, none⟩) := by have h := hfr 21 (by kernel_rfl); simpa using h
                    clear ho hfr hdep
                    go_wp2_with fail
                    exact ⟨rfl, _, rfl, Below.refl _ _, rfl⟩
                  · intro o ho a' w' hb hfr hdep
                    obtain rfl := Option.some.inj ho
                    have g130 : a'.tmps[130]?.getD undef = .pointer (some ⟨b21, 1, none⟩) := by have h := hdep 3 _ rfl (by kernel_rfl); simpa using h
                    clear ho hfr hdep
                    have hcl := (hx13.under hb).at_ (j := 1) rfl
                    go_wp2_with fail
                    exact ⟨rfl, _, rfl, Below.refl _ _, rfl⟩
                  · intro o ho a' w' hb hfr hdep
                    obtain rfl := Option.some.inj ho
                    obtain ⟨b1, g129, ho1⟩ := hdep 2 _ rfl (by kernel_rfl)
                    replace g129 : a'.tmps[129]?.getD undef = .slice (some ⟨b1, 0, none⟩) 0 0 := by simpa using g129
                    have g131 : a'.tmps[131]?.getD undef = .slice a6 Ls.length c6 := by have h := hdep 4 _ rfl (by kernel_rfl); simpa using h
                    clear ho hfr hdep
                    refine append_empty rfl _ _ 22 rfl 3 (.int .i64 0) 1 8 Try.underlying22 info_int rfl w13.heap.size _ (by show a'.tmps.getD 129 undef = _; simpa using g129) ho1 a6 Ls.length c6 ((ints Ls).map I64) (by show a'.tmps.getD 131 undef = _; simpa using g131) (hL13.below hb) (one_map _ (fun _ => rfl) _) (by omega) (by unfold maxLen; omega) hb.size ?_
                    intro a3 c3 w3 ho3 hb3 hf3
                    go_wp2
                    exact ⟨rfl, _, rfl, hb3, a3, c3, rfl, ho3⟩
                  · intro o ho a' w' hb hfr hdep
                    obtain rfl := Option.some.inj ho
                    have g128 : a'.tmps[128]?.getD undef = .slice a5 F0.length c5 := by have h := hdep 1 _ rfl (by kernel_rfl); simpa using h
                    obtain ⟨a7, c7, g132, ho7⟩ := hdep 5 _ rfl (by kernel_rfl)
                    replace g132 : a'.tmps[132]?.getD undef = .slice a7 Ls.length c7 := by simpa using g132
                    clear ho hfr hdep
                    go_wp2_with fail
                    exact ⟨rfl, _, rfl, Below.refl _ _, a7, c7, rfl, ho7⟩
                  · intro o ho a' w' hb hfr hdep
                    obtain rfl := Option.some.inj ho
                    clear ho hfr hdep
                    have hB := hb.size
                    go_wp2_with fail
                    exact ⟨rfl, _, rfl, (Below.refl _ _).alloc (Nat.le_refl _) _, w'.heap.size, rfl, hB, Box.new _ _ _⟩
                · intro g w14 hb14 hp14
                  obtain ⟨a7, c7, g133, ho7⟩ := hp14 6 _ rfl
                  obtain ⟨b23, g23, hb23, hx23⟩ := hp14 7 _ rfl
                  replace g133 : g 133 = .agg #[.slice a5 F0.length c5, .slice a7 Ls.length c7] := by simpa using g133
                  replace g23 : g 23 = .pointer (some ⟨b23, 0, none⟩) := by simpa using g23
                  clear hp14
                  simp only [List.drop_succ_cons, List.drop_zero, List.map_cons, List.map_nil, putAll, Act.put, List.setIfInBounds_toArray, List.set_cons_succ, List.set_cons_zero, g133, g23]
                  clear g133 g23
                  refine store_all 31 _ _ 31 b23 _ [.slice a5 F0.length c5, .slice a7 Ls.length c7] _ (size_tcert _ _) hx23 rfl rfl rfl (Eq.refl 2) (by simp [Value.oneCell']) ?_
                  intro w15 hx15 hg15 hs15
                  have hne23 : b21 ≠ b23 := fun e => by have := hx13.lt; omega
                  have ho15 := ho7.kept hg15 ((KindOf.own ho7).ne hx23 (by decide))
                  have hb1315 := hb14.grown hg15 hb14.size (fun k hk => by cases hk; exact hb23)
                  have hx21_15 := hx13.under hb1315
                  clear hx23 hg15 hs15 ho7 hb14
                  obtain ⟨r, Hr⟩ : ∃ r, Hid (aroundF at_ Ls.length = r) := ⟨_, hide rfl⟩
                  have hrl : r < Ls.length := by rw [← Hr.out]; exact aroundF_lt hlp
                  have hA1 := fun (w : World) => Around_at (w := w) Hr.out (v := (Ls.length : Int)) rfl hlp (by omega) hat.1 hat.2
                  obtain ⟨lq, rfl⟩ : ∃ q, a7 = some q := by
                    cases a7 with
                    | some q => exact ⟨q, rfl⟩
                    | none => have := ho15.sl.nil rfl; have := ho15.sl.le; omega
                  obtain ⟨lb, rfl⟩ : ∃ b, lq = ⟨b, 0, none⟩ := ⟨_, ho15.zero⟩
                  obtain ⟨y, hy⟩ : ∃ y, Ls[r]? = some y := ⟨Ls[r], by simp [hrl]⟩
                  have hy1 := lay_small HLAY.out y (List.mem_of_getElem? hy)
                  have hyi := ints_get hy
                  have HY := hide (show ((ints Ls).map I64)[r]? = some (.int .i64 (y : Int)) by rw [List.getElem?_map, hyi]; rfl)
                  have HYI := hide hyi
                  clear hy hyi
                  go_upto_region 19 with fail
                  refine wp_region_free 10 [⟨0, 134, [134], fun vs _ => vs = [.pointer (some ⟨b23, 1, none⟩)]⟩, ⟨1, 135, [135], fun vs _ => vs = [.slice (some ⟨lb, 0, none⟩) Ls.length c7]⟩, ⟨2, 136, [136], fun vs _ => vs = [.int .i64 at_]⟩, ⟨3, 137, [137], fun vs _ => vs = [.pointer (some ⟨b23, 1, none⟩)]⟩, ⟨4, 138, [138], fun vs _ => vs = [.slice (some ⟨lb, 0, none⟩) Ls.length c7]⟩, ⟨5, 139, [139], fun vs _ => vs = [.int .i64 (Ls.length : Int)]⟩, ⟨6, 140, [140], fun vs _ => vs = [.int .i64 (r : Int)]⟩, ⟨7, 141, [141], fun vs _ => vs = [.pointer (some ⟨lb, r, none⟩)]⟩, ⟨8, 142, [142], fun vs _ => vs = [.int .i64 (y : Int)]⟩, ⟨9, 143, [143], fun vs _ => vs = [.int .i64 ((y : Int) + 1)]⟩] (by kernel_rfl) (by kernel_rfl) ?_ ?_ ?_
                  · simp only [All]
                    refine ⟨fun _ _ _ _ h => h, fun _ _ _ _ h => h, fun _ _ _ _ h => h, fun _ _ _ _ h => h, fun _ _ _ _ h => h, fun _ _ _ _ h => h, fun _ _ _ _ h => h, fun _ _ _ _ h => h, fun _ _ _ _ h => h, fun _ _ _ _ h => h, trivial⟩
                  · simp only [All]
                    refine ⟨?_, ?_, ?_, ?_, ?_, ?_, ?_, ?_, ?_, ?_, trivial⟩
                    · intro o ho a' w' hb hfr hdep
                      obtain rfl := Option.some.inj ho
                      have g23 : a'.tmps[23]?.getD undef = .pointer (some ⟨b23, 0, none⟩) := by have h := hfr 23 (by kernel_rfl); simpa using h
                      clear ho hfr hdep
                      go_wp2_with fail
                      exact ⟨rfl, _, rfl, Below.refl _ _, rfl⟩
                    · intro o ho a' w' hb hfr hdep
                      obtain rfl := Option.some.inj ho
                      have g134 : a'.tmps[134]?.getD undef = .pointer (some ⟨b23, 1, none⟩) := by have h := hdep 0 _ rfl (by kernel_rfl); simpa using h
                      clear ho hfr hdep
                      have hcl := (hx15.under hb).at_ (j := 1) rfl
                      go_wp2_with fail
                      exact ⟨rfl, _, rfl, Below.refl _ _, rfl⟩
                    · intro o ho a' w' hb hfr hdep
                      obtain rfl := Option.some.inj ho
                      have g2 : a'.tmps[2]?.getD undef = .int .i64 at_ := by have h := hfr 2 (by kernel_rfl); simpa using h
                      clear ho hfr hdep
                      go_wp2_with fail
                      exact ⟨rfl, _, rfl, Below.refl _ _, rfl⟩
                    · intro o ho a' w' hb hfr hdep
                      obtain rfl := Option.some.inj ho
                      have g23 : a'.tmps[23]?.getD undef = .pointer (some ⟨b23, 0, none⟩) := by have h := hfr 23 (by kernel_rfl); simpa using h
                      clear ho hfr hdep
                      go_wp2_with fail
                      exact ⟨rfl, _, rfl, Below.refl _ _, rfl⟩
                    · intro o ho a' w' hb hfr hdep
                      obtain rfl := Option.some.inj ho
                      have g137 : a'.tmps[137]?.getD undef = .pointer (some ⟨b23, 1, none⟩) := by have h := hdep 3 _ rfl (by kernel_rfl); simpa using h
                      clear ho hfr hdep
                      have hcl := (hx15.under hb).at_ (j := 1) rfl
                      go_wp2_with fail
                      exact ⟨rfl, _, rfl, Below.refl _ _, rfl⟩
                    · intro o ho a' w' hb hfr hdep
                      obtain rfl := Option.some.inj ho
                      have g138 : a'.tmps[138]?.getD undef = .slice (some ⟨lb, 0, none⟩) Ls.length c7 := by have h := hdep 4 _ rfl (by kernel_rfl); simpa using h
                      clear ho hfr hdep
                      go_wp2_with fail
                      exact ⟨rfl, _, rfl, Below.refl _ _, rfl⟩
                    · intro o ho a' w' hb hfr hdep
                      obtain rfl := Option.some.inj ho
                      have g136 : a'.tmps[136]?.getD undef = .int .i64 at_ := by have h := hdep 2 _ rfl (by kernel_rfl); simpa using h
                      have g139 : a'.tmps[139]?.getD undef = .int .i64 (Ls.length : Int) := by have h := hdep 5 _ rfl (by kernel_rfl); simpa using h
                      clear ho hfr hdep
                      go_wp2_with fail
                      refine (hA1 _).mono ?_
                      rintro e w4 ⟨rfl, rfl⟩
                      go_wp2_with fail
                      exact ⟨rfl, _, rfl, Below.refl _ _, rfl⟩
                    · intro o ho a' w' hb hfr hdep
                      obtain rfl := Option.some.inj ho
                      have g135 : a'.tmps[135]?.getD undef = .slice (some ⟨lb, 0, none⟩) Ls.length c7 := by have h := hdep 1 _ rfl (by kernel_rfl); simpa using h
                      have g140 : a'.tmps[140]?.getD undef = .int .i64 (r : Int) := by have h := hdep 6 _ rfl (by kernel_rfl); simpa using h
                      clear ho hfr hdep
                      go_wp2_with fail
                      exact ⟨rfl, _, rfl, Below.refl _ _, rfl⟩
                    · intro o ho a' w' hb hfr hdep
                      obtain rfl := Option.some.inj ho
                      have g141 : a'.tmps[141]?.getD undef = .pointer (some ⟨lb, r, none⟩) := by have h := hdep 7 _ rfl (by kernel_rfl); simpa using h
                      clear ho hfr hdep
                      have hcl := (ho15.below hb).at_ HY.out
                      go_wp2_with fail
                      exact ⟨rfl, _, rfl, Below.refl _ _, rfl⟩
                    · intro o ho a' w' hb hfr hdep
                      obtain rfl := Option.some.inj ho
                      have g142 : a'.tmps[142]?.getD undef = .int .i64 (y : Int) := by have h := hdep 8 _ rfl (by kernel_rfl); simpa using h
                      clear ho hfr hdep
                      go_wp2_with fail
                      exact ⟨rfl, _, rfl, Below.refl _ _, rfl⟩
                  · intro g w16 hb16 hp16
                    have p135 := hp16 1 _ rfl
                    have p140 := hp16 6 _ rfl
                    have p143 := hp16 9 _ rfl
                    clear hp16
                    simp at p135 p140 p143
                    simp only [List.drop_succ_cons, List.drop_zero, List.map_cons, List.map_nil, putAll, Act.put, List.setIfInBounds_toArray, List.set_cons_succ, List.set_cons_zero, p135, p140, p143]
                    clear p135 p140 p143
                    have ho16 := ho15.below hb16
                    have hcl := ho16.at_ HY.out
                    have hfr := ho16.free r
                    refine index_known 144 22 _ _ 3 Try.underlying22 size_int lb Ls.length c7 rfl _ _ r rfl rfl hrl ?_
                    simp only [Act.put, List.setIfInBounds_toArray, List.set_cons_succ, List.set_cons_zero]
                    go_upto_region 20 with fail
                    have hlb := ho15.base.1
                    have hne23b : b23 ≠ lb := fun e => (KindOf.own ho15).ne hx15 (by decide) _ rfl (by rw [e])
                    have hoL := ho16.put (i := r) (.int .i64 ((y : Int) + 1))
                    rw [show (.int .i64 ((y : Int) + 1) : Value) = I64 ((y : Int) + 1) from rfl, ← List.map_set] at hoL
                    have hx23S := (hx15.under hb16).far (p := ⟨lb, r, none⟩) hne23b (I64 ((y : Int) + 1))
                    have hb1316 := hb1315.trans (hb16.mono hb1315.size)
                    have hb13S := hb1316.setCell (p := ⟨lb, r, none⟩) (show w13.heap.size ≤ lb from hlb) (I64 ((y : Int) + 1))
                    have hne : (ints Ls).set r ((y : Int) + 1) ≠ ints Ls := fun e => by
                      have h1 := congrArg (fun l => l[r]?) e
                      simp only [List.getElem?_set, HYI.out] at h1
                      rw [if_pos trivial, if_pos (by rw [HI2.out]; exact hrl)] at h1
                      injection h1 with h1
                      omega
                    have HNE := hide hne
                    obtain ⟨xb, xo, rfl, hxb, hxc⟩ := hp3.top.ex (by rw [List.length_map, hp3.len]; have := HX.r1; omega)
                    obtain ⟨x0, hx00⟩ : ∃ x, X[0]? = some x := ⟨X[0]'(by have := HX.r1; omega), by simp⟩
                    obtain ⟨ax0, cx0, ks0, hux0, _⟩ := hp3.get hx00
                    have hx0c := hxc 0 _ hux0
                    have hx0l : x0.length ≤ 12 ∧ 1 ≤ x0.length := by
                      have h1 := HX.row x0 (List.mem_of_getElem? hx00)
                      have h2 := HX.c1
                      have h3 := HX.c2
                      omega
                    have HX0 := hide hx0c
                    have hr1X := HX.r1
                    clear hx15 ho15 ho16 hb1315 hb16 hb1316 hx21_15 hcl hfr hlb hne23b hne hxc hux0 hx00 hx0c
                    rw [show (.int .i64 ((y : Int) + 1) : Value) = I64 ((y : Int) + 1) from rfl]
                    generalize (w16.setCell ⟨lb, r, none⟩ (I64 ((y : Int) + 1))) = w17 at *
                    have hx21 := hx13.under hb13S
                    have hF17 := hF13.below hb13S
                    have hL17 := hL13.below hb13S
                    have hb317 := hb313.trans (hb13S.mono hb313.size)
                    have hx0w : ∀ w', Below w17.heap.size w17 w' → w'.cell? ⟨xb, xo, none⟩ = some (.slice ax0 x0.length cx0) := fun w' h => by
                      have hb := hb317.trans (h.mono hb317.size)
                      rw [hb.cell hxb]; exact HX0.out
                    refine wp_region_chain4 15 KeepR (GR w17 (ints F0)) [⟨3, 148, [], fun _ _ => True⟩, ⟨10, 155, [], fun _ _ => True⟩] [⟨0, 145, [145], fun vs w => ∃ b, vs = [.slice (some ⟨b, 0, none⟩) 0 0] ∧ w17.heap.size ≤ b ∧ Box w b 3 []⟩, ⟨1, 146, [146], fun vs _ => vs = [.pointer (some ⟨b21, 0, none⟩)]⟩, ⟨2, 147, [147], fun vs _ => vs = [.slice a5 F0.length c5]⟩, ⟨4, 149, [149], fun vs _ => vs = [.slice (some ⟨xb, xo, none⟩) X.length cX]⟩, ⟨5, 150, [150], fun vs _ => vs = [.pointer (some ⟨xb, xo, none⟩)]⟩, ⟨6, 151, [151], fun vs _ => vs = [.slice ax0 x0.length cx0]⟩, ⟨7, 152, [152], fun vs _ => vs = [.int .i64 (x0.length : Int)]⟩, ⟨8, 153, [153], fun vs _ => vs = [.int .i64 ((x0.length : Int) - 1)]⟩, ⟨9, 154, [154], fun vs w => ∃ b z, vs = [.slice (some ⟨b, 0, none⟩) 1 1] ∧ Box w b 3 [I64 z]⟩, ⟨11, 156, [156], fun vs _ => vs = [.pointer (some ⟨b21, 1, none⟩)]⟩, ⟨12, 157, [157], fun vs _ => vs = [.slice a6 Ls.length c6]⟩, ⟨13, 158, [158, 155], fun vs _ => F158 (F0.length + 1) Ls.length a6 c6 vs⟩, ⟨14, 24, [24], fun vs w => ∃ b, vs = [.pointer (some ⟨b, 0, none⟩)] ∧ w17.heap.size ≤ b ∧ BoxT 31 w b⟩] (by kernel_rfl) (by kernel_rfl) ?_ (fun _ _ h => KeepR.of h) GR.mono ?_ ?_ ?_ ?_
                    · exact (Still.below 1 : Below w17.heap.size w17 (w17.drewN 1))
                    · simp only [All]
                      refine ⟨(fun vs w1 w2 hr ⟨b, h1, h0, h2⟩ => ⟨b, h1, h0, hr.box h2 (by simp)⟩), (fun _ _ _ _ h => h), (fun _ _ _ _ h => h), (fun _ _ _ _ h => h), (fun _ _ _ _ h => h), (fun _ _ _ _ h => h), (fun _ _ _ _ h => h), (fun _ _ _ _ h => h), (fun vs w1 w2 hr ⟨b, z, h1, h2⟩ => ⟨b, z, h1, hr.box h2 (by simp)⟩), (fun _ _ _ _ h => h), (fun _ _ _ _ h => h), (fun _ _ _ _ h => h), (fun vs w1 w2 hr ⟨b, h1, h0, h2⟩ => ⟨b, h1, h0, hr.1.box h2⟩), trivial⟩
                    · intro m c hc o ho a w' hG hfr hdep
                      rcases m with _ | _ | m
                      · cases hc
                        obtain rfl := Option.some.inj ho
                        have hB : Below w17.heap.size w17 w' := hG
                        obtain ⟨b, g145, hbb, hxb2⟩ := hdep 0 _ rfl (by kernel_rfl)
                        replace g145 : a.tmps.getD 145 undef = .slice (some ⟨b, 0, none⟩) 0 0 := by simpa using g145
                        have g147 : a.tmps.getD 147 undef = .slice a5 F0.length c5 := by have h := hdep 2 _ rfl (by kernel_rfl); simpa using h
                        clear hfr hdep
                        refine append_empty rfl _ _ 22 rfl 3 (.int .i64 0) 1 8 Try.underlying22 info_int rfl w17.heap.size _ g145 (own_empty hxb2 hbb) a5 F0.length c5 ((ints F0).map I64) g147 (hF17.below hB) (one_map _ (fun _ => rfl) _) (by omega) (by unfold maxLen; omega) hB.size ?_
                        intro a3 c3 w3 ho3 hb3 hf3
                        have hB3 := hB.trans (hb3.mono hB.size)
                        have hkp := KeepR.of hb3
                        go_wp2
                        refine ⟨rfl, _, rfl, hkp, a3, c3, by rw [HI1.out]; rfl, by rw [HI1.out]; exact ho3, fun h => ?_, hB3⟩
                        rw [HI1.out] at h
                        rcases hf3 with ⟨_, h2⟩ | ⟨h2, _⟩
                        · exact h2
                        · exact absurd h h2
                      · cases hc
                        obtain rfl := Option.some.inj ho
                        obtain ⟨a3, c3, g148, ho3, hz3, hB⟩ := hG
                        rw [HI1.out] at g148 ho3 hz3
                        replace g148 : a.tmps.getD 148 undef = .slice a3 F0.length c3 := g148
                        obtain ⟨b, z, g154, hxb2⟩ := hdep 8 _ rfl (by kernel_rfl)
                        replace g154 : a.tmps.getD 154 undef = .slice (some ⟨b, 0, none⟩) 1 1 := by simpa using g154
                        clear hfr hdep
                        have hsl := hxb2.sl 0 1 1 1 [I64 z] rfl (Nat.le_refl _) (by unfold maxLen; omega) (fun j u hj => by rw [Nat.zero_add]; exact hj)
                        refine append_where rfl _ _ 22 rfl 3 (.int .i64 0) 1 8 Try.underlying22 info_int rfl w17.heap.size a3 F0.length c3 _ g148 ho3 _ 1 1 [I64 z] g154 hsl (by simp [Value.oneCell']) (by omega) (by unfold maxLen; omega) hB.size ?_
                        intro a4 c4 w4 ho4 hg4 hor4
                        have hkp := KeepR.app ho3 hg4 hor4 hz3
                        have hB4 := hB.grown hg4 hB.size (fun k hk => by cases a3 with | none => cases hk | some q => cases hk; exact ho3.base.1)
                        go_wp2
                        exact ⟨rfl, _, rfl, hkp, a4, c4, z, by rw [HI1.out]; rfl, by rw [List.map_append, HI1.out]; exact ho4, hB4⟩
                      · cases hc
                    · simp only [All]
                      refine ⟨?_, ?_, ?_, ?_, ?_, ?_, ?_, ?_, ?_, ?_, ?_, ?_, ?_, trivial⟩
                      · intro o ho a' w' hfr hdep hst
                        obtain rfl := Option.some.inj ho
                        obtain ⟨j, _, _, hG⟩ := hst
                        clear ho hfr hdep
                        have hB := hG.bel.size
                        clear hG
                        have hbl := (Below.refl w'.heap.size w').alloc (Nat.le_refl _) (.cells #[] 3)
                        have hxn := Box.new w' 3 #[]
                        go_wp2_with fail
                        exact ⟨rfl, _, rfl, hbl, w'.heap.size, rfl, hB, hxn⟩
                      · intro o ho a' w' hfr hdep hst
                        obtain rfl := Option.some.inj ho
                        have g21 : a'.tmps[21]?.getD undef = .pointer (some ⟨b21, 0, none⟩) := by have h := hfr 21 (by kernel_rfl); simpa using h
                        clear ho hfr hdep hst
                        go_wp2_with fail
                        exact ⟨rfl, _, rfl, Below.refl _ _, rfl⟩
                      · intro o ho a' w' hfr hdep hst
                        obtain rfl := Option.some.inj ho
                        have g146 : a'.tmps[146]?.getD undef = .pointer (some ⟨b21, 0, none⟩) := by have h := hdep 1 _ rfl (by kernel_rfl); simpa using h
                        obtain ⟨j, _, _, hG⟩ := hst
                        clear ho hfr hdep
                        have hcl := (hx21.under hG.bel).at_ (j := 0) rfl
                        clear hG
                        go_wp2_with fail
                        exact ⟨rfl, _, rfl, Below.refl _ _, rfl⟩
                      · intro o ho a' w' hfr hdep hst
                        obtain rfl := Option.some.inj ho
                        have g11 : a'.tmps[11]?.getD undef = .slice (some ⟨xb, xo, none⟩) X.length cX := by have h := hfr 11 (by kernel_rfl); simpa using h
                        clear ho hfr hdep hst
                        go_wp2_with fail
                        exact ⟨rfl, _, rfl, Below.refl _ _, rfl⟩
                      · intro o ho a' w' hfr hdep hst
                        obtain rfl := Option.some.inj ho
                        have g149 : a'.tmps[149]?.getD undef = .slice (some ⟨xb, xo, none⟩) X.length cX := by have h := hdep 3 _ rfl (by kernel_rfl); simpa using h
                        clear ho hfr hdep hst
                        refine idx0_off 150 _ _ xb xo X.length cX (by show a'.tmps.getD 149 undef = _; simpa using g149) hr1X rfl ?_
                        go_wp2
                        exact ⟨rfl, _, rfl, Below.refl _ _, rfl⟩
                      · intro o ho a' w' hfr hdep hst
                        obtain rfl := Option.some.inj ho
                        have g150 : a'.tmps[150]?.getD undef = .pointer (some ⟨xb, xo, none⟩) := by have h := hdep 4 _ rfl (by kernel_rfl); simpa using h
                        obtain ⟨j, _, _, hG⟩ := hst
                        clear ho hfr hdep
                        have hcl := hx0w _ hG.bel
                        clear hG
                        go_wp2_with fail
                        exact ⟨rfl, _, rfl, Below.refl _ _, rfl⟩
                      · intro o ho a' w' hfr hdep hst
                        obtain rfl := Option.some.inj ho
                        have g151 : a'.tmps[151]?.getD undef = .slice ax0 x0.length cx0 := by have h := hdep 5 _ rfl (by kernel_rfl); simpa using h
                        clear ho hfr hdep hst
                        go_wp2_with fail
                        exact ⟨rfl, _, rfl, Below.refl _ _, rfl⟩
                      · intro o ho a' w' hfr hdep hst
                        obtain rfl := Option.some.inj ho
                        have g152 : a'.tmps[152]?.getD undef = .int .i64 (x0.length : Int) := by have h := hdep 6 _ rfl (by kernel_rfl); simpa using h
                        clear ho hfr hdep hst
                        go_wp2_with fail
                        exact ⟨rfl, _, rfl, Below.refl _ _, rfl⟩
                      · intro o ho a' w' hfr hdep hst
                        obtain rfl := Option.some.inj ho
                        have g153 : a'.tmps[153]?.getD undef = .int .i64 ((x0.length : Int) - 1) := by have h := hdep 7 _ rfl (by kernel_rfl); simpa using h
                        clear ho hfr hdep hst
                        have hxn := Box.new w' 3 #[I64 ((x0.length : Int) - 1)]
                        go_wp2_with fail
                        first | exact ⟨rfl, _, rfl, blo _ _, w'.heap.size, _, rfl, hxn⟩ | exact ⟨rfl, _, rfl, blo _ _, w'.heap.size, rfl, _, hxn⟩
                      · intro o ho a' w' hfr hdep hst
                        obtain rfl := Option.some.inj ho
                        have g21 : a'.tmps[21]?.getD undef = .pointer (some ⟨b21, 0, none⟩) := by have h := hfr 21 (by kernel_rfl); simpa using h
                        clear ho hfr hdep hst
                        go_wp2_with fail
                        exact ⟨rfl, _, rfl, Below.refl _ _, rfl⟩
                      · intro o ho a' w' hfr hdep hst
                        obtain rfl := Option.some.inj ho
                        have g156 : a'.tmps[156]?.getD undef = .pointer (some ⟨b21, 1, none⟩) := by have h := hdep 9 _ rfl (by kernel_rfl); simpa using h
                        obtain ⟨j, _, _, hG⟩ := hst
                        clear ho hfr hdep
                        have hcl := (hx21.under hG.bel).at_ (j := 1) rfl
                        clear hG
                        go_wp2_with fail
                        exact ⟨rfl, _, rfl, Below.refl _ _, rfl⟩
                      · intro o ho a' w' hfr hdep hst
                        obtain rfl := Option.some.inj ho
                        have g157 : a'.tmps[157]?.getD undef = .slice a6 Ls.length c6 := by have h := hdep 10 _ rfl (by kernel_rfl); simpa using h
                        obtain ⟨j, hj, _, hG⟩ := hst
                        have hj2 : 2 ≤ j := hj 1 _ rfl (by kernel_rfl)
                        clear ho hfr hdep hj
                        obtain ⟨a8, c8, g155⟩ := hG.last hj2
                        replace g155 : a'.tmps[155]?.getD undef = .slice a8 (F0.length + 1) c8 := by have h : a'.tmps.getD 155 undef = _ := g155; rw [HI1.out] at h; simpa using h
                        have G155 := hide g155
                        clear hG hj2
                        go_wp2_with fail
                        exact ⟨rfl, _, rfl, Below.refl _ _, a8, c8, by simp [G155.out]⟩
                      · intro o ho a' w' hfr hdep hst
                        obtain rfl := Option.some.inj ho
                        obtain ⟨j, _, _, hG⟩ := hst
                        clear ho hfr hdep
                        have hB := hG.bel.size
                        clear hG
                        go_wp2_with fail
                        exact ⟨rfl, _, rfl, (Below.refl _ _).alloc (Nat.le_refl _) _, w'.heap.size, rfl, hB, [.slice none 0 0, .slice none 0 0], rfl, Box.new _ _ _⟩
                    · intro g w18 hG hp
                      obtain ⟨a8, c8, z8, g155, ho8, hb18⟩ := hG
                      rw [HI1.out] at g155 ho8
                      replace g155 : g 155 = .slice a8 (F0.length + 1) c8 := g155
                      obtain ⟨a9, c9, g158⟩ : F158 _ _ _ _ _ := hp 11 _ rfl
                      obtain ⟨g158, g155'⟩ : g 158 = .agg #[.slice a9 (F0.length + 1) c9, .slice a6 Ls.length c6] ∧ g 155 = .slice a9 (F0.length + 1) c9 := by simpa using g158
                      rw [g155] at g155'
                      cases g155'
                      obtain ⟨b24, g24, hb24, cs24, hl24, hx24⟩ := hp 12 _ rfl
                      replace g24 : g 24 = .pointer (some ⟨b24, 0, none⟩) := by simpa using g24
                      clear hp
                      simp only [List.drop_succ_cons, List.drop_zero, List.map_cons, List.map_nil, List.cons_append, List.nil_append, putAll, Act.put, List.setIfInBounds_toArray, List.set_cons_succ, List.set_cons_zero, g158, g24]
                      clear g158 g24 g155
                      refine store_all 31 _ _ 31 b24 _ [.slice a8 (F0.length + 1) c8, .slice a6 Ls.length c6] _ (size_tcert _ _) hx24 rfl rfl rfl (by rw [hl24]; rfl) (by simp [Value.oneCell']) ?_
                      intro w19 hx19 hg19 hs19
                      have hb1719 := hb18.grown hg19 hb18.size (fun k hk => by cases hk; exact hb24)
                      have hx23_19 := hx23S.under hb1719
                      have ho8_19 := ho8.kept hg19 ((KindOf.own ho8).ne hx24 (by decide))
                      have hoL19 := hoL.below hb1719
                      have hF19 := hF17.below hb1719
                      have hL19 := hL17.below hb1719
                      have hb319 := hb317.trans (hb1719.mono hb317.size)
                      have hchk3 := fun (F L : List Int) (aF aL : Option Addr) (nF cF nL cL : Nat) (w' : World) (h : Below w19.heap.size w19 w') hF hL hFl hLl => tab_check_any HLAY.out hsX (some ⟨xb, xo, none⟩) X.length cX F L aF aL nF cF nL cL w' (hp3.below (hb319.trans (h.mono hb319.size))) hF hL hFl hLl
                      have hcv4 : ∀ w', Below w19.heap.size w19 w' → w'.cell? ⟨ab, ao + k, none⟩ = some (.int .i64 v) := fun w' h => by
                        have hb := hb319.trans (h.mono hb319.size)
                        rw [hb.cell hab]; exact HCV.out
                      have HC1 : Hid (chkT X v F0.length Ls (ints F0) ((ints Ls).set r ((y : Int) + 1)) = 19) := hide (chk_least HE.out HNE.out)
                      have HC2 : Hid (chkT X v F0.length Ls (ints F0 ++ [z8]) (ints Ls) = 19) := hide (chk_first HE.out (by rw [List.length_append, HI1.out]; simp))
                      clear hx24 hg19 hs19 hl24 hx23S ho8 hoL hF17 hL17 hb317 hx21 hb18 hb1719 hx0w hchk2
                      go_upto_region 21 with fail
                      refine wp_region_free 17 [⟨0, 159, [159], fun vs _ => vs = [.slice (some ⟨xb, xo, none⟩) X.length cX]⟩, ⟨1, 160, [160], fun vs _ => vs = [.slice (some ⟨ab, ao, none⟩) 2 2]⟩, ⟨2, 161, [161], fun vs _ => vs = [.int .i64 (k : Int)]⟩, ⟨3, 162, [162], fun vs _ => vs = [.pointer (some ⟨ab, ao + k, none⟩)]⟩, ⟨4, 163, [163], fun vs _ => vs = [.int .i64 v]⟩, ⟨5, 164, [164], fun vs _ => vs = [.agg #[.slice a5 F0.length c5, .slice (some ⟨lb, 0, none⟩) Ls.length c7]]⟩, ⟨6, 165, [165], fun vs _ => vs = [.int .i64 19]⟩, ⟨7, 166, [166], fun vs _ => vs = [.bool false]⟩, ⟨8, 167, [167], fun vs _ => vs = [.bool false]⟩, ⟨9, 168, [168], fun vs _ => vs = [.slice (some ⟨xb, xo, none⟩) X.length cX]⟩, ⟨10, 169, [169], fun vs _ => vs = [.slice (some ⟨ab, ao, none⟩) 2 2]⟩, ⟨11, 170, [170], fun vs _ => vs = [.int .i64 (k : Int)]⟩, ⟨12, 171, [171], fun vs _ => vs = [.pointer (some ⟨ab, ao + k, none⟩)]⟩, ⟨13, 172, [172], fun vs _ => vs = [.int .i64 v]⟩, ⟨14, 173, [173], fun vs _ => vs = [.agg #[.slice a8 (F0.length + 1) c8, .slice a6 Ls.length c6]]⟩, ⟨15, 174, [174], fun vs _ => vs = [.int .i64 19]⟩, ⟨16, 175, [175], fun vs _ => vs = [.bool false]⟩] (by kernel_rfl) (by kernel_rfl) ?_ ?_ ?_
                      · simp only [All]
                        refine ⟨fun _ _ _ _ h => h, fun _ _ _ _ h => h, fun _ _ _ _ h => h, fun _ _ _ _ h => h, fun _ _ _ _ h => h, fun _ _ _ _ h => h, fun _ _ _ _ h => h, fun _ _ _ _ h => h, fun _ _ _ _ h => h, fun _ _ _ _ h => h, fun _ _ _ _ h => h, fun _ _ _ _ h => h, fun _ _ _ _ h => h, fun _ _ _ _ h => h, fun _ _ _ _ h => h, fun _ _ _ _ h => h, fun _ _ _ _ h => h, trivial⟩
                      · simp only [All]
                        refine ⟨?_, ?_, ?_, ?_, ?_, ?_, ?_, ?_, ?_, ?_, ?_, ?_, ?_, ?_, ?_, ?_, ?_, trivial⟩
                        · intro o ho a' w' hb hfr hdep
                          obtain rfl := Option.some.inj ho
                          have g11 : a'.tmps[11]?.getD undef = .slice (some ⟨xb, xo, none⟩) X.length cX := by have h := hfr 11 (by kernel_rfl); simpa using h
                          clear ho hfr hdep
                          go_wp2_with fail
                          exact ⟨rfl, _, rfl, Below.refl _ _, rfl⟩
                        · intro o ho a' w' hb hfr hdep
                          obtain rfl := Option.some.inj ho
                          have g12 : a'.tmps[12]?.getD undef = .slice (some ⟨ab, ao, none⟩) 2 2 := by have h := hfr 12 (by kernel_rfl); simpa using h
                          clear ho hfr hdep
                          go_wp2_with fail
                          exact ⟨rfl, _, rfl, Below.refl _ _, rfl⟩
                        · intro o ho a' w' hb hfr hdep
                          obtain rfl := Option.some.inj ho
                          have g13 : a'.tmps[13]?.getD undef = .int .i64 (k : Int) := by have h := hfr 13 (by kernel_rfl); simpa using h
                          clear ho hfr hdep
                          go_wp2_with fail
                          exact ⟨rfl, _, rfl, Below.refl _ _, rfl⟩
                        · intro o ho a' w' hb hfr hdep
                          obtain rfl := Option.some.inj ho
                          have g160 : a'.tmps[160]?.getD undef = .slice (some ⟨ab, ao, none⟩) 2 2 := by have h := hdep 1 _ rfl (by kernel_rfl); simpa using h
                          have g161 : a'.tmps[161]?.getD undef = .int .i64 (k : Int) := by have h := hdep 2 _ rfl (by kernel_rfl); simpa using h
                          clear ho hfr hdep
                          go_wp2_with fail
                          exact ⟨rfl, _, rfl, Below.refl _ _, rfl⟩
                        · intro o ho a' w' hb hfr hdep
                          obtain rfl := Option.some.inj ho
                          have g162 : a'.tmps[162]?.getD undef = .pointer (some ⟨ab, ao + k, none⟩) := by have h := hdep 3 _ rfl (by kernel_rfl); simpa using h
                          clear ho hfr hdep
                          have hcl := hcv4 _ hb
                          go_wp2_with fail
                          exact ⟨rfl, _, rfl, Below.refl _ _, rfl⟩
                        · intro o ho a' w' hb hfr hdep
                          obtain rfl := Option.some.inj ho
                          have g23 : a'.tmps[23]?.getD undef = .pointer (some ⟨b23, 0, none⟩) := by have h := hfr 23 (by kernel_rfl); simpa using h
                          clear ho hfr hdep
                          refine load_box 164 31 _ 31 b23 0 _ [.slice a5 F0.length c5, .slice (some ⟨lb, 0, none⟩) Ls.length c7] isAgg_tcert (size_tcert _ _) (hx23_19.under hb) (by show a'.tmps.getD 23 undef = _; simpa using g23) (fun j u hj => by rw [Nat.zero_add]; exact hj) ?_
                          go_wp2
                          exact ⟨rfl, _, rfl, Below.refl _ _, rfl⟩
                        · intro o ho a' w' hb hfr hdep
                          obtain rfl := Option.some.inj ho
                          have g159 : a'.tmps[159]?.getD undef = .slice (some ⟨xb, xo, none⟩) X.length cX := by have h := hdep 0 _ rfl (by kernel_rfl); simpa using h
                          have g163 : a'.tmps[163]?.getD undef = .int .i64 v := by have h := hdep 4 _ rfl (by kernel_rfl); simpa using h
                          have g164 : a'.tmps[164]?.getD undef = .agg #[.slice a5 F0.length c5, .slice (some ⟨lb, 0, none⟩) Ls.length c7] := by have h := hdep 5 _ rfl (by kernel_rfl); simpa using h
                          clear ho hfr hdep
                          have hc0 := hchk3 (ints F0) ((ints Ls).set r ((y : Int) + 1)) a5 (some ⟨lb, 0, none⟩) F0.length c5 Ls.length c7 w' hb (hF19.below hb) (hoL19.sl.below hb) (by rw [HI1.out]; omega) (by rw [List.length_set, HI2.out]; omega)
                          rw [HC1.out] at hc0
                          go_wp2_with fail
                          refine hc0.mono ?_
                          rintro e w4 ⟨rfl, h4⟩
                          go_wp2_with fail
                          exact ⟨rfl, _, rfl, h4, rfl⟩
                        · intro o ho a' w' hb hfr hdep
                          obtain rfl := Option.some.inj ho
                          have g165 : a'.tmps[165]?.getD undef = .int .i64 19 := by have h := hdep 6 _ rfl (by kernel_rfl); simpa using h
                          clear ho hfr hdep
                          go_wp2_with fail
                          exact ⟨rfl, _, rfl, Below.refl _ _, rfl⟩
                        · intro o ho a' w' hb hfr hdep
                          obtain rfl := Option.some.inj ho
                          have g166 : a'.tmps[166]?.getD undef = .bool false := by have h := hdep 7 _ rfl (by kernel_rfl); simpa using h
                          clear ho hfr hdep
                          go_wp2_with fail
                          exact ⟨rfl, _, rfl, Below.refl _ _, rfl⟩
                        · intro o ho a' w' hb hfr hdep
                          obtain rfl := Option.some.inj ho
                          have g11 : a'.tmps[11]?.getD undef = .slice (some ⟨xb, xo, none⟩) X.length cX := by have h := hfr 11 (by kernel_rfl); simpa using h
                          have g167 : a'.tmps[167]?.getD undef = .bool false := by have h := hdep 8 _ rfl (by kernel_rfl); simpa using h
                          have q167 := opt_bool g167
                          clear ho hfr hdep
                          go_wp2_with fail
                          exact ⟨rfl, _, rfl, Below.refl _ _, rfl⟩
                        · intro o ho a' w' hb hfr hdep
                          obtain rfl := Option.some.inj ho
                          have g12 : a'.tmps[12]?.getD undef = .slice (some ⟨ab, ao, none⟩) 2 2 := by have h := hfr 12 (by kernel_rfl); simpa using h
                          have g167 : a'.tmps[167]?.getD undef = .bool false := by have h := hdep 8 _ rfl (by kernel_rfl); simpa using h
                          have q167 := opt_bool g167
                          clear ho hfr hdep
                          go_wp2_with fail
                          exact ⟨rfl, _, rfl, Below.refl _ _, rfl⟩
                        · intro o ho a' w' hb hfr hdep
                          obtain rfl := Option.some.inj ho
                          have g13 : a'.tmps[13]?.getD undef = .int .i64 (k : Int) := by have h := hfr 13 (by kernel_rfl); simpa using h
                          have g167 : a'.tmps[167]?.getD undef = .bool false := by have h := hdep 8 _ rfl (by kernel_rfl); simpa using h
                          have q167 := opt_bool g167
                          clear ho hfr hdep
                          go_wp2_with fail
                          exact ⟨rfl, _, rfl, Below.refl _ _, rfl⟩
                        · intro o ho a' w' hb hfr hdep
                          obtain rfl := Option.some.inj ho
                          have g169 : a'.tmps[169]?.getD undef = .slice (some ⟨ab, ao, none⟩) 2 2 := by have h := hdep 10 _ rfl (by kernel_rfl); simpa using h
                          have g170 : a'.tmps[170]?.getD undef = .int .i64 (k : Int) := by have h := hdep 11 _ rfl (by kernel_rfl); simpa using h
                          have g167 : a'.tmps[167]?.getD undef = .bool false := by have h := hdep 8 _ rfl (by kernel_rfl); simpa using h
                          have q167 := opt_bool g167
                          clear ho hfr hdep
                          go_wp2_with fail
                          exact ⟨rfl, _, rfl, Below.refl _ _, rfl⟩
                        · intro o ho a' w' hb hfr hdep
                          obtain rfl := Option.some.inj ho
                          have g171 : a'.tmps[171]?.getD undef = .pointer (some ⟨ab, ao + k, none⟩) := by have h := hdep 12 _ rfl (by kernel_rfl); simpa using h
                          have g167 : a'.tmps[167]?.getD undef = .bool false := by have h := hdep 8 _ rfl (by kernel_rfl); simpa using h
                          have q167 := opt_bool g167
                          clear ho hfr hdep
                          have hcl := hcv4 _ hb
                          go_wp2_with fail
                          exact ⟨rfl, _, rfl, Below.refl _ _, rfl⟩
                        · intro o ho a' w' hb hfr hdep
                          obtain rfl := Option.some.inj ho
                          have g24 : a'.tmps[24]?.getD undef = .pointer (some ⟨b24, 0, none⟩) := by have h := hfr 24 (by kernel_rfl); simpa using h
                          have g167 : a'.tmps[167]?.getD undef = .bool false := by have h := hdep 8 _ rfl (by kernel_rfl); simpa using h
                          have q167 := opt_bool g167
                          clear ho hfr hdep
                          refine load_box_g 173 31 _ 31 b24 0 _ [.slice a8 (F0.length + 1) c8, .slice a6 Ls.length c6] isAgg_tcert (size_tcert _ _) (hx19.under hb) (by show a'.tmps.getD 24 undef = _; simpa using g24) (fun j u hj => by rw [Nat.zero_add]; exact hj) (by simp [Region.wanted, yielded, q167]) ?_
                          go_wp2
                          exact ⟨rfl, _, rfl, Below.refl _ _, rfl⟩
                        · intro o ho a' w' hb hfr hdep
                          obtain rfl := Option.some.inj ho
                          have g168 : a'.tmps[168]?.getD undef = .slice (some ⟨xb, xo, none⟩) X.length cX := by have h := hdep 9 _ rfl (by kernel_rfl); simpa using h
                          have g172 : a'.tmps[172]?.getD undef = .int .i64 v := by have h := hdep 13 _ rfl (by kernel_rfl); simpa using h
                          have g173 : a'.tmps[173]?.getD undef = .agg #[.slice a8 (F0.length + 1) c8, .slice a6 Ls.length c6] := by have h := hdep 14 _ rfl (by kernel_rfl); simpa using h
                          have g167 : a'.tmps[167]?.getD undef = .bool false := by have h := hdep 8 _ rfl (by kernel_rfl); simpa using h
                          have q167 := opt_bool g167
                          clear ho hfr hdep
                          have hc0 := hchk3 (ints F0 ++ [z8]) (ints Ls) a8 a6 (F0.length + 1) c8 Ls.length c6 w' hb (ho8_19.sl.below hb) (hL19.below hb) (by rw [List.length_append, HI1.out]; simp; omega) (by rw [HI2.out]; omega)
                          rw [HC2.out] at hc0
                          go_wp2_with fail
                          refine hc0.mono ?_
                          rintro e w4 ⟨rfl, h4⟩
                          go_wp2_with fail
                          exact ⟨rfl, _, rfl, h4, rfl⟩
                        · intro o ho a' w' hb hfr hdep
                          obtain rfl := Option.some.inj ho
                          have g174 : a'.tmps[174]?.getD undef = .int .i64 19 := by have h := hdep 15 _ rfl (by kernel_rfl); simpa using h
                          have g167 : a'.tmps[167]?.getD undef = .bool false := by have h := hdep 8 _ rfl (by kernel_rfl); simpa using h
                          have q167 := opt_bool g167
                          clear ho hfr hdep
                          go_wp2_with fail
                          exact ⟨rfl, _, rfl, Below.refl _ _, rfl⟩
                      · intro g w20 hb20 hp20
                        have p167 := hp20 8 _ rfl
                        have p175 := hp20 16 _ rfl
                        clear hp20
                        simp at p167 p175
                        simp only [List.drop_succ_cons, List.drop_zero, List.map_cons, List.map_nil, putAll, Act.put, List.setIfInBounds_toArray, List.set_cons_succ, List.set_cons_zero, p167, p175]
                        clear p167 p175
                        have hb3z := hb319.trans (hb20.mono hb319.size)
                        go_wp2_with fail
                        go_roundg (2 - (k + 1))
                        case measure => have := HG.out; omega
                        case rel => exact ⟨k + 1, by omega, rfl, by go_num, hb3z⟩
    · obtain rfl : 2 = k := by omega
      have hpr := hp3.below hbk
      go_wp2_with fail
      refine (ref15_Spoilt X hsX aX X.length cX at_ how by_ wr hpr HX hat hho hby).mono ?_
      rintro e w4 ⟨Y, aY, cY, hsY, rfl, hpY, hb4⟩
      have hbk4 := hbk.trans (hb4.mono hbk.size)
      obtain ⟨P, F0, Ls, hlay⟩ := LayOf.ex Y v0
      have hcy := fun (w' : World) (h : Below w4.heap.size w4 w') => tab_check_any hlay hsY aY Y.length cY [] [] none none 0 0 0 0 w' (hpY.below h) (Sl.empty _ _) (Sl.empty _ _) (by simp) (by simp)
      have hcz := fun (w' : World) (h : Below w4.heap.size w4 w') => ref_check_any hlay hsY aY Y.length cY [] [] none none 0 0 0 0 w' (hpY.below h) (by omega) (Sl.empty _ _) (Sl.empty _ _) (by simp) (by simp)
      generalize chkT Y v0 F0.length Ls [] [] = ck at *
      have hc00 := hcw 0 (.int .i64 v0) rfl
      have hcv5 : ∀ w', Below w4.heap.size w4 w' → w'.cell? ⟨ab, ao, none⟩ = some (.int .i64 v0) := fun w' h => by
        have hb := hbk4.trans (h.mono hbk4.size)
        rw [hb.cell hab]; exact hc00
      have hlv := fun w' => law15_lives w'
      clear hpr hc00 hlay hbk hb4
      go_upto_region 24 with fail
      refine wp_region_free 16 [⟨0, 182, [182], fun vs _ => vs = [.slice aY Y.length cY]⟩, ⟨1, 183, [183], fun vs _ => vs = [.slice (some ⟨ab, ao, none⟩) 2 2]⟩, ⟨2, 184, [184], fun vs _ => vs = [.pointer (some ⟨ab, ao, none⟩)]⟩, ⟨3, 185, [185], fun vs _ => vs = [.int .i64 v0]⟩, ⟨4, 186, [186], fun vs _ => vs = [.agg #[.slice none 0 0, .slice none 0 0]]⟩, ⟨5, 187, [187], fun vs _ => vs = [.int .i64 ck]⟩, ⟨6, 188, [188], fun vs _ => vs = [.slice aY Y.length cY]⟩, ⟨7, 189, [189], fun vs _ => vs = [.slice (some ⟨ab, ao, none⟩) 2 2]⟩, ⟨8, 190, [190], fun vs _ => vs = [.pointer (some ⟨ab, ao, none⟩)]⟩, ⟨9, 191, [191], fun vs _ => vs = [.int .i64 v0]⟩, ⟨10, 192, [192], fun vs _ => vs = [.agg #[.slice none 0 0, .slice none 0 0]]⟩, ⟨11, 193, [193], fun vs _ => vs = [.int .i64 ck]⟩, ⟨12, 194, [194], fun vs _ => vs = [.bool true]⟩, ⟨13, 195, [195], fun vs _ => vs = [.bool true]⟩, ⟨14, 196, [196], fun vs _ => vs = [.bool true]⟩, ⟨15, 197, [197], fun vs _ => vs = [.bool true]⟩] (by kernel_rfl) (by kernel_rfl) ?_ ?_ ?_
      · simp only [All]
        refine ⟨fun _ _ _ _ h => h, fun _ _ _ _ h => h, fun _ _ _ _ h => h, fun _ _ _ _ h => h, fun _ _ _ _ h => h, fun _ _ _ _ h => h, fun _ _ _ _ h => h, fun _ _ _ _ h => h, fun _ _ _ _ h => h, fun _ _ _ _ h => h, fun _ _ _ _ h => h, fun _ _ _ _ h => h, fun _ _ _ _ h => h, fun _ _ _ _ h => h, fun _ _ _ _ h => h, fun _ _ _ _ h => h, trivial⟩
      · simp only [All]
        refine ⟨?_, ?_, ?_, ?_, ?_, ?_, ?_, ?_, ?_, ?_, ?_, ?_, ?_, ?_, ?_, ?_, trivial⟩
        · intro o ho a' w' hb hfr hdep
          obtain rfl := Option.some.inj ho
          have g25 : a'.tmps[25]?.getD undef = .slice aY Y.length cY := by have h := hfr 25 (by kernel_rfl); simpa using h
          clear ho hfr hdep
          go_wp2_with fail
          exact ⟨rfl, _, rfl, Below.refl _ _, rfl⟩
        · intro o ho a' w' hb hfr hdep
          obtain rfl := Option.some.inj ho
          have g12 : a'.tmps[12]?.getD undef = .slice (some ⟨ab, ao, none⟩) 2 2 := by have h := hfr 12 (by kernel_rfl); simpa using h
          clear ho hfr hdep
          go_wp2_with fail
          exact ⟨rfl, _, rfl, Below.refl _ _, rfl⟩
        · intro o ho a' w' hb hfr hdep
          obtain rfl := Option.some.inj ho
          have g183 : a'.tmps[183]?.getD undef = .slice (some ⟨ab, ao, none⟩) 2 2 := by have h := hdep 1 _ rfl (by kernel_rfl); simpa using h
          clear ho hfr hdep
          go_wp2_with fail
          exact ⟨rfl, _, rfl, Below.refl _ _, rfl⟩
        · intro o ho a' w' hb hfr hdep
          obtain rfl := Option.some.inj ho
          have g184 : a'.tmps[184]?.getD undef = .pointer (some ⟨ab, ao, none⟩) := by have h := hdep 2 _ rfl (by kernel_rfl); simpa using h
          clear ho hfr hdep
          have hcl := hcv5 _ hb
          go_wp2_with fail
          exact ⟨rfl, _, rfl, Below.refl _ _, rfl⟩
        · intro o ho a' w' hb hfr hdep
          obtain rfl := Option.some.inj ho
          clear ho hfr hdep
          go_wp2_with fail
          exact ⟨rfl, _, rfl, Below.refl _ _, rfl⟩
        · intro o ho a' w' hb hfr hdep
          obtain rfl := Option.some.inj ho
          have g182 : a'.tmps[182]?.getD undef = .slice aY Y.length cY := by have h := hdep 0 _ rfl (by kernel_rfl); simpa using h
          have g185 : a'.tmps[185]?.getD undef = .int .i64 v0 := by have h := hdep 3 _ rfl (by kernel_rfl); simpa using h
          have g186 : a'.tmps[186]?.getD undef = .agg #[.slice none 0 0, .slice none 0 0] := by have h := hdep 4 _ rfl (by kernel_rfl); simpa using h
          clear ho hfr hdep
          go_wp2_with fail
          refine (hcy _ hb).mono ?_
          rintro e w5 ⟨rfl, h5⟩
          go_wp2_with fail
          exact ⟨rfl, _, rfl, h5, rfl⟩
        · intro o ho a' w' hb hfr hdep
          obtain rfl := Option.some.inj ho
          have g25 : a'.tmps[25]?.getD undef = .slice aY Y.length cY := by have h := hfr 25 (by kernel_rfl); simpa using h
          clear ho hfr hdep
          go_wp2_with fail
          exact ⟨rfl, _, rfl, Below.refl _ _, rfl⟩
        · intro o ho a' w' hb hfr hdep
          obtain rfl := Option.some.inj ho
          have g12 : a'.tmps[12]?.getD undef = .slice (some ⟨ab, ao, none⟩) 2 2 := by have h := hfr 12 (by kernel_rfl); simpa using h
          clear ho hfr hdep
          go_wp2_with fail
          exact ⟨rfl, _, rfl, Below.refl _ _, rfl⟩
        · intro o ho a' w' hb hfr hdep
          obtain rfl := Option.some.inj ho
          have g189 : a'.tmps[189]?.getD undef = .slice (some ⟨ab, ao, none⟩) 2 2 := by have h := hdep 7 _ rfl (by kernel_rfl); simpa using h
          clear ho hfr hdep
          go_wp2_with fail
          exact ⟨rfl, _, rfl, Below.refl _ _, rfl⟩
        · intro o ho a' w' hb hfr hdep
          obtain rfl := Option.some.inj ho
          have g190 : a'.tmps[190]?.getD undef = .pointer (some ⟨ab, ao, none⟩) := by have h := hdep 8 _ rfl (by kernel_rfl); simpa using h
          clear ho hfr hdep
          have hcl := hcv5 _ hb
          go_wp2_with fail
          exact ⟨rfl, _, rfl, Below.refl _ _, rfl⟩
        · intro o ho a' w' hb hfr hdep
          obtain rfl := Option.some.inj ho
          clear ho hfr hdep
          go_wp2_with fail
          exact ⟨rfl, _, rfl, Below.refl _ _, rfl⟩
        · intro o ho a' w' hb hfr hdep
          obtain rfl := Option.some.inj ho
          have g188 : a'.tmps[188]?.getD undef = .slice aY Y.length cY := by have h := hdep 6 _ rfl (by kernel_rfl); simpa using h
          have g191 : a'.tmps[191]?.getD undef = .int .i64 v0 := by have h := hdep 9 _ rfl (by kernel_rfl); simpa using h
          have g192 : a'.tmps[192]?.getD undef = .agg #[.slice none 0 0, .slice none 0 0] := by have h := hdep 10 _ rfl (by kernel_rfl); simpa using h
          clear ho hfr hdep
          go_wp2_with fail
          refine (hcz _ hb).mono ?_
          rintro e w5 ⟨rfl, h5⟩
          go_wp2_with fail
          exact ⟨rfl, _, rfl, h5, rfl⟩
        · intro o ho a' w' hb hfr hdep
          obtain rfl := Option.some.inj ho
          have g187 : a'.tmps[187]?.getD undef = .int .i64 ck := by have h := hdep 5 _ rfl (by kernel_rfl); simpa using h
          have g193 : a'.tmps[193]?.getD undef = .int .i64 ck := by have h := hdep 11 _ rfl (by kernel_rfl); simpa using h
          clear ho hfr hdep
          go_wp2_with fail
          exact ⟨rfl, _, rfl, Below.refl _ _, rfl⟩
        · intro o ho a' w' hb hfr hdep
          obtain rfl := Option.some.inj ho
          have g194 : a'.tmps[194]?.getD undef = .bool true := by have h := hdep 12 _ rfl (by kernel_rfl); simpa using h
          clear ho hfr hdep
          go_wp2_with fail
          exact ⟨rfl, _, rfl, Below.refl _ _, rfl⟩
        · intro o ho a' w' hb hfr hdep
          obtain rfl := Option.some.inj ho
          have g195 : a'.tmps[195]?.getD undef = .bool true := by have h := hdep 13 _ rfl (by kernel_rfl); simpa using h
          have q195 := opt_bool g195
          clear ho hfr hdep
          go_wp2_with fail
          refine (hlv _).mono ?_
          rintro e w5 ⟨rfl, h5⟩
          go_wp2_with fail
          exact ⟨rfl, _, rfl, h5, rfl⟩
        · intro o ho a' w' hb hfr hdep
          obtain rfl := Option.some.inj ho
          have g195 : a'.tmps[195]?.getD undef = .bool true := by have h := hdep 13 _ rfl (by kernel_rfl); simpa using h
          have g196 : a'.tmps[196]?.getD undef = .bool true := by have h := hdep 14 _ rfl (by kernel_rfl); simpa using h
          clear ho hfr hdep
          go_wp2_with fail
          exact ⟨rfl, _, rfl, Below.refl _ _, rfl⟩
      · intro g w6 hb6 hp6
        have p197 := hp6 15 _ rfl
        clear hp6
        simp at p197
        simp only [List.drop_succ_cons, List.drop_zero, List.map_cons, List.map_nil, putAll, Act.put, List.setIfInBounds_toArray, List.set_cons_succ, List.set_cons_zero, p197]
        clear p197
        have hfin := hbw3.trans ((hbk4.trans (hb6.mono hbk4.size)).mono hbw3.size)
        go_wp2_with fail
        go_ret
        exact ⟨rfl, hfin⟩
end Go.Proofs.Ytmjkhmebpciopaa
end
