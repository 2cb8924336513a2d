/- The contracts of the functions that the law reaches, joined into one text. -/
import Derived.Test.YtmjkhmebpciopaaLawT55a
import Derived.Deep.CutBlock
set_option linter.unusedVariables false
set_option linter.unusedSimpArgs false

/- the text T43 -/
section
/- Chapter 15: the reference's Check. -/
namespace Go.Proofs.Ytmjkhmebpciopaa
open Go.RowKit Go.Dx

theorem idx_known_off {w : World} {ops : Array Oper} {rest : List Oper} {act : Act} {Q : Exit → Act → World → Prop} {ty : TypeId} {pos : String} {after : Array Edge} (d : Nat) (x y : Operand) (b o n c : Nat) (hx : act.eval x = .slice (some ⟨b, o, none⟩) n c) (hn : 1 ≤ n)
    (hy : act.eval y = .int .i64 0) (hK : wpList Try.prog ops Q rest (act.put (some d) (.pointer (some ⟨b, o, none⟩))) w) :
    wpList Try.prog ops Q ({ dst := some d, op := .indexAddr 22 x y, type := ty, pos := pos, after := after, guard := none } :: rest) act w := by
  refine wpList_plain rfl fun K hK' => ?_
  obtain ⟨i0, hi0, hs0⟩ := Option.map_eq_some_iff.1 size_int
  have hrun : (Instr.indexAt 22 (.slice (some ⟨b, o, none⟩) n c) (.int .i64 0)).run Try.prog w = .ok (.pointer (some ⟨b, o, none⟩)) w := by
    have h0 : 0 < n := hn
    simp [Instr.indexAt, asIntOf, run_underlying Try.underlying22, sizeOf, typeInfo, hi0, hs0, h0, Addr.add_lit]
  unfold Oper.wp
  simp [execOp, hx, hy, hrun, Result.andThen]
  exact hK' _ _ hK
set_option maxRecDepth 100000 in
set_option maxHeartbeats 400000 in
theorem ref15_Check_no (X : List (List (List UInt8))) (hs : List Hd) (a : Option Addr) (n c : Nat) (W : Int) (aF aL : Option Addr) (nF cF nL cL : Nat) (w : World) (hp : Pg3 w a n c hs X) (hW : -9223372036854775808 ≤ W ∧ W ≤ 9223372036854775807) (hE : errT X W ≠ 0) :
    Calls Try.prog 24 #[.slice a n c, .int .i64 W, .agg #[.slice aF nF cF, .slice aL nL cL]] w fun e w' => e = .returned (.int .i64 (errT X W)) ∧ Below w.heap.size w w' := by
  have hb0 := blo w (.cells #[.slice aF nF cF, .slice aL nL cL] 35)
  have he := ref15_Error X hs a n c W _ (hp.below hb0) hW
  have hne : (errT X W != 0) = true := by simp [hE]
  generalize errT X W = E at *
  clear hE
  go_enter Try.func24, Try.ntmps24
  go_wp2_with fail
  refine he.mono ?_
  rintro e w2 ⟨rfl, rfl⟩
  go_wp2_with fail
  go_ret
  exact ⟨rfl, hb0⟩

set_option maxRecDepth 100000 in
set_option maxHeartbeats 2000000 in
theorem ref15_Check (X : List (List (List UInt8))) (hs : List Hd) (a : Option Addr) (n c : Nat) (W : Int) (L T : Nat → Nat) (F L' : List Int) (aF aL : Option Addr) (nF cF nL cL : Nat) (w : World) (hp : Pg3 w a n c hs X) (hW : -9223372036854775808 ≤ W ∧ W ≤ 9223372036854775807) (hE : errT X W = 0) (hS : Sol (colW X) (nCols X) X.length W L T 1)
    (hF : Sl w 1 aF nF cF (F.map I64)) (hL : Sl w 1 aL nL cL (L'.map I64)) (hFl : F.length ≤ 1000000) (hLl : L'.length ≤ 1000000) :
    Calls Try.prog 24 #[.slice a n c, .int .i64 W, .agg #[.slice aF nF cF, .slice aL nL cL]] w fun e w' => e = .returned (.int .i64 (chkT X W (chain (nCols X) T (nCols X) 1).length (leastL (nCols X) L) F L')) ∧ Below w.heap.size w w' := by
  obtain rfl := hp.n_eq
  obtain rfl : nF = F.length := by simpa using hF.n_eq
  obtain rfl : nL = L'.length := by simpa using hL.n_eq
  obtain ⟨HX, hW1, hW2, hfit⟩ := errT_zero hE
  have hb0 := blo w (.cells #[.slice aF F.length cF, .slice aL L'.length cL] 35)
  have hx0 := Box.new w 35 #[.slice aF F.length cF, .slice aL L'.length cL]
  have he := ref15_Error X hs a X.length c W _ (hp.below hb0) hW
  rw [hE] at he
  have hlt0 : ∀ w', Below w.heap.size w w' → Calls Try.prog 33 #[.slice a X.length c, .int .i64 W] w' fun e w2 => ∃ a', e = .returned (.slice a' (nCols X) (nCols X)) ∧ Sl w2 1 a' (nCols X) (nCols X) ((ints (leastL (nCols X) L)).map I64) ∧ Below w'.heap.size w' w2 := fun w' h =>
    (ref15_Least X hs a X.length c W L T w' (hp.below h) HX.row HX.r1 HX.r2 HX.c2 HX.c1 HX.le hfit.cols hS).mono (fun e w2 ⟨a', h1, h2, _, h3⟩ => ⟨a', h1, h2, h3⟩)
  have hsz : ∀ (j k : Nat) (w' : World), Below w.heap.size w w' → j ≤ 1000 → k ≤ nCols X → Calls Try.prog 34 #[.slice a X.length c, .int .i64 (j : Int), .int .i64 (k : Int)] w' fun e w2 => e = .returned (.int .i64 (sizeW (colW X) j (k - j) : Int)) ∧ w' = w2 := fun j k w' h hj hk =>
    ref15_Size X hs a X.length c (nCols X) j k w' (hp.below h) HX.row HX.c1 hk (by have := HX.c2; omega) hj HX.le
  have hn1 := HX.c1
  have hn2 := HX.c2
  have hr1 := HX.r1
  have hr2 := HX.r2
  obtain ⟨x0, hx00⟩ : ∃ x, X[0]? = some x := ⟨X[0]'(by omega), by simp⟩
  obtain ⟨ax0, cx0, ks0, hux0, hpx0⟩ := hp.get hx00
  rw [← nCols_of hx00] at hux0
  have HUX := hide hux0
  have htop := hp.top.below hb0
  have HCH : Hid (∀ (F L' : List Int), chkT X W (chain (nCols X) T (nCols X) 1).length (leastL (nCols X) L) F L' = if L' = ints (leastL (nCols X) L) ∧ F.length = (chain (nCols X) T (nCols X) 1).length then (if (List.range F.length).all (okPart (colW X) (nCols X) W F) = true then 0 else 19) else 19) := hide (fun F L' => by unfold chkT; rw [if_neg (fun h => h hE)])
  have HLL : Hid ((ints (leastL (nCols X) L)).length = nCols X) := hide (by unfold ints; rw [List.length_map, leastL_len])
  have HLN : Hid (1 < nCols X → L 1 + 1 = (chain (nCols X) T (nCols X) 1).length * (X.length + 1)) := hide (fun h => hS.lines 1 (Nat.le_refl _) h)
  have HL0 : Hid (1 < nCols X → (ints (leastL (nCols X) L))[0]? = some (L 1 : Int)) := hide (fun h => ints_get (by rw [leastL_get L (by omega : 0 < nCols X), if_pos (by omega)]))
  have HC1 : Hid (nCols X = 1 → (chain (nCols X) T (nCols X) 1).length = 0) := hide (fun h => by rw [h, chain_stop (by omega)]; rfl)
  have hcl := chain_len (n := nCols X) (T := T) (nCols X) 1
  clear hE hS hfit HX hp hx00 hux0 hpx0
  generalize chkT X W (chain (nCols X) T (nCols X) 1).length (leastL (nCols X) L) = CK at *
  generalize ints (leastL (nCols X) L) = LI at *
  generalize (chain (nCols X) T (nCols X) 1).length = m at *
  generalize colW X = f at *
  generalize nCols X = N at *
  generalize L 1 = M1 at *
  obtain ⟨D, HDD⟩ : ∃ D, Hid (decide (L' = LI) = D) := ⟨_, hide rfl⟩
  have hlt := hlt0
  clear hlt0
  go_enter Try.func24, Try.ntmps24
  go_wp2_with fail
  refine he.mono ?_
  rintro e w2 ⟨rfl, rfl⟩
  go_upto_region 5 with (with_reducible refine idx_3 19 _ _ _ _ _ hs rfl htop _ _ 0 rfl rfl _ HUX.out ?_; intro b o hcell hbo)
  clear he htop
  refine wp_region_free 6 [⟨0, 22, [22], fun vs _ => vs = [.pointer (some ⟨w.heap.size, 1, none⟩)]⟩, ⟨1, 23, [23], fun vs _ => vs = [.slice aL L'.length cL]⟩, ⟨2, 24, [24], fun vs _ => vs = [.slice a X.length c]⟩, ⟨3, 25, [25], fun vs _ => vs = [.int .i64 W]⟩, ⟨4, 26, [26], fun vs w => ∃ a, vs = [.slice a N N] ∧ Sl w 1 a N N (LI.map I64)⟩, ⟨5, 27, [27], fun vs _ => vs = [.bool D]⟩] (by kernel_rfl) (by kernel_rfl) ?_ ?_ ?_
  · simp only [All]
    refine ⟨fun _ _ _ _ h => h, fun _ _ _ _ h => h, fun _ _ _ _ h => h, fun _ _ _ _ h => h, ?_, fun _ _ _ _ h => h, trivial⟩
    · rintro vs w w' hb ⟨a, h1, h2⟩
      exact ⟨a, h1, h2.below hb⟩
  · simp only [All]
    refine ⟨?_, ?_, ?_, ?_, ?_, ?_, trivial⟩
    · intro o ho a' w' hb hfr hdep
      obtain rfl := Option.some.inj ho
      have g5 : a'.tmps[5]?.getD undef = .pointer (some ⟨w.heap.size, 0, none⟩) := by have h := hfr 5 (by kernel_rfl); simpa using h
      clear ho hfr hdep
      go_wp2_with fail
      exact ⟨rfl, _, rfl, Below.refl _ _, rfl⟩
    · intro o ho a' w' hb hfr hdep
      obtain rfl := Option.some.inj ho
      have g22 : a'.tmps[22]?.getD undef = .pointer (some ⟨w.heap.size, 1, none⟩) := by have h := hdep 0 _ rfl (by kernel_rfl); simpa using h
      clear ho hfr hdep
      have hcl := (hx0.under hb).at_ (j := 1) rfl
      go_wp2_with fail
      exact ⟨rfl, _, rfl, Below.refl _ _, rfl⟩
    · intro o ho a' w' hb hfr hdep
      obtain rfl := Option.some.inj ho
      have g0 : a'.tmps[0]?.getD undef = .slice a X.length c := by have h := hfr 0 (by kernel_rfl); simpa using h
      clear ho hfr hdep
      go_wp2_with fail
      exact ⟨rfl, _, rfl, Below.refl _ _, rfl⟩
    · intro o ho a' w' hb hfr hdep
      obtain rfl := Option.some.inj ho
      have g1 : a'.tmps[1]?.getD undef = .int .i64 W := by have h := hfr 1 (by kernel_rfl); simpa using h
      clear ho hfr hdep
      go_wp2_with fail
      exact ⟨rfl, _, rfl, Below.refl _ _, rfl⟩
    · intro o ho a' w' hb hfr hdep
      obtain rfl := Option.some.inj ho
      have g24 : a'.tmps[24]?.getD undef = .slice a X.length c := by have h := hdep 2 _ rfl (by kernel_rfl); simpa using h
      have g25 : a'.tmps[25]?.getD undef = .int .i64 W := by have h := hdep 3 _ rfl (by kernel_rfl); simpa using h
      clear ho hfr hdep
      go_wp2_with fail
      refine (hlt _ (hb0.trans (hb.mono hb0.size))).mono ?_
      rintro e w3 ⟨a3, rfl, h2, h3⟩
      go_wp2_with fail
      exact ⟨rfl, _, rfl, h3, a3, rfl, h2⟩
    · intro o ho a' w' hb hfr hdep
      obtain rfl := Option.some.inj ho
      have g23 : a'.tmps[23]?.getD undef = .slice aL L'.length cL := by have h := hdep 1 _ rfl (by kernel_rfl); simpa using h
      obtain ⟨a3, g26, hs26⟩ := hdep 4 _ rfl (by kernel_rfl)
      replace g26 : a'.tmps[26]?.getD undef = .slice a3 N N := by simpa using g26
      clear ho hfr hdep
      have hL2 := hL.below (hb0.trans (hb.mono hb0.size))
      go_wp2_with fail
      refine (SameInts_at HDD.out hL2 hs26).mono ?_
      rintro e w3 ⟨rfl, h2⟩
      go_wp2_with fail
      exact ⟨rfl, _, rfl, h2, rfl⟩
  · intro g w2 hb2 hp2
    have p27 := hp2 5 _ rfl
    clear hp2
    simp at p27
    simp only [List.drop_succ_cons, List.drop_zero, List.map_cons, List.map_nil, putAll, Act.put, List.setIfInBounds_toArray, List.set_cons_succ, List.set_cons_zero, p27]
    clear p27
    have hbw2 := hb0.trans (hb2.mono hb0.size)
    have hx2 := hx0.under hb2
    have hF2 := hF.below hbw2
    have hL2 := hL.below hbw2
    clear hb2 hx0 hb0 hlt
    cases D
    · have HANS : Hid (CK F L' = 19) := hide (by rw [HCH.out, if_neg (fun h => by have := HDD.out; rw [decide_eq_true h.1] at this; cases this)])
      go_wp2_with fail
      go_ret
      exact ⟨by rw [HANS.out]; rfl, hbw2⟩
    have HLE : Hid (L' = LI) := hide (of_decide_eq_true HDD.out)
    by_cases hN1 : N = 1
    · have hN1' : ((N : Int) == 1) = true := by simp [hN1]
      have c0 := hx2.at_ (j := 0) rfl
      by_cases hf0 : F.length = 0
      · have d3 : decide (0 < (F.length : Int)) = false := decide_eq_false (by omega)
        have d3' : decide (0 < F.length) = false := decide_eq_false (by omega)
        have HANS : Hid (CK F L' = 0) := hide (by rw [HCH.out, if_pos ⟨HLE.out, by rw [HC1.out hN1, hf0]⟩, hf0]; rfl)
        clear hN1 hf0
        go_wp2_with fail
        go_ret
        exact ⟨by rw [HANS.out]; rfl, hbw2⟩
      · have d3 : decide (0 < (F.length : Int)) = true := decide_eq_true (by omega)
        have d3' : decide (0 < F.length) = true := decide_eq_true (by omega)
        have HANS : Hid (CK F L' = 19) := hide (by rw [HCH.out, if_neg (fun h => hf0 (by rw [h.2, HC1.out hN1]))])
        clear hN1 hf0
        go_wp2_with fail
        go_ret
        exact ⟨by rw [HANS.out]; rfl, hbw2⟩
    have hN1' : ((N : Int) == 1) = false := by simp; omega
    have hN2 : 1 < N := by omega
    clear hN1
    have HM := hide (HLN.out hN2)
    by_cases hf0 : F.length = 0
    · have d3 : ((F.length : Int) == 0) = true := by simp [hf0]
      have HANS : Hid (CK F L' = 19) := hide (by
        rw [HCH.out, if_neg (fun h => by
          have h1 := HM.out
          rw [← h.2, hf0] at h1
          omega)])
      clear hf0
      go_upto_region 11 with fail
      refine wp_region_free 18 [⟨0, 35, [35], fun vs _ => vs = [.pointer (some ⟨w.heap.size, 0, none⟩)]⟩, ⟨1, 36, [36], fun vs _ => vs = [.slice aF F.length cF]⟩, ⟨2, 37, [37], fun vs _ => vs = [.int .i64 (F.length : Int)]⟩, ⟨3, 38, [38], fun vs _ => vs = [.bool true]⟩, ⟨4, 39, [39], fun vs _ => vs = [.bool true]⟩, ⟨5, 40, [40], fun vs _ => vs = [undef]⟩, ⟨6, 41, [41], fun vs _ => vs = [undef]⟩, ⟨7, 42, [42], fun vs _ => vs = [undef]⟩, ⟨8, 43, [43], fun vs _ => vs = [undef]⟩, ⟨9, 44, [44], fun vs _ => vs = [undef]⟩, ⟨10, 45, [45], fun vs _ => vs = [undef]⟩, ⟨11, 46, [46], fun vs _ => vs = [undef]⟩, ⟨12, 47, [47], fun vs _ => vs = [undef]⟩, ⟨13, 48, [48], fun vs _ => vs = [undef]⟩, ⟨14, 49, [49], fun vs _ => vs = [undef]⟩, ⟨15, 50, [50], fun vs _ => vs = [undef]⟩, ⟨16, 51, [51], fun vs _ => vs = [undef]⟩, ⟨17, 52, [52], fun vs _ => vs = [undef]⟩] (by kernel_rfl) (by kernel_rfl) ?_ ?_ ?_
      · simp only [All]
        refine ⟨fun _ _ _ _ h => h, fun _ _ _ _ h => h, fun _ _ _ _ h => h, fun _ _ _ _ h => h, fun _ _ _ _ h => h, fun _ _ _ _ h => h, fun _ _ _ _ h => h, fun _ _ _ _ h => h, fun _ _ _ _ h => h, fun _ _ _ _ h => h, fun _ _ _ _ h => h, fun _ _ _ _ h => h, fun _ _ _ _ h => h, fun _ _ _ _ h => h, fun _ _ _ _ h => h, fun _ _ _ _ h => h, fun _ _ _ _ h => h, fun _ _ _ _ h => h, trivial⟩
      · simp only [All]
        refine ⟨?_, ?_, ?_, ?_, ?_, ?_, ?_, ?_, ?_, ?_, ?_, ?_, ?_, ?_, ?_, ?_, ?_, ?_, trivial⟩
        · intro o ho a' w' hb hfr hdep
          obtain rfl := Option.some.inj ho
          have g5 : a'.tmps[5]?.getD undef = .pointer (some ⟨w.heap.size, 0, none⟩) := by have h := hfr 5 (by kernel_rfl); simpa using h
          clear ho hfr hdep
          go_wp2_with fail
          exact ⟨rfl, _, rfl, Below.refl _ _, rfl⟩
        · intro o ho a' w' hb hfr hdep
          obtain rfl := Option.some.inj ho
          have g35 : a'.tmps[35]?.getD undef = .pointer (some ⟨w.heap.size, 0, none⟩) := by have h := hdep 0 _ rfl (by kernel_rfl); simpa using h
          clear ho hfr hdep
          have hcl := (hx2.under hb).at_ (j := 0) rfl
          go_wp2_with fail
          exact ⟨rfl, _, rfl, Below.refl _ _, rfl⟩
        · intro o ho a' w' hb hfr hdep
          obtain rfl := Option.some.inj ho
          have g36 : a'.tmps[36]?.getD undef = .slice aF F.length cF := by have h := hdep 1 _ rfl (by kernel_rfl); simpa using h
          clear ho hfr hdep
          go_wp2_with fail
          exact ⟨rfl, _, rfl, Below.refl _ _, rfl⟩
        · intro o ho a' w' hb hfr hdep
          obtain rfl := Option.some.inj ho
          have g37 : a'.tmps[37]?.getD undef = .int .i64 (F.length : Int) := by have h := hdep 2 _ rfl (by kernel_rfl); simpa using h
          clear ho hfr hdep
          go_wp2_with fail
          exact ⟨rfl, _, rfl, Below.refl _ _, rfl⟩
        · intro o ho a' w' hb hfr hdep
          obtain rfl := Option.some.inj ho
          have g38 : a'.tmps[38]?.getD undef = .bool true := by have h := hdep 3 _ rfl (by kernel_rfl); simpa using h
          clear ho hfr hdep
          go_wp2_with fail
          exact ⟨rfl, _, rfl, Below.refl _ _, rfl⟩
        · intro o ho a' w' hb hfr hdep
          obtain rfl := Option.some.inj ho
          have g39 : a'.tmps[39]?.getD undef = .bool true := by have h := hdep 4 _ rfl (by kernel_rfl); simpa using h
          have q39 := opt_bool g39
          clear ho hfr hdep
          go_wp2_with fail
          exact ⟨rfl, _, rfl, Below.refl _ _, rfl⟩
        · intro o ho a' w' hb hfr hdep
          obtain rfl := Option.some.inj ho
          have g39 : a'.tmps[39]?.getD undef = .bool true := by have h := hdep 4 _ rfl (by kernel_rfl); simpa using h
          have q39 := opt_bool g39
          clear ho hfr hdep
          go_wp2_with fail
          exact ⟨rfl, _, rfl, Below.refl _ _, rfl⟩
        · intro o ho a' w' hb hfr hdep
          obtain rfl := Option.some.inj ho
          have g39 : a'.tmps[39]?.getD undef = .bool true := by have h := hdep 4 _ rfl (by kernel_rfl); simpa using h
          have q39 := opt_bool g39
          clear ho hfr hdep
          go_wp2_with fail
          exact ⟨rfl, _, rfl, Below.refl _ _, rfl⟩
        · intro o ho a' w' hb hfr hdep
          obtain rfl := Option.some.inj ho
          have g39 : a'.tmps[39]?.getD undef = .bool true := by have h := hdep 4 _ rfl (by kernel_rfl); simpa using h
          have q39 := opt_bool g39
          clear ho hfr hdep
          go_wp2_with fail
          exact ⟨rfl, _, rfl, Below.refl _ _, rfl⟩
        · intro o ho a' w' hb hfr hdep
          obtain rfl := Option.some.inj ho
          have g39 : a'.tmps[39]?.getD undef = .bool true := by have h := hdep 4 _ rfl (by kernel_rfl); simpa using h
          have q39 := opt_bool g39
          clear ho hfr hdep
          go_wp2_with fail
          exact ⟨rfl, _, rfl, Below.refl _ _, rfl⟩
        · intro o ho a' w' hb hfr hdep
          obtain rfl := Option.some.inj ho
          have g39 : a'.tmps[39]?.getD undef = .bool true := by have h := hdep 4 _ rfl (by kernel_rfl); simpa using h
          have q39 := opt_bool g39
          clear ho hfr hdep
          go_wp2_with fail
          exact ⟨rfl, _, rfl, Below.refl _ _, rfl⟩
        · intro o ho a' w' hb hfr hdep
          obtain rfl := Option.some.inj ho
          have g39 : a'.tmps[39]?.getD undef = .bool true := by have h := hdep 4 _ rfl (by kernel_rfl); simpa using h
          have q39 := opt_bool g39
          clear ho hfr hdep
          go_wp2_with fail
          exact ⟨rfl, _, rfl, Below.refl _ _, rfl⟩
        · intro o ho a' w' hb hfr hdep
          obtain rfl := Option.some.inj ho
          have g39 : a'.tmps[39]?.getD undef = .bool true := by have h := hdep 4 _ rfl (by kernel_rfl); simpa using h
          have q39 := opt_bool g39
          clear ho hfr hdep
          go_wp2_with fail
          exact ⟨rfl, _, rfl, Below.refl _ _, rfl⟩
        · intro o ho a' w' hb hfr hdep
          obtain rfl := Option.some.inj ho
          have g39 : a'.tmps[39]?.getD undef = .bool true := by have h := hdep 4 _ rfl (by kernel_rfl); simpa using h
          have q39 := opt_bool g39
          clear ho hfr hdep
          go_wp2_with fail
          exact ⟨rfl, _, rfl, Below.refl _ _, rfl⟩
        · intro o ho a' w' hb hfr hdep
          obtain rfl := Option.some.inj ho
          have g39 : a'.tmps[39]?.getD undef = .bool true := by have h := hdep 4 _ rfl (by kernel_rfl); simpa using h
          have q39 := opt_bool g39
          clear ho hfr hdep
          go_wp2_with fail
          exact ⟨rfl, _, rfl, Below.refl _ _, rfl⟩
        · intro o ho a' w' hb hfr hdep
          obtain rfl := Option.some.inj ho
          have g39 : a'.tmps[39]?.getD undef = .bool true := by have h := hdep 4 _ rfl (by kernel_rfl); simpa using h
          have q39 := opt_bool g39
          clear ho hfr hdep
          go_wp2_with fail
          exact ⟨rfl, _, rfl, Below.refl _ _, rfl⟩
        · intro o ho a' w' hb hfr hdep
          obtain rfl := Option.some.inj ho
          have g39 : a'.tmps[39]?.getD undef = .bool true := by have h := hdep 4 _ rfl (by kernel_rfl); simpa using h
          have q39 := opt_bool g39
          clear ho hfr hdep
          go_wp2_with fail
          exact ⟨rfl, _, rfl, Below.refl _ _, rfl⟩
        · intro o ho a' w' hb hfr hdep
          obtain rfl := Option.some.inj ho
          have g39 : a'.tmps[39]?.getD undef = .bool true := by have h := hdep 4 _ rfl (by kernel_rfl); simpa using h
          have q39 := opt_bool g39
          clear ho hfr hdep
          go_wp2_with fail
          exact ⟨rfl, _, rfl, Below.refl _ _, rfl⟩
      · intro g w4 hb4 hp4
        have p39 := hp4 4 _ rfl
        have p52 := hp4 17 _ rfl
        clear hp4
        simp at p39 p52
        simp only [List.drop_succ_cons, List.drop_zero, List.map_cons, List.map_nil, putAll, Act.put, List.setIfInBounds_toArray, List.set_cons_succ, List.set_cons_zero, p39, p52]
        clear p39 p52
        go_wp2_with fail
        go_ret
        exact ⟨by rw [HANS.out]; rfl, hbw2.trans (hb4.mono hbw2.size)⟩
    · have d3 : ((F.length : Int) == 0) = false := by simp; intro h; exact hf0 (by rw [h]; rfl)
      have hf1 : 1 ≤ F.length := by omega
      clear hf0
      obtain ⟨R1, HR1⟩ : ∃ R1 : Nat, Hid (X.length + 1 = R1) := ⟨_, hide rfl⟩
      obtain ⟨FR, HFR⟩ : ∃ FR : Nat, Hid ((F.length : Int) * (R1 : Int) = (FR : Int)) := ⟨F.length * R1, hide (by simp)⟩
      have HBD : Hid (1 ≤ FR ∧ FR ≤ 13000000) := hide (by
        have h1 : FR = F.length * R1 := by have := HFR.out; rw [← Int.natCast_mul] at this; exact (Int.ofNat.inj this).symm
        have h2 := HR1.out
        rw [h1]
        refine ⟨Nat.mul_pos hf1 (by omega), Nat.le_trans (Nat.mul_le_mul hFl (show R1 ≤ 13 by omega)) (by decide)⟩)
      obtain ⟨D2, HD2⟩ : ∃ D2, Hid (((FR : Int) - 1 != (M1 : Int)) = D2) := ⟨_, hide rfl⟩
      have hl1 : 1 ≤ L'.length := by rw [HLE.out, HLL.out]; exact hn1
      obtain ⟨lb, lo, rfl, hlb, hlc⟩ := hL2.ex (by rw [List.length_map]; exact hl1)
      have hcL : ∀ w', Below w2.heap.size w2 w' → w'.cell? ⟨lb, lo, none⟩ = some (.int .i64 (M1 : Int)) := fun w' h => by
        have h0 : (L'.map I64)[0]? = some (.int .i64 (M1 : Int)) := by rw [List.getElem?_map, HLE.out, HL0.out hN2]; rfl
        exact (World.cell?_of_block (h.block lb hlb)).trans (hlc 0 _ h0)
      go_upto_region 11 with fail
      refine wp_region_free 18 [⟨0, 35, [35], fun vs _ => vs = [.pointer (some ⟨w.heap.size, 0, none⟩)]⟩, ⟨1, 36, [36], fun vs _ => vs = [.slice aF F.length cF]⟩, ⟨2, 37, [37], fun vs _ => vs = [.int .i64 (F.length : Int)]⟩, ⟨3, 38, [38], fun vs _ => vs = [.bool false]⟩, ⟨4, 39, [39], fun vs _ => vs = [.bool false]⟩, ⟨5, 40, [40], fun vs _ => vs = [.pointer (some ⟨w.heap.size, 0, none⟩)]⟩, ⟨6, 41, [41], fun vs _ => vs = [.slice aF F.length cF]⟩, ⟨7, 42, [42], fun vs _ => vs = [.int .i64 (F.length : Int)]⟩, ⟨8, 43, [43], fun vs _ => vs = [.slice a X.length c]⟩, ⟨9, 44, [44], fun vs _ => vs = [.int .i64 (X.length : Int)]⟩, ⟨10, 45, [45], fun vs _ => vs = [.int .i64 (R1 : Int)]⟩, ⟨11, 46, [46], fun vs _ => vs = [.int .i64 (FR : Int)]⟩, ⟨12, 47, [47], fun vs _ => vs = [.int .i64 ((FR : Int) - 1)]⟩, ⟨13, 48, [48], fun vs _ => vs = [.pointer (some ⟨w.heap.size, 1, none⟩)]⟩, ⟨14, 49, [49], fun vs _ => vs = [.slice (some ⟨lb, lo, none⟩) L'.length cL]⟩, ⟨15, 50, [50], fun vs _ => vs = [.pointer (some ⟨lb, lo, none⟩)]⟩, ⟨16, 51, [51], fun vs _ => vs = [.int .i64 (M1 : Int)]⟩, ⟨17, 52, [52], fun vs _ => vs = [.bool D2]⟩] (by kernel_rfl) (by kernel_rfl) ?_ ?_ ?_
      · simp only [All]
        refine ⟨fun _ _ _ _ h => h, fun _ _ _ _ h => h, fun _ _ _ _ h => h, fun _ _ _ _ h => h, fun _ _ _ _ h => h, fun _ _ _ _ h => h, fun _ _ _ _ h => h, fun _ _ _ _ h => h, fun _ _ _ _ h => h, fun _ _ _ _ h => h, fun _ _ _ _ h => h, fun _ _ _ _ h => h, fun _ _ _ _ h => h, fun _ _ _ _ h => h, fun _ _ _ _ h => h, fun _ _ _ _ h => h, fun _ _ _ _ h => h, fun _ _ _ _ h => h, trivial⟩
      · simp only [All]
        refine ⟨?_, ?_, ?_, ?_, ?_, ?_, ?_, ?_, ?_, ?_, ?_, ?_, ?_, ?_, ?_, ?_, ?_, ?_, trivial⟩
        · intro o ho a' w' hb hfr hdep
          obtain rfl := Option.some.inj ho
          have g5 : a'.tmps[5]?.getD undef = .pointer (some ⟨w.heap.size, 0, none⟩) := by have h := hfr 5 (by kernel_rfl); simpa using h
          clear ho hfr hdep
          go_wp2_with fail
          exact ⟨rfl, _, rfl, Below.refl _ _, rfl⟩
        · intro o ho a' w' hb hfr hdep
          obtain rfl := Option.some.inj ho
          have g35 : a'.tmps[35]?.getD undef = .pointer (some ⟨w.heap.size, 0, none⟩) := by have h := hdep 0 _ rfl (by kernel_rfl); simpa using h
          clear ho hfr hdep
          have hcl := (hx2.under hb).at_ (j := 0) rfl
          go_wp2_with fail
          exact ⟨rfl, _, rfl, Below.refl _ _, rfl⟩
        · intro o ho a' w' hb hfr hdep
          obtain rfl := Option.some.inj ho
          have g36 : a'.tmps[36]?.getD undef = .slice aF F.length cF := by have h := hdep 1 _ rfl (by kernel_rfl); simpa using h
          clear ho hfr hdep
          go_wp2_with fail
          exact ⟨rfl, _, rfl, Below.refl _ _, rfl⟩
        · intro o ho a' w' hb hfr hdep
          obtain rfl := Option.some.inj ho
          have g37 : a'.tmps[37]?.getD undef = .int .i64 (F.length : Int) := by have h := hdep 2 _ rfl (by kernel_rfl); simpa using h
          clear ho hfr hdep
          go_wp2_with fail
          exact ⟨rfl, _, rfl, Below.refl _ _, rfl⟩
        · intro o ho a' w' hb hfr hdep
          obtain rfl := Option.some.inj ho
          have g38 : a'.tmps[38]?.getD undef = .bool false := by have h := hdep 3 _ rfl (by kernel_rfl); simpa using h
          clear ho hfr hdep
          go_wp2_with fail
          exact ⟨rfl, _, rfl, Below.refl _ _, rfl⟩
        · intro o ho a' w' hb hfr hdep
          obtain rfl := Option.some.inj ho
          have g5 : a'.tmps[5]?.getD undef = .pointer (some ⟨w.heap.size, 0, none⟩) := by have h := hfr 5 (by kernel_rfl); simpa using h
          have g39 : a'.tmps[39]?.getD undef = .bool false := by have h := hdep 4 _ rfl (by kernel_rfl); simpa using h
          have q39 := opt_bool g39
          clear ho hfr hdep
          go_wp2_with fail
          exact ⟨rfl, _, rfl, Below.refl _ _, rfl⟩
        · intro o ho a' w' hb hfr hdep
          obtain rfl := Option.some.inj ho
          have g40 : a'.tmps[40]?.getD undef = .pointer (some ⟨w.heap.size, 0, none⟩) := by have h := hdep 5 _ rfl (by kernel_rfl); simpa using h
          have g39 : a'.tmps[39]?.getD undef = .bool false := by have h := hdep 4 _ rfl (by kernel_rfl); simpa using h
          have q39 := opt_bool g39
          clear ho hfr hdep
          have hcl := (hx2.under hb).at_ (j := 0) rfl
          go_wp2_with fail
          exact ⟨rfl, _, rfl, Below.refl _ _, rfl⟩
        · intro o ho a' w' hb hfr hdep
          obtain rfl := Option.some.inj ho
          have g41 : a'.tmps[41]?.getD undef = .slice aF F.length cF := by have h := hdep 6 _ rfl (by kernel_rfl); simpa using h
          have g39 : a'.tmps[39]?.getD undef = .bool false := by have h := hdep 4 _ rfl (by kernel_rfl); simpa using h
          have q39 := opt_bool g39
          clear ho hfr hdep
          go_wp2_with fail
          exact ⟨rfl, _, rfl, Below.refl _ _, rfl⟩
        · intro o ho a' w' hb hfr hdep
          obtain rfl := Option.some.inj ho
          have g0 : a'.tmps[0]?.getD undef = .slice a X.length c := by have h := hfr 0 (by kernel_rfl); simpa using h
          have g39 : a'.tmps[39]?.getD undef = .bool false := by have h := hdep 4 _ rfl (by kernel_rfl); simpa using h
          have q39 := opt_bool g39
          clear ho hfr hdep
          go_wp2_with fail
          exact ⟨rfl, _, rfl, Below.refl _ _, rfl⟩
        · intro o ho a' w' hb hfr hdep
          obtain rfl := Option.some.inj ho
          have g43 : a'.tmps[43]?.getD undef = .slice a X.length c := by have h := hdep 8 _ rfl (by kernel_rfl); simpa using h
          have g39 : a'.tmps[39]?.getD undef = .bool false := by have h := hdep 4 _ rfl (by kernel_rfl); simpa using h
          have q39 := opt_bool g39
          clear ho hfr hdep
          go_wp2_with fail
          exact ⟨rfl, _, rfl, Below.refl _ _, rfl⟩
        · intro o ho a' w' hb hfr hdep
          obtain rfl := Option.some.inj ho
          have g44 : a'.tmps[44]?.getD undef = .int .i64 (X.length : Int) := by have h := hdep 9 _ rfl (by kernel_rfl); simpa using h
          have g39 : a'.tmps[39]?.getD undef = .bool false := by have h := hdep 4 _ rfl (by kernel_rfl); simpa using h
          have q39 := opt_bool g39
          clear ho hfr hdep
          have hr1' := HR1.out
          go_wp2_with fail
          exact ⟨rfl, _, rfl, Below.refl _ _, by simp [← HR1.out]⟩
        · intro o ho a' w' hb hfr hdep
          obtain rfl := Option.some.inj ho
          have g42 : a'.tmps[42]?.getD undef = .int .i64 (F.length : Int) := by have h := hdep 7 _ rfl (by kernel_rfl); simpa using h
          have g45 : a'.tmps[45]?.getD undef = .int .i64 (R1 : Int) := by have h := hdep 10 _ rfl (by kernel_rfl); simpa using h
          have g39 : a'.tmps[39]?.getD undef = .bool false := by have h := hdep 4 _ rfl (by kernel_rfl); simpa using h
          have q39 := opt_bool g39
          clear ho hfr hdep
          have hfr := HFR.out
          have hbd := HBD.out
          go_wp2_with fail
          exact ⟨rfl, _, rfl, Below.refl _ _, by simp [hfr]⟩
        · intro o ho a' w' hb hfr hdep
          obtain rfl := Option.some.inj ho
          have g46 : a'.tmps[46]?.getD undef = .int .i64 (FR : Int) := by have h := hdep 11 _ rfl (by kernel_rfl); simpa using h
          have g39 : a'.tmps[39]?.getD undef = .bool false := by have h := hdep 4 _ rfl (by kernel_rfl); simpa using h
          have q39 := opt_bool g39
          clear ho hfr hdep
          have hbd := HBD.out
          go_wp2_with fail
          exact ⟨rfl, _, rfl, Below.refl _ _, rfl⟩
        · intro o ho a' w' hb hfr hdep
          obtain rfl := Option.some.inj ho
          have g5 : a'.tmps[5]?.getD undef = .pointer (some ⟨w.heap.size, 0, none⟩) := by have h := hfr 5 (by kernel_rfl); simpa using h
          have g39 : a'.tmps[39]?.getD undef = .bool false := by have h := hdep 4 _ rfl (by kernel_rfl); simpa using h
          have q39 := opt_bool g39
          clear ho hfr hdep
          go_wp2_with fail
          exact ⟨rfl, _, rfl, Below.refl _ _, rfl⟩
        · intro o ho a' w' hb hfr hdep
          obtain rfl := Option.some.inj ho
          have g48 : a'.tmps[48]?.getD undef = .pointer (some ⟨w.heap.size, 1, none⟩) := by have h := hdep 13 _ rfl (by kernel_rfl); simpa using h
          have g39 : a'.tmps[39]?.getD undef = .bool false := by have h := hdep 4 _ rfl (by kernel_rfl); simpa using h
          have q39 := opt_bool g39
          clear ho hfr hdep
          have hcl := (hx2.under hb).at_ (j := 1) rfl
          go_wp2_with fail
          exact ⟨rfl, _, rfl, Below.refl _ _, rfl⟩
        · intro o ho a' w' hb hfr hdep
          obtain rfl := Option.some.inj ho
          have g49 : a'.tmps[49]?.getD undef = .slice (some ⟨lb, lo, none⟩) L'.length cL := by have h := hdep 14 _ rfl (by kernel_rfl); simpa using h
          have g39 : a'.tmps[39]?.getD undef = .bool false := by have h := hdep 4 _ rfl (by kernel_rfl); simpa using h
          have q39 := opt_bool g39
          clear ho hfr hdep
          refine unguard (by simp [Region.wanted, yielded, q39]) ?_
          refine idx_known_off (act := a') 50 (.tmp 49) (.const (.int .i64 0)) lb lo L'.length cL (by show a'.tmps.getD 49 undef = _; simpa using g49) hl1 rfl ?_
          go_wp2_with fail
          exact ⟨rfl, _, rfl, Below.refl _ _, rfl⟩
        · intro o ho a' w' hb hfr hdep
          obtain rfl := Option.some.inj ho
          have g50 : a'.tmps[50]?.getD undef = .pointer (some ⟨lb, lo, none⟩) := by have h := hdep 15 _ rfl (by kernel_rfl); simpa using h
          have g39 : a'.tmps[39]?.getD undef = .bool false := by have h := hdep 4 _ rfl (by kernel_rfl); simpa using h
          have q39 := opt_bool g39
          clear ho hfr hdep
          have hcl := hcL _ hb
          go_wp2_with fail
          exact ⟨rfl, _, rfl, Below.refl _ _, rfl⟩
        · intro o ho a' w' hb hfr hdep
          obtain rfl := Option.some.inj ho
          have g47 : a'.tmps[47]?.getD undef = .int .i64 ((FR : Int) - 1) := by have h := hdep 12 _ rfl (by kernel_rfl); simpa using h
          have g51 : a'.tmps[51]?.getD undef = .int .i64 (M1 : Int) := by have h := hdep 16 _ rfl (by kernel_rfl); simpa using h
          have g39 : a'.tmps[39]?.getD undef = .bool false := by have h := hdep 4 _ rfl (by kernel_rfl); simpa using h
          have q39 := opt_bool g39
          clear ho hfr hdep
          go_wp2_with fail
          exact ⟨rfl, _, rfl, Below.refl _ _, by rw [HD2.out]; rfl⟩
      · intro g w4 hb4 hp4
        have p39 := hp4 4 _ rfl
        have p52 := hp4 17 _ rfl
        clear hp4
        simp at p39 p52
        simp only [List.drop_succ_cons, List.drop_zero, List.map_cons, List.map_nil, putAll, Act.put, List.setIfInBounds_toArray, List.set_cons_succ, List.set_cons_zero, p39, p52]
        clear p39 p52
        have hbw4 := hbw2.trans (hb4.mono hbw2.size)
        have hx4 := hx2.under hb4
        have hF4 := hF2.below hb4
        clear hx2 hF2 hL2 hb4 hcL hlc
        cases D2
        case true =>
          have HANS : Hid (CK F L' = 19) := hide (by
            rw [HCH.out, if_neg (fun h => by
              have h1 := HM.out
              have h2 := HD2.out
              have h3 := HFR.out
              rw [HR1.out, ← h.2] at h1
              rw [← Int.natCast_mul, ← h1] at h3
              have h4 : (FR : Int) - 1 = (M1 : Int) := by rw [← h3]; omega
              rw [h4] at h2
              simp at h2)])
          go_wp2_with fail
          go_ret
          exact ⟨by rw [HANS.out]; rfl, hbw4⟩
        have HFM : Hid (F.length = m) := hide (by
          have h1 := HM.out
          have h2 : (FR : Int) - 1 = (M1 : Int) := by have := HD2.out; simpa using this
          have h3 := HFR.out
          rw [← Int.natCast_mul] at h3
          have h4 : F.length * R1 = m * R1 := by rw [HR1.out] at h1; omega
          exact Nat.eq_of_mul_eq_mul_right (by have := HR1.out; omega) h4)
        have hcl2 : F.length ≤ N := by rw [HFM.out]; exact hcl
        have c0 := hx4.at_ (j := 0) rfl
        go_wp2_with fail
        go_loopg [9] F.length (fun g j' w' => ∃ i : Nat, i ≤ F.length ∧ g = F.length - i ∧ j' = .int .i64 (i : Int) ∧ Hid ((List.range i).all (okPart f N W F) = true) ∧ w4 = w')
        case atStart => exact ⟨0, by omega, by omega, rfl, hide rfl, rfl⟩
        case round =>
          obtain ⟨i, hi, hg, rfl, HA, rfl⟩ := hrel
          have HG := hide hg
          clear hg
          by_cases hil : i < F.length
          · obtain ⟨x, hx⟩ : ∃ x, F[i]? = some x := ⟨F[i], by simp [hil]⟩
            have HX := hide hx
            obtain ⟨t, ht⟩ : ∃ t, toAt F N i = t := ⟨_, rfl⟩
            have HT := hide ht
            have HD : F.getD i 0 = x := by rw [List.getD_eq_getElem?_getD, hx]; rfl
            obtain ⟨r, hr⟩ : ∃ r, okPart f N W F i = r := ⟨_, rfl⟩
            have HR := hide hr
            have hok : okPart f N W F i = decide ((i = 0 → x = 1) ∧ 1 ≤ x ∧ x < t ∧ t ≤ N ∧ (sizeW f x.toNat (t.toNat - x.toNat) : Int) ≤ W) := by unfold okPart; rw [HD, ht]
            have HOK := hide hok
            clear hx ht HD hr hok
            have d0 : decide ((i : Int) < (F.length : Int)) = true := decide_eq_true (by omega)
            go_upto_if 72 with (with_reducible refine idx_i 64 _ _ _ _ _ _ rfl hF4 _ _ i rfl rfl _ HX.out ?_; intro b o hcell hbo)
            go_cut [11] (fun v w' => v = .int .i64 t ∧ w4 = w')
            case first =>
              by_cases h1 : i + 1 < F.length
              · obtain ⟨y, hy⟩ : ∃ y, F[i + 1]? = some y := ⟨F[i + 1], by simp [h1]⟩
                have HY := hide hy
                have hty : y = t := by rw [← HT.out]; unfold toAt; rw [if_pos h1, List.getD_eq_getElem?_getD, hy]; rfl
                have HTY := hide hty
                have d5 : decide ((i : Int) + 1 < (F.length : Int)) = true := decide_eq_true (by omega)
                clear hy hty
                go_wp2_with (with_reducible refine idx_i 77 _ _ _ _ _ _ rfl hF4 _ _ (i + 1) rfl (by omega) _ HY.out ?_; intro b2 o2 hcell2 hbo2)
                go_meet
                exact ⟨by rw [HTY.out], rfl⟩
              · have htN : (N : Int) = t := by rw [← HT.out]; unfold toAt; rw [if_neg h1]
                have HTY := hide htN
                have d5 : decide ((i : Int) + 1 < (F.length : Int)) = false := decide_eq_false (by omega)
                clear htN
                go_wp2_with fail
                go_meet
                exact ⟨by rw [HTY.out], rfl⟩
            case rest =>
              obtain ⟨rfl, rfl⟩ := hcut
              clear hcell hbo
              go_upto_region 20 with fail
              go_cut [98] (fun v w' => ∃ q : Bool, v = .bool q ∧ Hid ((q = true → r = false) ∧ (q = false → (1 ≤ x ∧ x < t ∧ t ≤ N) ∧ r = decide ((sizeW f x.toNat (t.toNat - x.toNat) : Int) ≤ W))) ∧ w4 = w')
              case first =>
                have hHR := HR.out
                have hHOK := HOK.out
                have hq : (∃ q : Bool, q = ((i : Int) == 0)) := ⟨_, rfl⟩
                have hfin : (((i : Int) == 0) = true ∧ (x != 1) = true ∧ r = false) ∨ (((((i : Int) == 0) = true ∧ (x != 1) = false) ∨ ((i : Int) == 0) = false) ∧ ((decide (x < 1) = true ∧ r = false) ∨ (decide (x < 1) = false ∧ decide (t ≤ x) = true ∧ r = false) ∨ (decide (x < 1) = false ∧ decide (t ≤ x) = false ∧ decide ((N : Int) < t) = true ∧ r = false) ∨
                    (decide (x < 1) = false ∧ decide (t ≤ x) = false ∧ decide ((N : Int) < t) = false ∧ (1 ≤ x ∧ x < t ∧ t ≤ N) ∧ r = decide ((sizeW f x.toNat (t.toNat - x.toNat) : Int) ≤ W)))) := by
                  rw [← hHR, hHOK]
                  by_cases e0 : i = 0
                  · have e1 : ((i : Int) == 0) = true := by simp [e0]
                    by_cases e2 : x = 1
                    · have e3 : (x != 1) = false := by simp [e2]
                      refine .inr ⟨.inl ⟨e1, e3⟩, ?_⟩
                      have e4 : ¬ x < 1 := by omega
                      by_cases e5 : t ≤ x
                      · exact .inr (.inl ⟨decide_eq_false e4, decide_eq_true e5, decide_eq_false (fun h => by omega)⟩)
                      · by_cases e6 : (N : Int) < t
                        · exact .inr (.inr (.inl ⟨decide_eq_false e4, decide_eq_false e5, decide_eq_true e6, decide_eq_false (fun h => by omega)⟩))
                        · exact .inr (.inr (.inr ⟨decide_eq_false e4, decide_eq_false e5, decide_eq_false e6, ⟨by omega, by omega, by omega⟩, decide_eq_decide.2 ⟨fun h => h.2.2.2.2, fun h => ⟨fun _ => e2, by omega, by omega, by omega, h⟩⟩⟩))
                    · exact .inl ⟨e1, by simp [e2], decide_eq_false (fun h => e2 (h.1 e0))⟩
                  · have e1 : ((i : Int) == 0) = false := by simp [e0]
                    refine .inr ⟨.inr e1, ?_⟩
                    by_cases e4 : x < 1
                    · exact .inl ⟨decide_eq_true e4, decide_eq_false (fun h => by omega)⟩
                    · by_cases e5 : t ≤ x
                      · exact .inr (.inl ⟨decide_eq_false e4, decide_eq_true e5, decide_eq_false (fun h => by omega)⟩)
                      · by_cases e6 : (N : Int) < t
                        · exact .inr (.inr (.inl ⟨decide_eq_false e4, decide_eq_false e5, decide_eq_true e6, decide_eq_false (fun h => by omega)⟩))
                        · exact .inr (.inr (.inr ⟨decide_eq_false e4, decide_eq_false e5, decide_eq_false e6, ⟨by omega, by omega, by omega⟩, decide_eq_decide.2 ⟨fun h => h.2.2.2.2, fun h => ⟨fun hh => absurd hh e0, by omega, by omega, by omega, h⟩⟩⟩))
                have HFI := hide hfin
                clear hHR hHOK hq hfin HOK HR HT
                rcases HFI.out with ⟨b0, b1, rr⟩ | ⟨⟨b0, b1⟩ | b0, ⟨b2, rr⟩ | ⟨b2, b3, rr⟩ | ⟨b2, b3, b4, rr⟩ | ⟨b2, b3, b4, ⟨g1, g2, g3⟩, rr⟩⟩
                · have RR := hide rr
                  clear rr HFI
                  go_wp2_with fail
                  go_meet
                  exact ⟨true, rfl, hide ⟨fun _ => RR.out, (fun h => by cases h)⟩, rfl⟩
                · have RR := hide rr
                  clear rr HFI
                  go_wp2_with fail
                  go_meet
                  exact ⟨true, rfl, hide ⟨fun _ => RR.out, (fun h => by cases h)⟩, rfl⟩
                · have RR := hide rr
                  clear rr HFI
                  go_wp2_with fail
                  go_meet
                  exact ⟨true, rfl, hide ⟨fun _ => RR.out, (fun h => by cases h)⟩, rfl⟩
                · have RR := hide rr
                  clear rr HFI
                  go_wp2_with fail
                  go_meet
                  exact ⟨true, rfl, hide ⟨fun _ => RR.out, (fun h => by cases h)⟩, rfl⟩
                · have RR := hide rr
                  have GG := hide (And.intro g1 (And.intro g2 g3))
                  clear rr HFI
                  go_wp2_with fail
                  go_meet
                  exact ⟨false, by first | rfl | (simp; omega), hide ⟨(fun h => by cases h), fun _ => ⟨GG.out, RR.out⟩⟩, rfl⟩
                · have RR := hide rr
                  clear rr HFI
                  go_wp2_with fail
                  go_meet
                  exact ⟨true, rfl, hide ⟨fun _ => RR.out, (fun h => by cases h)⟩, rfl⟩
                · have RR := hide rr
                  clear rr HFI
                  go_wp2_with fail
                  go_meet
                  exact ⟨true, rfl, hide ⟨fun _ => RR.out, (fun h => by cases h)⟩, rfl⟩
                · have RR := hide rr
                  clear rr HFI
                  go_wp2_with fail
                  go_meet
                  exact ⟨true, rfl, hide ⟨fun _ => RR.out, (fun h => by cases h)⟩, rfl⟩
                · have RR := hide rr
                  have GG := hide (And.intro g1 (And.intro g2 g3))
                  clear rr HFI
                  go_wp2_with fail
                  go_meet
                  exact ⟨false, by first | rfl | (simp; omega), hide ⟨(fun h => by cases h), fun _ => ⟨GG.out, RR.out⟩⟩, rfl⟩
              case rest =>
                obtain ⟨q, rfl, HQ, rfl⟩ := hcut
                cases q
                · obtain ⟨⟨g1, g2, g3⟩, rr⟩ := HQ.out.2 rfl
                  obtain ⟨j, rfl⟩ := Int.eq_ofNat_of_zero_le (show 0 ≤ x by omega)
                  obtain ⟨k, rfl⟩ := Int.eq_ofNat_of_zero_le (show 0 ≤ t by omega)
                  have hszc := hsz j k w4 hbw4 (by omega) (by omega)
                  have RR := hide rr
                  clear rr HQ
                  go_wp2_with fail
                  refine hszc.mono ?_
                  rintro e w9 ⟨rfl, rfl⟩
                  obtain ⟨S, HS⟩ : ∃ S, Hid (sizeW f j (k - j) = S) := ⟨_, hide rfl⟩
                  rw [HS.out]
                  have hrr : r = decide ((S : Int) ≤ W) := by have := RR.out; simpa [HS.out] using this
                  clear hszc
                  rcases Int.lt_or_le W S with hWS | hWS
                  · have d6 : decide (W < (S : Int)) = true := decide_eq_true hWS
                    have HANS : Hid (CK F L' = 19) := hide (by rw [HCH.out, if_pos ⟨HLE.out, HFM.out⟩, all_no hil (HR.out.trans (hrr.trans (decide_eq_false (by omega)))), if_neg (by decide)])
                    clear hrr
                    go_wp2_with fail
                    go_ret
                    exact ⟨by rw [HANS.out]; rfl, hbw4⟩
                  · have d6 : decide (W < (S : Int)) = false := decide_eq_false (by omega)
                    have HA2 := hide (all_next HA.out (HR.out.trans (hrr.trans (decide_eq_true (by omega)))))
                    clear hrr
                    go_wp2_with fail
                    go_roundg (F.length - (i + 1))
                    case measure => have := HG.out; omega
                    case rel => exact ⟨i + 1, by omega, rfl, by go_num, HA2, rfl⟩
                · have HANS : Hid (CK F L' = 19) := hide (by rw [HCH.out, if_pos ⟨HLE.out, HFM.out⟩, all_no hil (HR.out.trans (HQ.out.1 rfl)), if_neg (by decide)])
                  go_wp2_with fail
                  go_ret
                  exact ⟨by rw [HANS.out]; rfl, hbw4⟩
          · obtain rfl : F.length = i := by omega
            have HANS : Hid (CK F L' = 0) := hide (by rw [HCH.out, if_pos ⟨HLE.out, HFM.out⟩, if_pos HA.out])
            go_wp2_with fail
            go_ret
            exact ⟨by rw [HANS.out]; rfl, hbw4⟩
end Go.Proofs.Ytmjkhmebpciopaa
end

/- the text AppN -/
section
/- The law on 'append([]T{}, xs...)': what is handed back is the empty slice or lies in a new block. No program in sight. -/
set_option linter.unusedVariables false
set_option linter.unusedSimpArgs false
namespace Go.Dx
open Go.RowKit
section ops
variable {P : Program} {w : World} {ops : Array Oper} {rest : List Oper} {o : Oper} {act : Act} {Q : Exit → Act → World → Prop}
theorem run_append_empty (B : Nat) (t tx ty e : TypeId) (i : TypeInfo) (z : Value) (ht : P.underlying t = some (.slice e)) (hi : P.info? e = some i) (hz : i.zero = some z)
    (hzs : z.cells.size = i.size) (a : Option Addr) (hown : Own w B e i.size a 0 0 [])
    (x : Value) (m : Nat) (news : List Value) (hs : Src P i.size tx x m news w)
    (h63 : m ≤ maxLen) (hbytes : m * i.bytes ≤ 140737488355328) (hB : B ≤ w.heap.size) :
    ∃ a' c' w', (Builtin.append_ #[t, tx] ty #[.slice a 0 0, x]).run P w = .ok (.slice a' m c') w' ∧ Own w' B e i.size a' m c' news ∧ Below w.heap.size w w' ∧ (m = 0 ∧ c' = 0 ∨ m ≠ 0 ∧ ∀ p, a' = some p → w.heap.size ≤ p.block) := by
  have hsmall : m ≤ 9223372036854775807 := by simp only [maxLen] at h63; omega
  have hlen : news.length = m * i.size := hs.newsLen
  have hold : (Builtin.firstCells i.size 0 (.slice a 0 0)).run P w.drew = .ok ([] : List Value).toArray w.drew := by
    cases a with
    | none => exact run_firstCells_none w.drew i.size 0 0 0
    | some p => exact run_firstCells_some w.drew i.size 0 p 0 0 [] (by simp) (fun j u hj => by simp at hj)
  by_cases hm : m = 0
  · subst hm
    have hnews : news = [] := List.eq_nil_of_length_eq_zero (by simpa using hs.newsLen)
    subst hnews
    refine ⟨a, 0, w, ?_, hown, Below.refl _ _, .inl ⟨rfl, rfl⟩⟩
    cases a with
    | none =>
      rcases hs.kind with ⟨e', hk⟩ | hk <;> simp [Builtin.append_, run_underlying ht, run_underlying hk, sizeOf, typeInfo, hi, hs.len, hs.cells]
    | some p =>
      have hst : ∀ q : Addr, (storeCells q ([] : List Value)).run P w = .ok () w := by intro q; simp [storeCells]
      rcases hs.kind with ⟨e', hk⟩ | hk <;> simp [Builtin.append_, run_underlying ht, run_underlying hk, sizeOf, typeInfo, hi, hs.len, hs.cells, hst]
  · have hr := run_append_grow_src (P := P) w t tx ty e i z ht hi hz a 0 0 [] hold x m news hs (by omega) (by omega) (growslice_fits (by omega) (by rw [Nat.zero_add]; exact hbytes))
    have hge := grownCap_ge w (0 + m) 0 e
    have hcm : grownCap w (0 + m) 0 e ≤ maxLen := grownCap_le_maxLen w (0 + m) 0 e (by rw [Nat.zero_add]; exact h63)
    rw [Nat.zero_add] at hr hge hcm
    refine ⟨_, _, _, hr, ⟨hlen, .inr ⟨w.heap.size, _, _, rfl, hB, heap_alloc_new w.drew _, hge, hcm, ?_, ?_⟩⟩, undrew (Below.alloc (Below.refl w.heap.size w.drew) (Nat.le_refl w.heap.size) _), .inr ⟨hm, fun p hp => by cases hp; exact Nat.le_refl _⟩⟩
    · simp only [Array.size_append, List.size_toArray, size_zeroCells, hzs, List.nil_append, hlen, ← Nat.add_mul]
      congr 1
      omega
    · simp only [Array.toList_append, List.nil_append]
      rw [← hlen]
      exact List.take_left
/-- 'append([]T{}, xs...)' -/
theorem append_empty (hg : o.guard = none) (s x : Operand) (t : TypeId) (hop : o.op = Op.call { callee := Callee.builtin Builtin.append, args := #[s, x], argTypes := #[t, t] })
    (e : TypeId) (z : Value) (sz bytes : Nat) (ht : P.underlying t = some (.slice e)) (hi : (P.info? e).map (fun i => (i.zero, i.size, i.bytes)) = some (some z, sz, bytes)) (hz : z.cells.size = sz)
    (B : Nat) (a : Option Addr) (hs : act.eval s = .slice a 0 0) (hown : Own w B e sz a 0 0 [])
    (a2 : Option Addr) (m c2 : Nat) (ys : List Value) (hx : act.eval x = .slice a2 m c2) (hy : Sl w sz a2 m c2 ys) (h1 : ∀ u ∈ ys, u.oneCell' = true)
    (hn : m * bytes ≤ 140737488355328) (hn2 : m ≤ maxLen) (hB : B ≤ w.heap.size)
    (hK : ∀ a' c' w', Own w' B e sz a' m c' ys → Below w.heap.size w w' → (m = 0 ∧ c' = 0 ∨ m ≠ 0 ∧ ∀ p, a' = some p → w.heap.size ≤ p.block) → wpList P ops Q rest (act.put o.dst (.slice a' m c')) w') :
    wpList P ops Q (o :: rest) act w := by
  obtain ⟨i, hi0, hz0, hz1, hz2⟩ := info_parts hi
  subst hz1 hz2
  clear hi
  obtain ⟨a', c', w', hrun, ho, hgr, hfr⟩ := run_append_empty B t t o.type e i z ht hi0 hz0 hz a hown _ m ys (hy.src ht h1) hn2 hn hB
  refine wpList_plain hg fun K hK' => ?_
  unfold Oper.wp
  simp [execOp, hop, resolve, invoke, builtin, hs, hx, hrun, Result.andThen]
  exact hK' _ _ (hK a' c' w' ho hgr hfr)
/-- 'append(out, ys...)', out owned: either all that lay there stays, or there is room and the block of out grows in place. -/
theorem run_append_where (base : Nat) (t tx ty e : TypeId) (i : TypeInfo) (z : Value) (ht : P.underlying t = some (.slice e)) (hi : P.info? e = some i) (hz : i.zero = some z)
    (hzs : z.cells.size = i.size) (a : Option Addr) (n c : Nat) (xs : List Value) (hown : Own w base e i.size a n c xs)
    (x : Value) (m : Nat) (news : List Value) (hs : Src P i.size tx x m news w)
    (h63 : n + m ≤ maxLen) (hbytes : (n + m) * i.bytes ≤ 140737488355328) (hbase : base ≤ w.heap.size) :
    ∃ a' c' w', (Builtin.append_ #[t, tx] ty #[.slice a n c, x]).run P w = .ok (.slice a' (n + m) c') w' ∧ Own w' base e i.size a' (n + m) c' (xs ++ news) ∧ w.grownBy w' (a.map (·.block)) ∧ (n + m ≤ c ∨ Below w.heap.size w w') := by
  obtain ⟨a', c', w', h1, h2, h3, _⟩ := run_append_fresh base t tx ty e i z ht hi hz hzs a n c xs hown x m news hs h63 hbytes hbase
  by_cases hroom : n + m ≤ c
  · exact ⟨a', c', w', h1, h2, h3, .inl hroom⟩
  · have hsmall : n + m ≤ 9223372036854775807 := by simp only [maxLen] at h63; omega
    have hold : (Builtin.firstCells i.size n (.slice a n c)).run P w.drew = .ok xs.toArray w.drew := by
      have hsl := hown.sl
      cases a with
      | none =>
        have := hsl.nil rfl
        have := hsl.le
        obtain rfl : n = 0 := by omega
        have hnews : xs = [] := List.eq_nil_of_length_eq_zero (by simpa using hsl.len)
        subst hnews
        exact run_firstCells_none w.drew i.size 0 0 c
      | some p => exact run_firstCells_some w.drew i.size n p n c xs hsl.len (by simpa using hsl.cell p rfl)
    have hr := run_append_grow_src (P := P) w t tx ty e i z ht hi hz a n c xs hold x m news hs (by omega) (by omega) (growslice_fits (by omega) hbytes)
    rw [hr] at h1
    cases h1
    exact ⟨_, _, _, hr, h2, h3, .inr (undrew (Below.alloc (Below.refl w.heap.size w.drew) (Nat.le_refl w.heap.size) _))⟩
theorem append_where (hg : o.guard = none) (s x : Operand) (t : TypeId) (hop : o.op = Op.call { callee := Callee.builtin Builtin.append, args := #[s, x], argTypes := #[t, t] })
    (e : TypeId) (z : Value) (sz bytes : Nat) (ht : P.underlying t = some (.slice e)) (hi : (P.info? e).map (fun i => (i.zero, i.size, i.bytes)) = some (some z, sz, bytes)) (hz : z.cells.size = sz)
    (B : Nat) (a : Option Addr) (n c : Nat) (xs : List Value) (hs : act.eval s = .slice a n c) (hown : Own w B e sz a n c xs)
    (a2 : Option Addr) (m c2 : Nat) (ys : List Value) (hx : act.eval x = .slice a2 m c2) (hy : Sl w sz a2 m c2 ys) (h1 : ∀ u ∈ ys, u.oneCell' = true)
    (hn : (n + m) * bytes ≤ 140737488355328) (hn2 : n + m ≤ maxLen) (hB : B ≤ w.heap.size)
    (hK : ∀ a' c' w', Own w' B e sz a' (n + m) c' (xs ++ ys) → w.grownBy w' (a.map (·.block)) → (n + m ≤ c ∨ Below w.heap.size w w') → wpList P ops Q rest (act.put o.dst (.slice a' (n + m) c')) w') :
    wpList P ops Q (o :: rest) act w := by
  obtain ⟨i, hi0, hz0, hz1, hz2⟩ := info_parts hi
  subst hz1 hz2
  clear hi
  obtain ⟨a', c', w', hrun, ho, hgr, hfr⟩ := run_append_where B t t o.type e i z ht hi0 hz0 hz a n c xs hown _ m ys (hy.src ht h1) hn2 hn hB
  refine wpList_plain hg fun K hK' => ?_
  unfold Oper.wp
  simp [execOp, hop, resolve, invoke, builtin, hs, hx, hrun, Result.andThen]
  exact hK' _ _ (hK a' c' w' ho hgr hfr)
end ops
end Go.Dx
end

/- the text T44 -/
section
/- Chapter 15: a certificate with one thing changed (bent). -/
namespace Go.Proofs.Ytmjkhmebpciopaa
open Go.RowKit Go.Dx

/-- the slices lie apart, or the first one is empty -/
def Apart (a : Option Addr) (n c : Nat) (a0 : Option Addr) : Prop := (n = 0 ∧ c = 0) ∨ ∀ q q0, a = some q → a0 = some q0 → q.block ≠ q0.block
theorem own_lt {w : World} {B : Nat} {e : TypeId} {q : Addr} {n c sz : Nat} {xs : List Value} (h : Own w B e sz (some q) n c xs) : q.block < w.heap.size := by
  obtain ⟨C, z, h⟩ := own_kindW h
  exact (Array.getElem?_eq_some_iff.1 h).1

/-- what is known of the second copy, beside the first one -/
def F19 (z : Nat) (F L : List Int) (vs : List Value) (w : World) : Prop := ∃ a c a0 c0, vs = [.slice a L.length c, .slice a0 F.length c0] ∧ Own w (z + 2) 3 1 a L.length c (L.map I64) ∧ Apart a L.length c a0

theorem fin_own {w w8 : World} {z n c : Nat} {a : Option Addr} {xs : List Value} (h : Own w (z + 2) 3 1 a n c xs) (hg : w.grownBy w8 (some (z + 1))) : Sl w8 1 a n c xs := (h.kept hg (fun q hq e => by
    subst hq
    have h1 := h.base.1
    have h2 : q.block = z + 1 := by simpa using e
    omega)).sl
theorem sl_zero (w : World) (a : Option Addr) : Sl w 1 a 0 0 [] := ⟨by simp, Nat.le_refl _, by unfold maxLen; omega, fun _ => rfl, fun p _ j u hj => by simp at hj⟩
theorem slOr {w w8 : World} {z c : Nat} {a : Option Addr} {L : List Int} (h : Own w (z + 2) 3 1 a L.length c (L.map I64) ∨ L.length = 0 ∧ c = 0) (hg : w.grownBy w8 (some (z + 1))) : Sl w8 1 a L.length c (L.map I64) := by
  rcases h with h | ⟨h, rfl⟩
  · exact fin_own h hg
  · obtain rfl : L = [] := List.eq_nil_of_length_eq_zero h
    exact sl_zero w8 a
theorem sl_take {w : World} {a : Option Addr} {n c m : Nat} {L : List Int} (h : Sl w 1 a n c (L.map I64)) (hm : m ≤ n) : Sl w 1 a m c ((L.take m).map I64) := by
  have hkt := h.cut 0 m (Nat.zero_le _) hm
  have e1 : (if c = 0 then a else a.map (·.add (0 * 1))) = a := by
    split
    · rfl
    · cases a <;> simp [Addr.add]
  rw [e1] at hkt
  simpa [List.map_take] using hkt
theorem Apart.ne {a a0 : Option Addr} {n c : Nat} (h : Apart a n c a0) (hn : 1 ≤ n) : ∀ q q0, a = some q → a0 = some q0 → q.block ≠ q0.block := by
  rcases h with h | h
  · omega
  · exact h

set_option maxRecDepth 100000 in
set_option maxHeartbeats 2000000 in
theorem law15_bent (F L : List Int) (aF aL : Option Addr) (nF cF nL cL : Nat) (at_ how by_ : Int) (w0 : World) (hF : Sl w0 1 aF nF cF (F.map I64)) (hL : Sl w0 1 aL nL cL (L.map I64)) (hFl : F.length ≤ 1000) (hLl : L.length ≤ 1000)
    (hat : -9223372036854775808 ≤ at_ ∧ at_ ≤ 9223372036854775807) (hho : -9223372036854775808 ≤ how ∧ how ≤ 9223372036854775807) (hby : -9223372036854775808 ≤ by_ ∧ by_ ≤ 9223372036854775807) :
    Calls Try.prog 22 #[.agg #[.slice aF nF cF, .slice aL nL cL], .int .i64 at_, .int .i64 how, .int .i64 by_] w0 fun e w' => ∃ (F2 L2 : List Int) (a1 a2 : Option Addr) (c1 c2 : Nat), e = .returned (.agg #[.slice a1 F2.length c1, .slice a2 L2.length c2]) ∧ Sl w' 1 a1 F2.length c1 (F2.map I64) ∧ Sl w' 1 a2 L2.length c2 (L2.map I64) ∧ F2.length ≤ F.length + 1 ∧ L2.length ≤ L.length ∧ Below w0.heap.size w0 w' := by
  obtain rfl : nF = F.length := by simpa using hF.n_eq
  obtain rfl : nL = L.length := by simpa using hL.n_eq
  obtain ⟨s, Hs⟩ : ∃ k, Hid (aroundF how 4 = k) := ⟨_, hide rfl⟩
  have hs4 : s < 4 := by rw [← Hs.out]; exact aroundF_lt (by omega)
  have hA3 := fun (w : World) => Around_at (w := w) Hs.out (v := 4) rfl (by omega) (by omega) hho.1 hho.2
  obtain ⟨r5, Hr5⟩ : ∃ k, Hid (aroundF by_ 5 = k) := ⟨_, hide rfl⟩
  have hA5 := fun (w : World) => Around_at (w := w) Hr5.out (v := 5) rfl (by omega) (by omega) hby.1 hby.2
  obtain ⟨r8, Hr8⟩ : ∃ k, Hid (aroundF by_ 8 = k) := ⟨_, hide rfl⟩
  have hA8 := fun (w : World) => Around_at (w := w) Hr8.out (v := 8) rfl (by omega) (by omega) hby.1 hby.2
  go_enter Try.func22, Try.ntmps22
  go_upto_region 1 with fail
  have hb0 := blo w0 (.cells #[.slice aF F.length cF, .slice aL L.length cL] 35)
  have hx0 := Box.new w0 35 #[.slice aF F.length cF, .slice aL L.length cL]
  have hb1 := blo (w0.alloc (.cells #[.slice aF F.length cF, .slice aL L.length cL] 35)) (.cells #[.slice none 0 0, .slice none 0 0] 35)
  have hx1 := hx0.under hb1
  have hxr := Box.new (w0.alloc (.cells #[.slice aF F.length cF, .slice aL L.length cL] 35)) 35 #[.slice none 0 0, .slice none 0 0]
  have hbw := hb0.trans (hb1.mono hb0.size)
  have hF1 := hF.below hbw
  have hL1 := hL.below hbw
  have hz0 : (w0.alloc (.cells #[.slice aF F.length cF, .slice aL L.length cL] 35)).heap.size = w0.heap.size + 1 := by simp
  have hz1 : w0.heap.size + 2 ≤ ((w0.alloc (.cells #[.slice aF F.length cF, .slice aL L.length cL] 35)).alloc (.cells #[.slice none 0 0, .slice none 0 0] 35)).heap.size := by simp
  rw [hz0] at hxr
  clear hb0 hx0 hb1 hF hL hz0
  generalize ((w0.alloc (.cells #[.slice aF F.length cF, .slice aL L.length cL] 35)).alloc (.cells #[.slice none 0 0, .slice none 0 0] 35)) = w1 at *
  refine wp_region_free 10 [⟨0, 12, [12], fun vs w => ∃ b, vs = [.slice (some ⟨b, 0, none⟩) 0 0] ∧ Own w (w0.heap.size + 2) 3 1 (some ⟨b, 0, none⟩) 0 0 []⟩, ⟨1, 13, [13], fun vs _ => vs = [.pointer (some ⟨w0.heap.size, 0, none⟩)]⟩, ⟨2, 14, [14], fun vs _ => vs = [.slice aF F.length cF]⟩, ⟨3, 15, [15], fun vs w => ∃ a c, vs = [.slice a F.length c] ∧ Own w (w0.heap.size + 2) 3 1 a F.length c (F.map I64)⟩, ⟨4, 16, [16], fun vs w => ∃ b, vs = [.slice (some ⟨b, 0, none⟩) 0 0] ∧ Own w (w0.heap.size + 2) 3 1 (some ⟨b, 0, none⟩) 0 0 []⟩, ⟨5, 17, [17], fun vs _ => vs = [.pointer (some ⟨w0.heap.size, 1, none⟩)]⟩, ⟨6, 18, [18], fun vs _ => vs = [.slice aL L.length cL]⟩, ⟨7, 19, [19, 15], fun vs w => F19 w0.heap.size F L vs w⟩, ⟨8, 20, [20], fun vs w => ∃ a c a0 c0, vs = [.agg #[.slice a0 F.length c0, .slice a L.length c]] ∧ Own w (w0.heap.size + 2) 3 1 a0 F.length c0 (F.map I64) ∧ Own w (w0.heap.size + 2) 3 1 a L.length c (L.map I64) ∧ Apart a L.length c a0⟩, ⟨9, 9, [9], fun vs w => ∃ b, vs = [.pointer (some ⟨b, 0, none⟩)] ∧ w0.heap.size + 2 ≤ b ∧ Box w b 35 [.slice none 0 0, .slice none 0 0]⟩] (by kernel_rfl) (by kernel_rfl) ?_ ?_ ?_
  · simp only [All]
    refine ⟨?_, fun _ _ _ _ h => h, fun _ _ _ _ h => h, ?_, ?_, fun _ _ _ _ h => h, fun _ _ _ _ h => h, ?_, ?_, ?_, trivial⟩
    · rintro vs w w' hb ⟨b, h1, h2⟩
      exact ⟨b, h1, h2.below hb⟩
    · rintro vs w w' hb ⟨a, c, h1, h2⟩
      exact ⟨a, c, h1, h2.below hb⟩
    · rintro vs w w' hb ⟨b, h1, h2⟩
      exact ⟨b, h1, h2.below hb⟩
    · rintro vs w w' hb ⟨a, c, a0, c0, h1, h2, h3⟩
      exact ⟨a, c, a0, c0, h1, h2.below hb, h3⟩
    · rintro vs w w' hb ⟨a, c, a0, c0, h1, h2, h3, h4⟩
      exact ⟨a, c, a0, c0, h1, h2.below hb, h3.below hb, h4⟩
    · rintro vs w w' hb ⟨b, h1, h2, h3⟩
      exact ⟨b, h1, h2, h3.under hb⟩
  · simp only [All]
    refine ⟨?_, ?_, ?_, ?_, ?_, ?_, ?_, ?_, ?_, ?_, trivial⟩
    · intro o ho a' w' hb hfr hdep
      obtain rfl := Option.some.inj ho
      clear ho hfr hdep
      have hB := Nat.le_trans hz1 hb.size
      have hbl := (Below.refl w'.heap.size w').alloc (Nat.le_refl _) (.cells #[] 3)
      go_wp2_with fail
      exact ⟨rfl, _, rfl, hbl, w'.heap.size, rfl, Own.built w' (w0.heap.size + 2) 3 1 0 #[] hB rfl (by decide)⟩
    · intro o ho a' w' hb hfr hdep
      obtain rfl := Option.some.inj ho
      have g4 : a'.tmps[4]?.getD undef = .pointer (some ⟨w0.heap.size, 0, none⟩) := by have h := hfr 4 (by kernel_rfl); simpa using h
      clear ho hfr hdep
      go_wp2_with fail
      exact ⟨rfl, _, rfl, Below.refl _ _, rfl⟩
    · intro o ho a' w' hb hfr hdep
      obtain rfl := Option.some.inj ho
      have g13 : a'.tmps[13]?.getD undef = .pointer (some ⟨w0.heap.size, 0, none⟩) := by have h := hdep 1 _ rfl (by kernel_rfl); simpa using h
      clear ho hfr hdep
      have hcl := (hx1.under hb).at_ (j := 0) rfl
      go_wp2_with fail
      exact ⟨rfl, _, rfl, Below.refl _ _, rfl⟩
    · intro o ho a' w' hb hfr hdep
      obtain rfl := Option.some.inj ho
      obtain ⟨b1, g12, ho1⟩ := hdep 0 _ rfl (by kernel_rfl)
      replace g12 : a'.tmps[12]?.getD undef = .slice (some ⟨b1, 0, none⟩) 0 0 := by simpa using g12
      have g14 : a'.tmps[14]?.getD undef = .slice aF F.length cF := by have h := hdep 2 _ rfl (by kernel_rfl); simpa using h
      clear ho hfr hdep
      refine append_empty rfl _ _ 22 rfl 3 (.int .i64 0) 1 8 Try.underlying22 info_int rfl (w0.heap.size + 2) _ (by show a'.tmps.getD 12 undef = _; simpa using g12) ho1 aF F.length cF (F.map I64) (by show a'.tmps.getD 14 undef = _; simpa using g14) (hF1.below hb) (one_map _ (fun _ => rfl) _) (by omega) (by unfold maxLen; omega) (Nat.le_trans hz1 hb.size) ?_
      intro a3 c3 w3 ho3 hb3 hf3
      go_wp2
      exact ⟨rfl, _, rfl, hb3, a3, c3, rfl, ho3⟩
    · intro o ho a' w' hb hfr hdep
      obtain rfl := Option.some.inj ho
      clear ho hfr hdep
      have hB := Nat.le_trans hz1 hb.size
      have hbl := (Below.refl w'.heap.size w').alloc (Nat.le_refl _) (.cells #[] 3)
      go_wp2_with fail
      exact ⟨rfl, _, rfl, hbl, w'.heap.size, rfl, Own.built w' (w0.heap.size + 2) 3 1 0 #[] hB rfl (by decide)⟩
    · intro o ho a' w' hb hfr hdep
      obtain rfl := Option.some.inj ho
      have g4 : a'.tmps[4]?.getD undef = .pointer (some ⟨w0.heap.size, 0, none⟩) := by have h := hfr 4 (by kernel_rfl); simpa using h
      clear ho hfr hdep
      go_wp2_with fail
      exact ⟨rfl, _, rfl, Below.refl _ _, rfl⟩
    · intro o ho a' w' hb hfr hdep
      obtain rfl := Option.some.inj ho
      have g17 : a'.tmps[17]?.getD undef = .pointer (some ⟨w0.heap.size, 1, none⟩) := by have h := hdep 5 _ rfl (by kernel_rfl); simpa using h
      clear ho hfr hdep
      have hcl := (hx1.under hb).at_ (j := 1) rfl
      go_wp2_with fail
      exact ⟨rfl, _, rfl, Below.refl _ _, rfl⟩
    · intro o ho a' w' hb hfr hdep
      obtain rfl := Option.some.inj ho
      obtain ⟨a4, c4, g15, ho4⟩ := hdep 3 _ rfl (by kernel_rfl)
      replace g15 : a'.tmps[15]?.getD undef = .slice a4 F.length c4 := by simpa using g15
      obtain ⟨b2, g16, ho2⟩ := hdep 4 _ rfl (by kernel_rfl)
      replace g16 : a'.tmps[16]?.getD undef = .slice (some ⟨b2, 0, none⟩) 0 0 := by simpa using g16
      have g18 : a'.tmps[18]?.getD undef = .slice aL L.length cL := by have h := hdep 6 _ rfl (by kernel_rfl); simpa using h
      clear ho hfr hdep
      have G15 := hide g15
      refine append_empty rfl _ _ 22 rfl 3 (.int .i64 0) 1 8 Try.underlying22 info_int rfl (w0.heap.size + 2) _ (by show a'.tmps.getD 16 undef = _; simpa using g16) ho2 aL L.length cL (L.map I64) (by show a'.tmps.getD 18 undef = _; simpa using g18) (hL1.below hb) (one_map _ (fun _ => rfl) _) (by omega) (by unfold maxLen; omega) (Nat.le_trans hz1 hb.size) ?_
      intro a3 c3 w3 ho3 hb3 hf3
      go_wp2
      exact ⟨rfl, _, rfl, hb3, a3, c3, a4, c4, by simp [G15.out], ho3, hf3.imp id fun h q q0 hq hq0 => by have h1 := h.2 q hq; rw [hq0] at ho4; have h2 := own_lt ho4; omega⟩
    · intro o ho a' w' hb hfr hdep
      obtain rfl := Option.some.inj ho
      obtain ⟨a4, c4, g15, ho4⟩ := hdep 3 _ rfl (by kernel_rfl)
      replace g15 : a'.tmps[15]?.getD undef = .slice a4 F.length c4 := by simpa using g15
      obtain ⟨a5, c5, a6, c6, g19, ho5, hap⟩ : F19 _ _ _ _ _ := hdep 7 _ rfl (by kernel_rfl)
      obtain ⟨g19, h15⟩ : a'.tmps[19]?.getD undef = .slice a5 L.length c5 ∧ a'.tmps[15]?.getD undef = .slice a6 F.length c6 := by simpa using g19
      rw [g15] at h15
      cases h15
      clear ho hfr hdep
      go_wp2_with fail
      exact ⟨rfl, _, rfl, Below.refl _ _, a5, c5, a4, c4, rfl, ho4, ho5, hap⟩
    · intro o ho a' w' hb hfr hdep
      obtain rfl := Option.some.inj ho
      clear ho hfr hdep
      have hB := Nat.le_trans hz1 hb.size
      go_wp2_with fail
      exact ⟨rfl, _, rfl, (Below.refl _ _).alloc (Nat.le_refl _) _, w'.heap.size, rfl, hB, Box.new _ _ _⟩
  · intro g w2 hb2 hp2
    obtain ⟨a5, c5, a4, c4, g20, ho4, ho5, hap⟩ := hp2 8 _ rfl
    obtain ⟨b9, g9, hb9, hx9⟩ := hp2 9 _ rfl
    replace g20 : g 20 = .agg #[.slice a4 F.length c4, .slice a5 L.length c5] := by simpa using g20
    replace g9 : g 9 = .pointer (some ⟨b9, 0, none⟩) := by simpa using g9
    clear hp2
    simp only [List.drop_succ_cons, List.drop_zero, List.map_cons, List.map_nil, putAll, Act.put, List.setIfInBounds_toArray, List.set_cons_succ, List.set_cons_zero, g20, g9]
    clear g20 g9
    have hbw2 := hbw.trans (hb2.mono hbw.size)
    have hxr2 := hxr.under hb2
    have hlt9 := hx9.lt
    clear hb2 hx1 hbw hF1 hL1 hxr
    refine store_all 35 _ _ 35 b9 _ [.slice a4 F.length c4, .slice a5 L.length c5] _ (size_rcert _ _) hx9 rfl rfl rfl (Eq.refl 2) (by simp [Value.oneCell']) ?_
    intro w3 hx3 hg3 hs3
    replace ho4 := ho4.kept hg3 ((KindOf.own ho4).ne hx9 (by decide))
    replace ho5 := ho5.kept hg3 ((KindOf.own ho5).ne hx9 (by decide))
    have hxr3 := hxr2.grown hg3 (fun e => by have : w0.heap.size + 1 = b9 := by simpa using e
                                             omega)
    have hbw3 := hbw2.grown hg3 hbw2.size (fun k hk => by cases hk; omega)
    clear hbw2 hxr2 hg3 hs3 hx9 hlt9
    go_wp2_with fail
    refine (hA3 _).mono ?_
    rintro e w4 ⟨rfl, rfl⟩
    clear hA3
    have f1 := hx3.at_ (j := 1) rfl
    have f0 := hx3.at_ (j := 0) rfl
    have h4 : s = 0 ∨ s = 1 ∨ s = 2 ∨ s = 3 := by omega
    rcases h4 with rfl | rfl | rfl | rfl
    · by_cases hl : L.length = 0
      · have d1 : decide (0 < (L.length : Int)) = false := decide_eq_false (by omega)
        have d1' : decide (0 < L.length) = false := decide_eq_false (by omega)
        clear hl
        go_upto_region 14 with fail
        have hxz := hx3
        have hxrz := hxr3
        have hbz := hbw3
        clear f0 f1
        go_wp2_with (first
          | (with_reducible refine load_box 88 35 _ 35 b9 0 _ [.slice a4 F.length c4, .slice a5 L.length c5] isAgg_rcert (size_rcert _ _) hxz rfl (fun j u hj => by rw [Nat.zero_add]; exact hj) ?_)
          | (with_reducible refine store_all 35 _ _ 35 (w0.heap.size + 1) _ [.slice a4 F.length c4, .slice a5 L.length c5] _ (size_rcert _ _) hxrz rfl rfl rfl (Eq.refl 2) (by simp [Value.oneCell']) ?_; intro w8 hx8 hg8 hs8))
        have hbz8 := hbz.grown hg8 hbz.size (fun k hk => by cases hk; omega)
        refine bodyPost_ret (run_results_cell rfl rfl isAgg_rcert (size_rcert _ _) hx8) rfl ⟨F, L, a4, a5, c4, c5, rfl, fin_own ho4 hg8, fin_own ho5 hg8, by omega, Nat.le_refl _, hbz8⟩
      · have d1 : decide (0 < (L.length : Int)) = true := decide_eq_true (by omega)
        have d1' : decide (0 < L.length) = true := decide_eq_true (by omega)
        obtain ⟨k, Hk⟩ : ∃ k, Hid (aroundF at_ L.length = k) := ⟨_, hide rfl⟩
        have hkl : k < L.length := by rw [← Hk.out]; exact aroundF_lt (by omega)
        have hA1 := fun (w : World) => Around_at (w := w) Hk.out (v := (L.length : Int)) rfl (by omega) (by omega) hat.1 hat.2
        obtain ⟨lq, rfl⟩ : ∃ q, a5 = some q := by
          cases a5 with
          | some q => exact ⟨q, rfl⟩
          | none => have := ho5.sl.nil rfl; have := ho5.sl.le; omega
        obtain ⟨lb, rfl⟩ : ∃ b, lq = ⟨b, 0, none⟩ := ⟨_, ho5.zero⟩
        obtain ⟨xk, hxk⟩ : ∃ x, (L.map I64)[k]? = some (.int .i64 x) := ⟨L[k], by rw [List.getElem?_map]; simp [hkl]⟩
        have HXK := hide hxk
        clear hl hxk
        go_wp2_with fail
        refine (hA1 _).mono ?_
        rintro e w4 ⟨rfl, rfl⟩
        go_upto_region 7 with fail
        clear f0 f1
        refine wp_region_free 12 [⟨0, 42, [42], fun vs _ => vs = [.pointer (some ⟨b9, 1, none⟩)]⟩, ⟨1, 43, [43], fun vs _ => vs = [.slice (some ⟨lb, 0, none⟩) L.length c5]⟩, ⟨2, 44, [44], fun vs _ => vs = [.int .i64 (k : Int)]⟩, ⟨3, 45, [45], fun vs _ => vs = [.pointer (some ⟨b9, 1, none⟩)]⟩, ⟨4, 46, [46], fun vs _ => vs = [.slice (some ⟨lb, 0, none⟩) L.length c5]⟩, ⟨5, 47, [47], fun vs _ => vs = [.int .i64 (k : Int)]⟩, ⟨6, 48, [48], fun vs _ => vs = [.pointer (some ⟨lb, k, none⟩)]⟩, ⟨7, 49, [49], fun vs _ => vs = [.int .i64 xk]⟩, ⟨8, 50, [50], fun vs _ => vs = [.int .i64 by_]⟩, ⟨9, 51, [51], fun vs _ => vs = [.int .i64 (r5 : Int)]⟩, ⟨10, 52, [52], fun vs _ => ∃ z, vs = [.int .i64 z]⟩, ⟨11, 53, [53], fun vs _ => ∃ z, vs = [.int .i64 z]⟩] (by kernel_rfl) (by kernel_rfl) ?_ ?_ ?_
        · simp only [All]
          refine ⟨fun _ _ _ _ h => h, fun _ _ _ _ h => h, fun _ _ _ _ h => h, fun _ _ _ _ h => h, fun _ _ _ _ h => h, fun _ _ _ _ h => h, fun _ _ _ _ h => h, fun _ _ _ _ h => h, fun _ _ _ _ h => h, fun _ _ _ _ h => h, fun _ _ _ _ h => h, fun _ _ _ _ h => h, trivial⟩
        · simp only [All]
          refine ⟨?_, ?_, ?_, ?_, ?_, ?_, ?_, ?_, ?_, ?_, ?_, ?_, trivial⟩
          · intro o ho a' w' hb hfr hdep
            obtain rfl := Option.some.inj ho
            have g9 : a'.tmps[9]?.getD undef = .pointer (some ⟨b9, 0, none⟩) := by have h := hfr 9 (by kernel_rfl); simpa using h
            clear ho hfr hdep
            go_wp2_with fail
            exact ⟨rfl, _, rfl, Below.refl _ _, rfl⟩
          · intro o ho a' w' hb hfr hdep
            obtain rfl := Option.some.inj ho
            have g42 : a'.tmps[42]?.getD undef = .pointer (some ⟨b9, 1, none⟩) := by have h := hdep 0 _ rfl (by kernel_rfl); simpa using h
            clear ho hfr hdep
            have hcl := (hx3.under hb).at_ (j := 1) rfl
            go_wp2_with fail
            exact ⟨rfl, _, rfl, Below.refl _ _, rfl⟩
          · intro o ho a' w' hb hfr hdep
            obtain rfl := Option.some.inj ho
            have g10 : a'.tmps[10]?.getD undef = .int .i64 (k : Int) := by have h := hfr 10 (by kernel_rfl); simpa using h
            clear ho hfr hdep
            go_wp2_with fail
            exact ⟨rfl, _, rfl, Below.refl _ _, rfl⟩
          · intro o ho a' w' hb hfr hdep
            obtain rfl := Option.some.inj ho
            have g9 : a'.tmps[9]?.getD undef = .pointer (some ⟨b9, 0, none⟩) := by have h := hfr 9 (by kernel_rfl); simpa using h
            clear ho hfr hdep
            go_wp2_with fail
            exact ⟨rfl, _, rfl, Below.refl _ _, rfl⟩
          · intro o ho a' w' hb hfr hdep
            obtain rfl := Option.some.inj ho
            have g45 : a'.tmps[45]?.getD undef = .pointer (some ⟨b9, 1, none⟩) := by have h := hdep 3 _ rfl (by kernel_rfl); simpa using h
            clear ho hfr hdep
            have hcl := (hx3.under hb).at_ (j := 1) rfl
            go_wp2_with fail
            exact ⟨rfl, _, rfl, Below.refl _ _, rfl⟩
          · intro o ho a' w' hb hfr hdep
            obtain rfl := Option.some.inj ho
            have g10 : a'.tmps[10]?.getD undef = .int .i64 (k : Int) := by have h := hfr 10 (by kernel_rfl); simpa using h
            clear ho hfr hdep
            go_wp2_with fail
            exact ⟨rfl, _, rfl, Below.refl _ _, rfl⟩
          · intro o ho a' w' hb hfr hdep
            obtain rfl := Option.some.inj ho
            have g46 : a'.tmps[46]?.getD undef = .slice (some ⟨lb, 0, none⟩) L.length c5 := by have h := hdep 4 _ rfl (by kernel_rfl); simpa using h
            have g47 : a'.tmps[47]?.getD undef = .int .i64 (k : Int) := by have h := hdep 5 _ rfl (by kernel_rfl); simpa using h
            clear ho hfr hdep
            go_wp2_with fail
            exact ⟨rfl, _, rfl, Below.refl _ _, rfl⟩
          · intro o ho a' w' hb hfr hdep
            obtain rfl := Option.some.inj ho
            have g48 : a'.tmps[48]?.getD undef = .pointer (some ⟨lb, k, none⟩) := by have h := hdep 6 _ rfl (by kernel_rfl); simpa using h
            clear ho hfr hdep
            have hcl := (ho5.below hb).at_ HXK.out
            go_wp2_with fail
            exact ⟨rfl, _, rfl, Below.refl _ _, rfl⟩
          · intro o ho a' w' hb hfr hdep
            obtain rfl := Option.some.inj ho
            have g3 : a'.tmps[3]?.getD undef = .int .i64 by_ := by have h := hfr 3 (by kernel_rfl); simpa using h
            clear ho hfr hdep
            go_wp2_with fail
            exact ⟨rfl, _, rfl, Below.refl _ _, rfl⟩
          · intro o ho a' w' hb hfr hdep
            obtain rfl := Option.some.inj ho
            have g50 : a'.tmps[50]?.getD undef = .int .i64 by_ := by have h := hdep 8 _ rfl (by kernel_rfl); simpa using h
            clear ho hfr hdep
            go_wp2_with fail
            refine (hA5 _).mono ?_
            rintro e w3 ⟨rfl, rfl⟩
            go_wp2_with fail
            exact ⟨rfl, _, rfl, Below.refl _ _, rfl⟩
          · intro o ho a' w' hb hfr hdep
            obtain rfl := Option.some.inj ho
            have g49 : a'.tmps[49]?.getD undef = .int .i64 xk := by have h := hdep 7 _ rfl (by kernel_rfl); simpa using h
            have g51 : a'.tmps[51]?.getD undef = .int .i64 (r5 : Int) := by have h := hdep 9 _ rfl (by kernel_rfl); simpa using h
            clear ho hfr hdep
            go_wp2_with fail
            exact ⟨rfl, _, rfl, Below.refl _ _, _, rfl⟩
          · intro o ho a' w' hb hfr hdep
            obtain rfl := Option.some.inj ho
            obtain ⟨z, g52⟩ := hdep 10 _ rfl (by kernel_rfl)
            replace g52 : a'.tmps[52]?.getD undef = .int .i64 z := by simpa using g52
            clear ho hfr hdep
            go_wp2_with fail
            exact ⟨rfl, _, rfl, Below.refl _ _, _, rfl⟩
        · intro g w4 hb4 hp4
          have p43 := hp4 1 _ rfl
          have p44 := hp4 2 _ rfl
          obtain ⟨z, p53⟩ := hp4 11 _ rfl
          clear hp4
          simp at p43 p44 p53
          simp only [List.drop_succ_cons, List.drop_zero, List.map_cons, List.map_nil, putAll, Act.put, List.setIfInBounds_toArray, List.set_cons_succ, List.set_cons_zero, p43, p44, p53]
          clear p43 p44 p53
          have ho7 := ho5.below hb4
          have hcl := ho7.at_ HXK.out
          have hfr := ho7.free k
          refine index_known 54 22 _ _ 3 Try.underlying22 size_int lb L.length c5 rfl _ _ k rfl rfl hkl ?_
          go_upto_region 14 with fail
          have hne9 : b9 ≠ lb := fun e => (KindOf.own ho5).ne hx3 (by decide) _ rfl (by rw [e])
          have hlb := ho5.base.1
          have hoL := ho7.put (i := k) (.int .i64 z)
          rw [show (.int .i64 z : Value) = I64 z from rfl, ← List.map_set] at hoL
          have hoF := (ho4.below hb4).set_other (p := ⟨lb, k, none⟩) (fun q hq => fun e => hap.ne (by omega) _ q rfl hq e.symm) (I64 z)
          have hxz := (hx3.under hb4).far (p := ⟨lb, k, none⟩) hne9 (I64 z)
          have hxrz := (hxr3.under hb4).far (p := ⟨lb, k, none⟩) (by show _ ≠ lb; simp at hlb; omega) (I64 z)
          have hbz := (hbw3.trans (hb4.mono hbw3.size)).setCell (p := ⟨lb, k, none⟩) (by show _ ≤ lb; simp at hlb; omega) (I64 z)
          clear hcl hfr
          go_wp2_with (first
            | (with_reducible refine load_box 88 35 _ 35 b9 0 _ [.slice a4 F.length c4, .slice (some ⟨lb, 0, none⟩) L.length c5] isAgg_rcert (size_rcert _ _) hxz rfl (fun j u hj => by rw [Nat.zero_add]; exact hj) ?_)
            | (with_reducible refine store_all 35 _ _ 35 (w0.heap.size + 1) _ [.slice a4 F.length c4, .slice (some ⟨lb, 0, none⟩) L.length c5] _ (size_rcert _ _) hxrz rfl rfl rfl (Eq.refl 2) (by simp [Value.oneCell']) ?_; intro w8 hx8 hg8 hs8))
          have hbz8 := hbz.grown hg8 hbz.size (fun k hk => by cases hk; omega)
          refine bodyPost_ret (run_results_cell rfl rfl isAgg_rcert (size_rcert _ _) hx8) rfl ⟨F, L.set k z, a4, some ⟨lb, 0, none⟩, c4, c5, by rw [List.length_set], fin_own hoF hg8, by rw [List.length_set]; exact fin_own hoL hg8, by omega, by rw [List.length_set]; exact Nat.le_refl _, hbz8⟩
    · by_cases hl : F.length = 0
      · have d1 : decide (0 < (F.length : Int)) = false := decide_eq_false (by omega)
        have d1' : decide (0 < F.length) = false := decide_eq_false (by omega)
        clear hl
        go_upto_region 14 with fail
        have hxz := hx3
        have hxrz := hxr3
        have hbz := hbw3
        clear f0 f1
        go_wp2_with (first
          | (with_reducible refine load_box 88 35 _ 35 b9 0 _ [.slice a4 F.length c4, .slice a5 L.length c5] isAgg_rcert (size_rcert _ _) hxz rfl (fun j u hj => by rw [Nat.zero_add]; exact hj) ?_)
          | (with_reducible refine store_all 35 _ _ 35 (w0.heap.size + 1) _ [.slice a4 F.length c4, .slice a5 L.length c5] _ (size_rcert _ _) hxrz rfl rfl rfl (Eq.refl 2) (by simp [Value.oneCell']) ?_; intro w8 hx8 hg8 hs8))
        have hbz8 := hbz.grown hg8 hbz.size (fun k hk => by cases hk; omega)
        refine bodyPost_ret (run_results_cell rfl rfl isAgg_rcert (size_rcert _ _) hx8) rfl ⟨F, L, a4, a5, c4, c5, rfl, fin_own ho4 hg8, fin_own ho5 hg8, by omega, Nat.le_refl _, hbz8⟩
      · have d1 : decide (0 < (F.length : Int)) = true := decide_eq_true (by omega)
        have d1' : decide (0 < F.length) = true := decide_eq_true (by omega)
        obtain ⟨k, Hk⟩ : ∃ k, Hid (aroundF at_ F.length = k) := ⟨_, hide rfl⟩
        have hkl : k < F.length := by rw [← Hk.out]; exact aroundF_lt (by omega)
        have hA1 := fun (w : World) => Around_at (w := w) Hk.out (v := (F.length : Int)) rfl (by omega) (by omega) hat.1 hat.2
        obtain ⟨lq, rfl⟩ : ∃ q, a4 = some q := by
          cases a4 with
          | some q => exact ⟨q, rfl⟩
          | none => have := ho4.sl.nil rfl; have := ho4.sl.le; omega
        obtain ⟨lb, rfl⟩ : ∃ b, lq = ⟨b, 0, none⟩ := ⟨_, ho4.zero⟩
        obtain ⟨xk, hxk⟩ : ∃ x, (F.map I64)[k]? = some (.int .i64 x) := ⟨F[k], by rw [List.getElem?_map]; simp [hkl]⟩
        have HXK := hide hxk
        clear hl hxk
        go_wp2_with fail
        refine (hA1 _).mono ?_
        rintro e w4 ⟨rfl, rfl⟩
        go_upto_region 11 with fail
        clear f0 f1
        refine wp_region_free 12 [⟨0, 66, [66], fun vs _ => vs = [.pointer (some ⟨b9, 0, none⟩)]⟩, ⟨1, 67, [67], fun vs _ => vs = [.slice (some ⟨lb, 0, none⟩) F.length c4]⟩, ⟨2, 68, [68], fun vs _ => vs = [.int .i64 (k : Int)]⟩, ⟨3, 69, [69], fun vs _ => vs = [.pointer (some ⟨b9, 0, none⟩)]⟩, ⟨4, 70, [70], fun vs _ => vs = [.slice (some ⟨lb, 0, none⟩) F.length c4]⟩, ⟨5, 71, [71], fun vs _ => vs = [.int .i64 (k : Int)]⟩, ⟨6, 72, [72], fun vs _ => vs = [.pointer (some ⟨lb, k, none⟩)]⟩, ⟨7, 73, [73], fun vs _ => vs = [.int .i64 xk]⟩, ⟨8, 74, [74], fun vs _ => vs = [.int .i64 by_]⟩, ⟨9, 75, [75], fun vs _ => vs = [.int .i64 (r5 : Int)]⟩, ⟨10, 76, [76], fun vs _ => ∃ z, vs = [.int .i64 z]⟩, ⟨11, 77, [77], fun vs _ => ∃ z, vs = [.int .i64 z]⟩] (by kernel_rfl) (by kernel_rfl) ?_ ?_ ?_
        · simp only [All]
          refine ⟨fun _ _ _ _ h => h, fun _ _ _ _ h => h, fun _ _ _ _ h => h, fun _ _ _ _ h => h, fun _ _ _ _ h => h, fun _ _ _ _ h => h, fun _ _ _ _ h => h, fun _ _ _ _ h => h, fun _ _ _ _ h => h, fun _ _ _ _ h => h, fun _ _ _ _ h => h, fun _ _ _ _ h => h, trivial⟩
        · simp only [All]
          refine ⟨?_, ?_, ?_, ?_, ?_, ?_, ?_, ?_, ?_, ?_, ?_, ?_, trivial⟩
          · intro o ho a' w' hb hfr hdep
            obtain rfl := Option.some.inj ho
            have g9 : a'.tmps[9]?.getD undef = .pointer (some ⟨b9, 0, none⟩) := by have h := hfr 9 (by kernel_rfl); simpa using h
            clear ho hfr hdep
            go_wp2_with fail
            exact ⟨rfl, _, rfl, Below.refl _ _, rfl⟩
          · intro o ho a' w' hb hfr hdep
            obtain rfl := Option.some.inj ho
            have g66 : a'.tmps[66]?.getD undef = .pointer (some ⟨b9, 0, none⟩) := by have h := hdep 0 _ rfl (by kernel_rfl); simpa using h
            clear ho hfr hdep
            have hcl := (hx3.under hb).at_ (j := 0) rfl
            go_wp2_with fail
            exact ⟨rfl, _, rfl, Below.refl _ _, rfl⟩
          · intro o ho a' w' hb hfr hdep
            obtain rfl := Option.some.inj ho
            have g11 : a'.tmps[11]?.getD undef = .int .i64 (k : Int) := by have h := hfr 11 (by kernel_rfl); simpa using h
            clear ho hfr hdep
            go_wp2_with fail
            exact ⟨rfl, _, rfl, Below.refl _ _, rfl⟩
          · intro o ho a' w' hb hfr hdep
            obtain rfl := Option.some.inj ho
            have g9 : a'.tmps[9]?.getD undef = .pointer (some ⟨b9, 0, none⟩) := by have h := hfr 9 (by kernel_rfl); simpa using h
            clear ho hfr hdep
            go_wp2_with fail
            exact ⟨rfl, _, rfl, Below.refl _ _, rfl⟩
          · intro o ho a' w' hb hfr hdep
            obtain rfl := Option.some.inj ho
            have g69 : a'.tmps[69]?.getD undef = .pointer (some ⟨b9, 0, none⟩) := by have h := hdep 3 _ rfl (by kernel_rfl); simpa using h
            clear ho hfr hdep
            have hcl := (hx3.under hb).at_ (j := 0) rfl
            go_wp2_with fail
            exact ⟨rfl, _, rfl, Below.refl _ _, rfl⟩
          · intro o ho a' w' hb hfr hdep
            obtain rfl := Option.some.inj ho
            have g11 : a'.tmps[11]?.getD undef = .int .i64 (k : Int) := by have h := hfr 11 (by kernel_rfl); simpa using h
            clear ho hfr hdep
            go_wp2_with fail
            exact ⟨rfl, _, rfl, Below.refl _ _, rfl⟩
          · intro o ho a' w' hb hfr hdep
            obtain rfl := Option.some.inj ho
            have g70 : a'.tmps[70]?.getD undef = .slice (some ⟨lb, 0, none⟩) F.length c4 := by have h := hdep 4 _ rfl (by kernel_rfl); simpa using h
            have g71 : a'.tmps[71]?.getD undef = .int .i64 (k : Int) := by have h := hdep 5 _ rfl (by kernel_rfl); simpa using h
            clear ho hfr hdep
            go_wp2_with fail
            exact ⟨rfl, _, rfl, Below.refl _ _, rfl⟩
          · intro o ho a' w' hb hfr hdep
            obtain rfl := Option.some.inj ho
            have g72 : a'.tmps[72]?.getD undef = .pointer (some ⟨lb, k, none⟩) := by have h := hdep 6 _ rfl (by kernel_rfl); simpa using h
            clear ho hfr hdep
            have hcl := (ho4.below hb).at_ HXK.out
            go_wp2_with fail
            exact ⟨rfl, _, rfl, Below.refl _ _, rfl⟩
          · intro o ho a' w' hb hfr hdep
            obtain rfl := Option.some.inj ho
            have g3 : a'.tmps[3]?.getD undef = .int .i64 by_ := by have h := hfr 3 (by kernel_rfl); simpa using h
            clear ho hfr hdep
            go_wp2_with fail
            exact ⟨rfl, _, rfl, Below.refl _ _, rfl⟩
          · intro o ho a' w' hb hfr hdep
            obtain rfl := Option.some.inj ho
            have g74 : a'.tmps[74]?.getD undef = .int .i64 by_ := by have h := hdep 8 _ rfl (by kernel_rfl); simpa using h
            clear ho hfr hdep
            go_wp2_with fail
            refine (hA5 _).mono ?_
            rintro e w3 ⟨rfl, rfl⟩
            go_wp2_with fail
            exact ⟨rfl, _, rfl, Below.refl _ _, rfl⟩
          · intro o ho a' w' hb hfr hdep
            obtain rfl := Option.some.inj ho
            have g73 : a'.tmps[73]?.getD undef = .int .i64 xk := by have h := hdep 7 _ rfl (by kernel_rfl); simpa using h
            have g75 : a'.tmps[75]?.getD undef = .int .i64 (r5 : Int) := by have h := hdep 9 _ rfl (by kernel_rfl); simpa using h
            clear ho hfr hdep
            go_wp2_with fail
            exact ⟨rfl, _, rfl, Below.refl _ _, _, rfl⟩
          · intro o ho a' w' hb hfr hdep
            obtain rfl := Option.some.inj ho
            obtain ⟨z, g76⟩ := hdep 10 _ rfl (by kernel_rfl)
            replace g76 : a'.tmps[76]?.getD undef = .int .i64 z := by simpa using g76
            clear ho hfr hdep
            go_wp2_with fail
            exact ⟨rfl, _, rfl, Below.refl _ _, _, rfl⟩
        · intro g w4 hb4 hp4
          have p43 := hp4 1 _ rfl
          have p44 := hp4 2 _ rfl
          obtain ⟨z, p53⟩ := hp4 11 _ rfl
          clear hp4
          simp at p43 p44 p53
          simp only [List.drop_succ_cons, List.drop_zero, List.map_cons, List.map_nil, putAll, Act.put, List.setIfInBounds_toArray, List.set_cons_succ, List.set_cons_zero, p43, p44, p53]
          clear p43 p44 p53
          have ho7 := ho4.below hb4
          have hcl := ho7.at_ HXK.out
          have hfr := ho7.free k
          refine index_known 78 22 _ _ 3 Try.underlying22 size_int lb F.length c4 rfl _ _ k rfl rfl hkl ?_
          go_upto_region 14 with fail
          have hne9 : b9 ≠ lb := fun e => (KindOf.own ho4).ne hx3 (by decide) _ rfl (by rw [e])
          have hlb := ho4.base.1
          have hoF := ho7.put (i := k) (.int .i64 z)
          rw [show (.int .i64 z : Value) = I64 z from rfl, ← List.map_set] at hoF
          have hxz := (hx3.under hb4).far (p := ⟨lb, k, none⟩) hne9 (I64 z)
          have hxrz := (hxr3.under hb4).far (p := ⟨lb, k, none⟩) (by show _ ≠ lb; simp at hlb; omega) (I64 z)
          have hbz := (hbw3.trans (hb4.mono hbw3.size)).setCell (p := ⟨lb, k, none⟩) (by show _ ≤ lb; simp at hlb; omega) (I64 z)
          have hoL : Own (w4.setCell ⟨lb, k, none⟩ (I64 z)) (w0.heap.size + 2) 3 1 a5 L.length c5 (L.map I64) ∨ L.length = 0 ∧ c5 = 0 := by
            rcases hap with h | h
            · exact .inr h
            · exact .inl ((ho5.below hb4).set_other (p := ⟨lb, k, none⟩) (fun q hq => (h q ⟨lb, 0, none⟩ hq rfl)) (I64 z))
          clear hcl hfr
          go_wp2_with (first
            | (with_reducible refine load_box 88 35 _ 35 b9 0 _ [.slice (some ⟨lb, 0, none⟩) F.length c4, .slice a5 L.length c5] isAgg_rcert (size_rcert _ _) hxz rfl (fun j u hj => by rw [Nat.zero_add]; exact hj) ?_)
            | (with_reducible refine store_all 35 _ _ 35 (w0.heap.size + 1) _ [.slice (some ⟨lb, 0, none⟩) F.length c4, .slice a5 L.length c5] _ (size_rcert _ _) hxrz rfl rfl rfl (Eq.refl 2) (by simp [Value.oneCell']) ?_; intro w8 hx8 hg8 hs8))
          have hbz8 := hbz.grown hg8 hbz.size (fun k hk => by cases hk; omega)
          refine bodyPost_ret (run_results_cell rfl rfl isAgg_rcert (size_rcert _ _) hx8) rfl ⟨F.set k z, L, some ⟨lb, 0, none⟩, a5, c4, c5, by rw [List.length_set], by rw [List.length_set]; exact fin_own hoF hg8, slOr hoL hg8, by rw [List.length_set]; omega, Nat.le_refl _, hbz8⟩
    · go_upto_region 13 with fail
      clear f0 f1
      refine wp_region_free 5 [⟨0, 81, [81], fun vs _ => vs = [.pointer (some ⟨b9, 0, none⟩)]⟩, ⟨1, 82, [82], fun vs _ => vs = [.slice a4 F.length c4]⟩, ⟨2, 83, [83], fun vs _ => vs = [.int .i64 by_]⟩, ⟨3, 84, [84], fun vs _ => vs = [.int .i64 (r8 : Int)]⟩, ⟨4, 85, [85], fun vs w => ∃ b, vs = [.slice (some ⟨b, 0, none⟩) 1 1] ∧ Sl w 1 (some ⟨b, 0, none⟩) 1 1 [I64 (r8 : Int)]⟩] (by kernel_rfl) (by kernel_rfl) ?_ ?_ ?_
      · simp only [All]
        refine ⟨fun _ _ _ _ h => h, fun _ _ _ _ h => h, fun _ _ _ _ h => h, fun _ _ _ _ h => h, ?_, trivial⟩
        · rintro vs w w' hb ⟨b, h1, h2⟩
          exact ⟨b, h1, h2.below hb⟩
      · simp only [All]
        refine ⟨?_, ?_, ?_, ?_, ?_, trivial⟩
        · intro o ho a' w' hb hfr hdep
          obtain rfl := Option.some.inj ho
          have g9 : a'.tmps[9]?.getD undef = .pointer (some ⟨b9, 0, none⟩) := by have h := hfr 9 (by kernel_rfl); simpa using h
          clear ho hfr hdep
          go_wp2_with fail
          exact ⟨rfl, _, rfl, Below.refl _ _, rfl⟩
        · intro o ho a' w' hb hfr hdep
          obtain rfl := Option.some.inj ho
          have g81 : a'.tmps[81]?.getD undef = .pointer (some ⟨b9, 0, none⟩) := by have h := hdep 0 _ rfl (by kernel_rfl); simpa using h
          clear ho hfr hdep
          have hcl := (hx3.under hb).at_ (j := 0) rfl
          go_wp2_with fail
          exact ⟨rfl, _, rfl, Below.refl _ _, rfl⟩
        · intro o ho a' w' hb hfr hdep
          obtain rfl := Option.some.inj ho
          have g3 : a'.tmps[3]?.getD undef = .int .i64 by_ := by have h := hfr 3 (by kernel_rfl); simpa using h
          clear ho hfr hdep
          go_wp2_with fail
          exact ⟨rfl, _, rfl, Below.refl _ _, rfl⟩
        · intro o ho a' w' hb hfr hdep
          obtain rfl := Option.some.inj ho
          have g83 : a'.tmps[83]?.getD undef = .int .i64 by_ := by have h := hdep 2 _ rfl (by kernel_rfl); simpa using h
          clear ho hfr hdep
          go_wp2_with fail
          refine (hA8 _).mono ?_
          rintro e w3 ⟨rfl, rfl⟩
          go_wp2_with fail
          exact ⟨rfl, _, rfl, Below.refl _ _, rfl⟩
        · intro o ho a' w' hb hfr hdep
          obtain rfl := Option.some.inj ho
          have g84 : a'.tmps[84]?.getD undef = .int .i64 (r8 : Int) := by have h := hdep 3 _ rfl (by kernel_rfl); simpa using h
          clear ho hfr hdep
          go_wp2_with fail
          exact ⟨rfl, _, rfl, blo _ _, w'.heap.size, rfl, Sl.fresh w' 3 1 1 [I64 (r8 : Int)] rfl (by unfold maxLen; omega)⟩
      · intro g w4 hb4 hp4
        have p82 := hp4 1 _ rfl
        obtain ⟨b, p85, hsb⟩ := hp4 4 _ rfl
        clear hp4
        simp at p82 p85
        simp only [List.drop_succ_cons, List.drop_zero, List.map_cons, List.map_nil, putAll, Act.put, List.setIfInBounds_toArray, List.set_cons_succ, List.set_cons_zero, p82, p85]
        clear p82 p85
        have hz3 : w0.heap.size + 2 ≤ w3.heap.size := Nat.le_trans hb9 (Nat.le_of_lt hx3.lt)
        have hne9 : some b9 ≠ a4.map (·.block) := fun e => by
          cases a4 with
          | none => cases e
          | some q => exact (KindOf.own ho4).ne hx3 (by decide) q rfl (by simpa using e.symm)
        have hner : some (w0.heap.size + 1) ≠ a4.map (·.block) := fun e => by
          cases a4 with
          | none => cases e
          | some q =>
            have h1 := ho4.base.1
            have h2 : w0.heap.size + 1 = q.block := by simpa using e
            omega
        refine append_own rfl _ _ 22 rfl 3 (.int .i64 0) 1 8 Try.underlying22 info_int rfl w3 (w0.heap.size + 2) a4 F.length c4 _ rfl (ho4.below hb4) (some ⟨b, 0, none⟩) 1 1 [I64 (r8 : Int)] rfl hsb (by simp [Value.oneCell']) (by omega) (by unfold maxLen; omega) (Nat.le_trans hz3 hb4.size) (hb4.mono hz3) ?_
        intro a6 c6 w5 ho6 hg6 hb6
        have hx5 := (hx3.under hb4).grown hg6 hne9
        have hf5 := hx5.at_ (j := 0) rfl
        have hfr5 := hx5.free 0
        have hxr5 := (hxr3.under hb4).grown hg6 hner
        have hb05 := hbw3.trans (hb6.mono (by omega))
        have hoL5 : Own w5 (w0.heap.size + 2) 3 1 a5 L.length c5 (L.map I64) ∨ L.length = 0 ∧ c5 = 0 := by
          rcases hap with h | h
          · exact .inr h
          · refine .inl ((ho5.below hb4).kept hg6 (fun q hq e => ?_))
            cases a4 with
            | none => cases e
            | some q0 => exact h q q0 hq rfl (by simpa using e)
        clear hsb hg6 hb6 hne9 hner
        simp only [Act.put, List.setIfInBounds_toArray, List.set_cons_succ, List.set_cons_zero]
        go_upto_region 14 with (with_reducible refine store_slice 22 _ _ size_ints b9 0 rfl a6 (F.length + 1) c6 rfl _ hf5 hfr5 ?_)
        have hxz : Box (w5.setCell ⟨b9, 0, none⟩ (.slice a6 (F.length + 1) c6)) b9 35 [.slice a6 (F.length + 1) c6, .slice a5 L.length c5] := hx5.put 0 _
        have hxrz := hxr5.far (p := ⟨b9, 0, none⟩) (by show _ ≠ b9; omega) (.slice a6 (F.length + 1) c6)
        have hbz := hb05.setCell (p := ⟨b9, 0, none⟩) (by show _ ≤ b9; omega) (.slice a6 (F.length + 1) c6)
        have hoF := ho6.set_other (p := ⟨b9, 0, none⟩) (fun q hq e => (KindOf.own ho6).ne hx5 (by decide) q hq (by rw [show q.block = b9 from e])) (.slice a6 (F.length + 1) c6)
        have hoL : Own (w5.setCell ⟨b9, 0, none⟩ (.slice a6 (F.length + 1) c6)) (w0.heap.size + 2) 3 1 a5 L.length c5 (L.map I64) ∨ L.length = 0 ∧ c5 = 0 := by
          rcases hoL5 with h | h
          · exact .inl (h.set_other (p := ⟨b9, 0, none⟩) (fun q hq e => (KindOf.own h).ne hx5 (by decide) q hq (by rw [show q.block = b9 from e])) _)
          · exact .inr h
        rw [show F.map I64 ++ [I64 (r8 : Int)] = (F ++ [(r8 : Int)]).map I64 by simp] at hoF
        clear hf5 hfr5
        go_wp2_with (first
          | (with_reducible refine load_box 88 35 _ 35 b9 0 _ [.slice a6 (F.length + 1) c6, .slice a5 L.length c5] isAgg_rcert (size_rcert _ _) hxz rfl (fun j u hj => by rw [Nat.zero_add]; exact hj) ?_)
          | (with_reducible refine store_all 35 _ _ 35 (w0.heap.size + 1) _ [.slice a6 (F.length + 1) c6, .slice a5 L.length c5] _ (size_rcert _ _) hxrz rfl rfl rfl (Eq.refl 2) (by simp [Value.oneCell']) ?_; intro w8 hx8 hg8 hs8))
        have hbz8 := hbz.grown hg8 hbz.size (fun k hk => by cases hk; omega)
        refine bodyPost_ret (run_results_cell rfl rfl isAgg_rcert (size_rcert _ _) hx8) rfl ⟨F ++ [(r8 : Int)], L, a6, a5, c6, c5, by rw [List.length_append]; rfl, by rw [List.length_append]; exact fin_own hoF hg8, slOr hoL hg8, by rw [List.length_append]; exact Nat.le_refl _, Nat.le_refl _, hbz8⟩
    · obtain ⟨m, Hm⟩ : ∃ m, Hid (L.length / 2 = m) := ⟨_, hide rfl⟩
      have hmc : m ≤ c5 := by rw [← Hm.out]; have := ho5.sl.le; omega
      have hml : m ≤ L.length := by rw [← Hm.out]; omega
      have hq2 : ((L.length : Int) / 2) = (m : Int) := by rw [← Hm.out]; omega
      have hf5 := hx3.at_ (j := 1) rfl
      have hfr5 := hx3.free 1
      go_upto_region 14 with (first
        | (with_reducible refine cut_hi_any 29 22 _ _ 3 Try.underlying22 1 size_int a5 L.length c5 rfl .i64 m rfl hmc ?_)
        | (with_reducible refine store_slice 22 _ _ size_ints b9 1 rfl a5 m c5 rfl _ hf5 hfr5 ?_))
      have hz3 : w0.heap.size + 2 ≤ w3.heap.size := Nat.le_trans hb9 (Nat.le_of_lt hx3.lt)
      have hxz : Box (w3.setCell ⟨b9, 1, none⟩ (.slice a5 m c5)) b9 35 [.slice a4 F.length c4, .slice a5 m c5] := hx3.put 1 _
      have hxrz := hxr3.far (p := ⟨b9, 1, none⟩) (by show _ ≠ b9; omega) (.slice a5 m c5)
      have hbz := hbw3.setCell (p := ⟨b9, 1, none⟩) (by show _ ≤ b9; omega) (.slice a5 m c5)
      have hoF := ho4.set_other (p := ⟨b9, 1, none⟩) (fun q hq e => (KindOf.own ho4).ne hx3 (by decide) q hq (by rw [show q.block = b9 from e])) (.slice a5 m c5)
      have hoL := ho5.set_other (p := ⟨b9, 1, none⟩) (fun q hq e => (KindOf.own ho5).ne hx3 (by decide) q hq (by rw [show q.block = b9 from e])) (.slice a5 m c5)
      have HQ2 := hide hq2
      clear hf5 hfr5 f0 f1 hq2
      go_wp2_with (first
        | (with_reducible refine load_box 88 35 _ 35 b9 0 _ [.slice a4 F.length c4, .slice a5 m c5] isAgg_rcert (size_rcert _ _) hxz rfl (fun j u hj => by rw [Nat.zero_add]; exact hj) ?_)
        | (with_reducible refine store_all 35 _ _ 35 (w0.heap.size + 1) _ [.slice a4 F.length c4, .slice a5 m c5] _ (size_rcert _ _) hxrz rfl rfl rfl (Eq.refl 2) (by simp [Value.oneCell']) ?_; intro w8 hx8 hg8 hs8))
      have hbz8 := hbz.grown hg8 hbz.size (fun k hk => by cases hk; omega)
      refine bodyPost_ret (run_results_cell rfl rfl isAgg_rcert (size_rcert _ _) hx8) rfl ⟨F, L.take m, a4, a5, c4, c5, by rw [List.length_take, Nat.min_eq_left hml], fin_own hoF hg8, by rw [List.length_take, Nat.min_eq_left hml]; exact sl_take (fin_own hoL hg8) hml, by omega, by rw [List.length_take]; omega, hbz8⟩
end Go.Proofs.Ytmjkhmebpciopaa
end

/- the text T45 -/
section
/- Chapter 15: Check of the right certificate, and of others; in plain words. -/
namespace Go.Proofs.Ytmjkhmebpciopaa
open Go.RowKit Go.Dx

theorem tab_check_any {X : List (List (List UInt8))} {W : Int} {P : List (List UInt8)} {F0 Ls : List Nat} (h : LayOf X W P F0 Ls) (hs : List Hd) (a : Option Addr) (n c : Nat) (F L' : List Int) (aF aL : Option Addr) (nF cF nL cL : Nat) (w : World) (hp : Pg3 w a n c hs X)
    (hF : Sl w 1 aF nF cF (F.map I64)) (hL : Sl w 1 aL nL cL (L'.map I64)) (hFl : F.length ≤ 1000000) (hLl : L'.length ≤ 1000000) :
    Calls Try.prog 23 #[.slice a n c, .int .i64 W, .agg #[.slice aF nF cF, .slice aL nL cL]] w fun e w' => e = .returned (.int .i64 (chkT X W F0.length Ls F L')) ∧ Below w.heap.size w w' := by
  rcases h with ⟨h0, L, T, hS, rfl, rfl, rfl⟩ | ⟨h0, rfl, rfl, rfl⟩
  · exact tab_Check X hs a n c W L T F L' aF aL nF cF nL cL w hp h0 hS hF hL hFl hLl
  · rw [chkT_err h0]; exact tab_Check_no X hs a n c W aF aL nF cF nL cL w hp h0
theorem ref_check_any {X : List (List (List UInt8))} {W : Int} {P : List (List UInt8)} {F0 Ls : List Nat} (h : LayOf X W P F0 Ls) (hs : List Hd) (a : Option Addr) (n c : Nat) (F L' : List Int) (aF aL : Option Addr) (nF cF nL cL : Nat) (w : World) (hp : Pg3 w a n c hs X)
    (hW : -9223372036854775808 ≤ W ∧ W ≤ 9223372036854775807) (hF : Sl w 1 aF nF cF (F.map I64)) (hL : Sl w 1 aL nL cL (L'.map I64)) (hFl : F.length ≤ 1000000) (hLl : L'.length ≤ 1000000) :
    Calls Try.prog 24 #[.slice a n c, .int .i64 W, .agg #[.slice aF nF cF, .slice aL nL cL]] w fun e w' => e = .returned (.int .i64 (chkT X W F0.length Ls F L')) ∧ Below w.heap.size w w' := by
  rcases h with ⟨h0, L, T, hS, rfl, rfl, rfl⟩ | ⟨h0, rfl, rfl, rfl⟩
  · exact ref15_Check X hs a n c W L T F L' aF aL nF cF nL cL w hp hW h0 hS hF hL hFl hLl
  · rw [chkT_err h0]; exact ref15_Check_no X hs a n c W aF aL nF cF nL cL w hp hW h0
theorem ints_getD (l : List Nat) (i : Nat) (h : i < l.length) : (ints l).getD i 0 = (l[i] : Int) := by
  unfold ints
  rw [List.getD_eq_getElem?_getD, List.getElem?_map]
  simp [h]
/-- the parts of the right certificate -/
theorem Sol.parts {f : Nat → Nat} {n R : Nat} {W : Int} {L T : Nat → Nat} (h : Sol f n R W L T 1) : ∀ (i k : Nat), 1 ≤ k → k < n → ∀ a, (chain n T n k)[i]? = some a → (1 ≤ a ∧ a < n) ∧ (i = 0 → a = k) ∧ ((chain n T n k)[i + 1]? = none ∧ T a = n ∨ (chain n T n k)[i + 1]? = some (T a)) := by
  intro i
  induction i with
  | zero =>
    intro k h1 h2 a ha
    have hb := h k h1 h2
    have hlt := hb.lt
    have hle := hb.le
    rw [chain_step h.gt h1 h2] at ha ⊢
    cases ha
    refine ⟨⟨h1, h2⟩, fun _ => rfl, ?_⟩
    show ((chain n T n (T k))[0]? = none ∧ T k = n) ∨ (chain n T n (T k))[0]? = some (T k)
    by_cases hn : T k < n
    · right; rw [chain_step h.gt (by omega) hn]; rfl
    · left; rw [chain_stop hn]; exact ⟨rfl, by omega⟩
  | succ i ih =>
    intro k h1 h2 a ha
    have hb := h k h1 h2
    have hlt := hb.lt
    rw [chain_step h.gt h1 h2] at ha ⊢
    replace ha : (chain n T n (T k))[i]? = some a := ha
    by_cases hn : T k < n
    · obtain ⟨g1, _, g3⟩ := ih (T k) (by omega) hn a ha
      exact ⟨g1, fun h => absurd h (by omega), g3⟩
    · rw [chain_stop hn] at ha; simp at ha
theorem Sol.accept {f : Nat → Nat} {n R : Nat} {W : Int} {L T : Nat → Nat} (h : Sol f n R W L T 1) (hn : 1 ≤ n) : (List.range (ints (chain n T n 1)).length).all (okPart f n W (ints (chain n T n 1))) = true := by
  apply List.all_eq_true.2
  intro i hi
  have hi := List.mem_range.1 hi
  have hl : (ints (chain n T n 1)).length = (chain n T n 1).length := by unfold ints; simp
  rw [hl] at hi
  have h2 : 1 < n := by
    rcases Nat.lt_or_ge 1 n with h | h
    · exact h
    · rw [chain_stop (by omega)] at hi; simp at hi
  obtain ⟨⟨a1, a2⟩, a3, a4⟩ := h.parts i 1 (Nat.le_refl _) h2 _ (List.getElem?_eq_getElem hi)
  have hb := h _ a1 a2
  have e1 := ints_getD (chain n T n 1) i hi
  have e2 : toAt (ints (chain n T n 1)) n i = (T ((chain n T n 1)[i]) : Int) := by
    unfold toAt
    rw [hl]
    rcases a4 with ⟨g1, g2⟩ | g1
    · have : ¬ i + 1 < (chain n T n 1).length := fun h => by rw [List.getElem?_eq_getElem h] at g1; cases g1
      rw [if_neg this, g2]
    · have hlt : i + 1 < (chain n T n 1).length := (List.getElem?_eq_some_iff.1 g1).1
      rw [if_pos hlt, ints_getD _ _ hlt]
      have := (List.getElem?_eq_some_iff.1 g1).2
      rw [this]
  have hlt := hb.lt
  have hle := hb.le
  unfold okPart
  rw [e1, e2]
  refine decide_eq_true ⟨fun h => by rw [a3 h]; rfl, by omega, by omega, by omega, ?_⟩
  rw [Int.toNat_natCast, Int.toNat_natCast]
  exact hb.ok
theorem chk_own {X : List (List (List UInt8))} {W : Int} {P : List (List UInt8)} {F0 Ls : List Nat} (h : LayOf X W P F0 Ls) (h0 : errT X W = 0) : chkT X W F0.length Ls (ints F0) (ints Ls) = 0 ∧ Ls.length = nCols X := by
  rcases h with ⟨_, L, T, hS, rfl, rfl, rfl⟩ | ⟨h, _⟩
  · refine ⟨?_, leastL_len _ _⟩
    unfold chkT
    rw [if_neg (fun h => h h0), if_pos ⟨rfl, by unfold ints; simp⟩, if_pos (hS.accept (errT_zero h0).1.c1)]
  · exact absurd h0 h
theorem chk_least {X : List (List (List UInt8))} {W : Int} {m : Nat} {Ls : List Nat} {F L : List Int} (h0 : errT X W = 0) (h : L ≠ ints Ls) : chkT X W m Ls F L = 19 := by
  unfold chkT
  rw [if_neg (fun h => h h0), if_neg (fun hh => h hh.1)]
theorem chk_first {X : List (List (List UInt8))} {W : Int} {m : Nat} {Ls : List Nat} {F L : List Int} (h0 : errT X W = 0) (h : F.length ≠ m) : chkT X W m Ls F L = 19 := by
  unfold chkT
  rw [if_neg (fun h => h h0), if_neg (fun hh => h hh.2)]
end Go.Proofs.Ytmjkhmebpciopaa
end

/- the text T47 -/
section
/- Chapter 15: reading a layout back, in plain words. No program in sight. -/
namespace Go.Proofs.Ytmjkhmebpciopaa

/-- no two zeros one after the other, the last one not zero -/
def NZ : List UInt8 → Prop
  | [] => False
  | [x] => x ≠ 0
  | x :: y :: t => ¬ (x = 0 ∧ y = 0) ∧ NZ (y :: t)
theorem cut_two : ∀ (e now t : List UInt8), NZ e → cutA now (e ++ 0 :: 0 :: t) = (now ++ e) :: cutA [] (dropZ t)
  | [], _, _, h => h.elim
  | [x], now, t, h => by
    have h1 : ¬ (x = 0 ∧ (0 :: 0 :: t : List UInt8).head? = some 0) := fun hh => h hh.1
    show cutA now (x :: 0 :: 0 :: t) = _
    rw [cutA_step h1, cutA_zero rfl]
    show _ :: cutA [] (dropZ (0 :: t)) = _
    rfl
  | x :: y :: e, now, t, h => by
    have h1 : ¬ (x = 0 ∧ (y :: e ++ 0 :: 0 :: t : List UInt8).head? = some 0) := fun hh => h.1 ⟨hh.1, by simpa using hh.2⟩
    show cutA now (x :: (y :: e ++ 0 :: 0 :: t)) = _
    rw [cutA_step h1, cut_two (y :: e) (now ++ [x]) t h.2, List.append_assoc]; rfl
theorem cut_one : ∀ (e now : List UInt8), NZ e → cutA now e = [now ++ e]
  | [], _, h => h.elim
  | [x], now, h => by
    have h1 : ¬ (x = 0 ∧ ([] : List UInt8).head? = some 0) := fun hh => h hh.1
    rw [cutA_step h1, cutA_nil]
  | x :: y :: e, now, h => by
    have h1 : ¬ (x = 0 ∧ (y :: e : List UInt8).head? = some 0) := fun hh => h.1 ⟨hh.1, by simpa using hh.2⟩
    rw [cutA_step h1, cut_one (y :: e) (now ++ [x]) h.2, List.append_assoc]; rfl
theorem dropZ_zeros (k : Nat) (e : List UInt8) (h : e.head? ≠ some 0) : dropZ (List.replicate k 0 ++ e) = e := by
  induction k with
  | zero =>
    cases e with
    | nil => rfl
    | cons x t =>
      show (if x = 0 then dropZ t else x :: t) = _
      rw [if_neg (fun hx => h (by rw [hx]; rfl))]
  | succ k ih => rw [List.replicate_succ]; exact ih
/-- an entry is one -/
theorem entry_nz {e : List UInt8} (h : entryB e = true) : NZ e ∧ e.head? ≠ some 0 := by
  unfold entryB at h
  simp only [Bool.and_eq_true, decide_eq_true_eq, bne_iff_ne, ne_eq, Bool.not_eq_true'] at h
  obtain ⟨⟨h1, _⟩, h2, h3, h4⟩ := h
  have hb : ∀ i, i < e.length → badAt e i = false := fun i hi => by
    cases hq : badAt e i with
    | false => rfl
    | true => rw [List.any_eq_true.2 ⟨i, List.mem_range.2 hi, hq⟩] at h4; cases h4
  refine ⟨?_, fun hh => ?_⟩
  · have key : ∀ (l : List UInt8), 1 ≤ l.length → (l.getD (l.length - 1) 0).toNat ≠ 0 → (∀ i, i + 1 < l.length → ¬ ((l.getD i 0) = 0 ∧ (l.getD (i + 1) 0) = 0)) → NZ l := by
      intro l
      induction l with
      | nil => intro h; simp at h
      | cons x t ih =>
        intro _ hl hp
        cases t with
        | nil => show x ≠ 0; intro hx; apply hl; rw [hx]; rfl
        | cons y t =>
          refine ⟨hp 0 (by simp), ih (by simp) (by simpa using hl) (fun i hi => ?_)⟩
          have := hp (i + 1) (by simpa using hi)
          simpa using this
    refine key e h1 h3 (fun i hi hh => ?_)
    have := hb (i + 1) hi
    unfold badAt at this
    simp only [Bool.or_eq_false_iff] at this
    have h5 := this.2
    have e1 : (e.getD (i + 1) 0).toNat = 0 := by rw [hh.2]; rfl
    have e2 : (e.getD (i + 1 - 1) 0).toNat = 0 := by rw [Nat.add_sub_cancel, hh.1]; rfl
    rw [e1, e2] at h5
    simp at h5
  · cases e with
    | nil => simp at h1
    | cons x t =>
      have : x = 0 := by simpa using hh
      exact h2 (by rw [this]; rfl)
/-- further entries, each behind some zeros -/
def flatE : List (Nat × List UInt8) → List UInt8
  | [] => []
  | (z, e) :: t => List.replicate z 0 ++ (e ++ flatE t)
theorem flatE_app (a b : List (Nat × List UInt8)) : flatE (a ++ b) = flatE a ++ flatE b := by
  induction a with
  | nil => rfl
  | cons x t ih => obtain ⟨z, e⟩ := x; show List.replicate z 0 ++ (e ++ flatE (t ++ b)) = _; rw [ih]; simp [flatE]
theorem cut_flat : ∀ (ps : List (Nat × List UInt8)) (e : List UInt8), entryB e = true → (∀ q ∈ ps, 2 ≤ q.1 ∧ entryB q.2 = true) → cutL (e ++ flatE ps) = e :: ps.map (·.2)
  | [], e, h, _ => by
    show cutA [] (e ++ []) = _
    rw [List.append_nil, cut_one e [] (entry_nz h).1]; rfl
  | (z, e1) :: ps, e, h, hq => by
    obtain ⟨hz, he⟩ := hq _ List.mem_cons_self
    obtain ⟨k, rfl⟩ : ∃ k, z = k + 1 + 1 := ⟨z - 2, by simp at hz; omega⟩
    have e2 : e ++ flatE ((k + 1 + 1, e1) :: ps) = e ++ 0 :: 0 :: (List.replicate k 0 ++ (e1 ++ flatE ps)) := by
      show e ++ (List.replicate (k + 1 + 1) 0 ++ (e1 ++ flatE ps)) = _
      rw [List.replicate_succ, List.replicate_succ]; rfl
    have hh : (e1 ++ flatE ps).head? ≠ some 0 := by
      have h1 := (entry_nz he).2
      cases e1 with
      | nil => exact absurd (entry_le he).1 (by simp)
      | cons x t => simpa using h1
    show cutA [] (e ++ flatE ((k + 1 + 1, e1) :: ps)) = _
    rw [e2, cut_two e [] _ (entry_nz h).1, dropZ_zeros k _ hh]
    show e :: cutL (e1 ++ flatE ps) = _
    rw [cut_flat ps e1 he (fun q hq' => hq q (List.mem_cons_of_mem _ hq'))]; rfl
/-- the zeros ahead of the entries of a line -/
theorem lineL_flat {f : Nat → Nat} {row : List (List UInt8)} (h : ∀ i, (row.getD i []).length ≤ f i) (j : Nat) : ∀ m, ∃ ps : List (Nat × List UInt8), lineL f row j m = row.getD 0 [] ++ flatE ps ∧ ps.map (·.2) = (List.range m).map (fun i => row.getD (j + i) []) ∧ ∀ q ∈ ps, 2 ≤ q.1
  | 0 => ⟨[], by show row.getD 0 [] = _; simp [flatE], rfl, fun q hq => by cases hq⟩
  | m + 1 => by
    obtain ⟨ps, h1, h2, h3⟩ := lineL_flat h j m
    have hle := lineL_le h j m
    refine ⟨ps ++ [(sizeW f j m + 2 - (lineL f row j m).length, row.getD (j + m) [])], ?_, ?_, ?_⟩
    · show lineL f row j m ++ List.replicate (sizeW f j m + 2 - (lineL f row j m).length) 0 ++ row.getD (j + m) [] = _
      rw [flatE_app, ← List.append_assoc, ← h1]
      simp [flatE]
    · rw [List.map_append, h2, List.range_succ, List.map_append]; rfl
    · intro q hq
      rcases List.mem_append.1 hq with hq | hq
      · exact h3 q hq
      · have : q = _ := List.mem_singleton.1 hq
        rw [this]; show 2 ≤ _; omega
theorem range_sel (row : List (List UInt8)) (j : Nat) : ∀ m, j + m ≤ row.length → (List.range m).map (fun i => row.getD (j + i) []) = (row.drop j).take m
  | 0, _ => by simp
  | m + 1, h => by
    have hr : (row.drop j)[m]? = some (row[j + m]'(by omega)) := by rw [List.getElem?_drop]; simp
    rw [List.range_succ, List.map_append, range_sel row j m (by omega), take_snoc hr]
    have : row.getD (j + m) [] = row[j + m]'(by omega) := by rw [List.getD_eq_getElem?_getD]; simp [show j + m < row.length by omega]
    show _ ++ [row.getD (j + m) []] = _
    rw [this]
/-- a part: the first column and m columns from j on -/
def selR (row : List (List UInt8)) (j m : Nat) : List (List UInt8) := row.getD 0 [] :: (row.drop j).take m
def selP (X : List (List (List UInt8))) (j m : Nat) : List (List (List UInt8)) := X.map fun row => selR row j m
theorem cut_line {X : List (List (List UInt8))} (hX : VX X) {row : List (List UInt8)} (hr : row ∈ X) {j m : Nat} (hj : j + m ≤ nCols X) : cutL (lineL (colW X) row j m) = selR row j m := by
  have hl := hX.row row hr
  obtain ⟨ps, h1, h2, h3⟩ := lineL_flat (f := colW X) (row := row) (fun i => wide_mem hr i) j m
  have hent : ∀ i, i < nCols X → entryB (row.getD i []) = true := fun i hi => by
    rw [List.getD_eq_getElem?_getD, List.getElem?_eq_getElem (by omega : i < row.length)]
    exact hX.ent row hr _ (List.getElem_mem _)
  have hps : ∀ q ∈ ps, 2 ≤ q.1 ∧ entryB q.2 = true := fun q hq => by
    refine ⟨h3 q hq, ?_⟩
    have h4 : q.2 ∈ ps.map (·.2) := List.mem_map.2 ⟨q, hq, rfl⟩
    rw [h2] at h4
    obtain ⟨i, hi, e⟩ := List.mem_map.1 h4
    rw [← e]
    have := List.mem_range.1 hi
    exact hent _ (by omega)
  rw [h1, cut_flat ps _ (hent 0 (by have := hX.c1; omega)) hps, h2, range_sel row j m (by omega)]
  rfl
theorem cut_lines {X : List (List (List UInt8))} (hX : VX X) {j m : Nat} (hj : j + m ≤ nCols X) : (linesL (colW X) X j m).map cutL = selP X j m := by
  unfold linesL selP
  rw [List.map_map]
  apply List.map_congr_left
  intro row hr
  exact cut_line hX hr hj
theorem selP_len (X : List (List (List UInt8))) (j m : Nat) : (selP X j m).length = X.length := by unfold selP; simp
theorem selR_len {row : List (List UInt8)} {j m : Nat} (h : j + m ≤ row.length) : (selR row j m).length = m + 1 := by unfold selR; simp; omega
theorem selP_vx {X : List (List (List UInt8))} (hX : VX X) {j m : Nat} (h1 : 1 ≤ j) (hj : j + m ≤ nCols X) : VX (selP X j m) ∧ nCols (selP X j m) = m + 1 := by
  have hrow : ∀ row ∈ selP X j m, row.length = m + 1 := by
    intro row hr
    obtain ⟨r, hr', rfl⟩ := List.mem_map.1 hr
    exact selR_len (by rw [hX.row r hr']; exact hj)
  have hent : ∀ row ∈ selP X j m, ∀ x ∈ row, entryB x = true := by
    intro row hr x hx
    obtain ⟨r, hr', rfl⟩ := List.mem_map.1 hr
    unfold selR at hx
    rcases List.mem_cons.1 hx with rfl | hx
    · rw [List.getD_eq_getElem?_getD, List.getElem?_eq_getElem (by rw [hX.row r hr']; have := hX.c1; omega)]
      exact hX.ent r hr' _ (List.getElem_mem _)
    · exact hX.ent r hr' x (List.mem_of_mem_drop (List.mem_of_mem_take hx))
  have := Few.vx (X := selP X j m) (R := X.length) (C := m + 1) ⟨selP_len X j m, hrow, hent⟩ hX.r1 hX.r2 (by omega) (by have := hX.c2; omega)
  exact this
theorem selR_getD {row : List (List UInt8)} {j m i : Nat} (h : j + m ≤ row.length) (hi : i < m) : (selR row j m).getD (1 + i) [] = row.getD (j + i) [] := by
  unfold selR
  rw [show 1 + i = i + 1 by omega, List.getD_cons_succ, List.getD_eq_getElem?_getD, List.getD_eq_getElem?_getD, List.getElem?_take, if_pos hi, List.getElem?_drop]
theorem selP_colW {X : List (List (List UInt8))} (hX : VX X) {j m : Nat} (hj : j + m ≤ nCols X) : colW (selP X j m) 0 = colW X 0 ∧ ∀ i, i < m → colW (selP X j m) (1 + i) = colW X (j + i) := by
  unfold colW selP
  refine ⟨?_, fun i hi => ?_⟩
  · rw [List.map_map]; rfl
  · rw [List.map_map]
    congr 1
    apply List.map_congr_left
    intro row hr
    exact selR_getD (by rw [hX.row row hr]; exact hj) hi
theorem selP_size {X : List (List (List UInt8))} (hX : VX X) {j m : Nat} (hj : j + m ≤ nCols X) : ∀ i, i ≤ m → sizeW (colW (selP X j m)) 1 i = sizeW (colW X) j i
  | 0, _ => (selP_colW hX hj).1
  | i + 1, hi => by
    show sizeW (colW (selP X j m)) 1 i + (2 + colW (selP X j m) (1 + i)) = sizeW (colW X) j i + (2 + colW X (j + i))
    rw [selP_size hX hj i (by omega), (selP_colW hX hj).2 i (by omega)]
theorem selP_line {X : List (List (List UInt8))} (hX : VX X) {row : List (List UInt8)} (hr : row ∈ X) {j m : Nat} (hj : j + m ≤ nCols X) : ∀ i, i ≤ m → lineL (colW (selP X j m)) (selR row j m) 1 i = lineL (colW X) row j i
  | 0, _ => rfl
  | i + 1, hi => by
    show lineL (colW (selP X j m)) (selR row j m) 1 i ++ List.replicate (sizeW (colW (selP X j m)) 1 i + 2 - (lineL (colW (selP X j m)) (selR row j m) 1 i).length) 0 ++ (selR row j m).getD (1 + i) [] = _
    rw [selP_line hX hr hj i (by omega), selP_size hX hj i (by omega), selR_getD (by rw [hX.row row hr]; exact hj) (by omega)]
    rfl
theorem selP_lines {X : List (List (List UInt8))} (hX : VX X) {j m : Nat} (hj : j + m ≤ nCols X) : linesL (colW (selP X j m)) (selP X j m) 1 m = linesL (colW X) X j m := by
  show (X.map fun row => selR row j m).map (fun row => lineL (colW (selP X j m)) row 1 m) = _
  rw [List.map_map]
  apply List.map_congr_left
  intro row hr
  exact selP_line hX hr hj m (Nat.le_refl _)
theorem lines_ok {X : List (List (List UInt8))} (hX : VX X) {j m : Nat} (h1 : 1 ≤ j) (hj : j + m ≤ nCols X) : okB (linesL (colW X) X j m) := by
  unfold okB
  rw [cut_lines hX hj]
  obtain ⟨h2, h3⟩ := selP_vx hX h1 hj
  refine ⟨h2.back, ?_⟩
  rw [h3, Nat.add_sub_cancel]
  exact selP_lines hX hj
/-- the first c columns -/
def firstC (X : List (List (List UInt8))) (c : Nat) : List (List (List UInt8)) := X.map fun row => row.take c
theorem sel_first {X : List (List (List UInt8))} (hX : VX X) {m : Nat} (hm : 1 + m ≤ nCols X) : selP X 1 m = firstC X (1 + m) := by
  unfold selP firstC
  apply List.map_congr_left
  intro row hr
  have hl := hX.row row hr
  cases row with
  | nil => have := hX.c1; simp at hl; omega
  | cons e t => show e :: (t.take m) = (e :: t).take (1 + m); rw [show 1 + m = m + 1 by omega, List.take_succ_cons]
theorem first_all {X : List (List (List UInt8))} (hX : VX X) : firstC X (nCols X) = X := by
  have h : ∀ row ∈ X, row.take (nCols X) = row := fun row hr => List.take_of_length_le (by rw [hX.row row hr]; exact Nat.le_refl _)
  unfold firstC
  rw [List.map_congr_left h, List.map_id']
theorem firstC_get {X : List (List (List UInt8))} {c k : Nat} : (firstC X c)[k]? = X[k]?.map (·.take c) := by unfold firstC; rw [List.getElem?_map]
theorem join_sel {X : List (List (List UInt8))} {c m : Nat} : joinX (firstC X c) (selP X c m) = firstC X (c + m) := by
  apply List.ext_getElem?
  intro k
  rw [firstC_get]
  cases hk : X[k]? with
  | none =>
    have : X.length ≤ k := List.getElem?_eq_none_iff.1 hk
    rw [List.getElem?_eq_none (by rw [joinX_len]; unfold firstC; rw [List.length_map]; exact this)]; rfl
  | some row =>
    have h1 : (firstC X c)[k]? = some (row.take c) := by rw [firstC_get, hk]; rfl
    have h2 : (selP X c m)[k]? = some (selR row c m) := by unfold selP; rw [List.getElem?_map, hk]; rfl
    rw [joinX_get h1 h2]
    show some (row.take c ++ (row.drop c).take m) = some (row.take (c + m))
    rw [List.take_add]
theorem heads_sel {X : List (List (List UInt8))} (hX : VX X) {c m : Nat} (h1 : 1 ≤ c) : heads (firstC X c) (selP X c m) := by
  intro k hk
  rw [selP_len] at hk
  have hr : X[k]? = some X[k] := by simp [hk]
  have e1 : (selP X c m).getD k [] = selR X[k] c m := by rw [List.getD_eq_getElem?_getD]; unfold selP; rw [List.getElem?_map, hr]; rfl
  have e2 : (firstC X c).getD k [] = X[k].take c := by rw [List.getD_eq_getElem?_getD, firstC_get, hr]; rfl
  rw [e1, e2]
  show X[k].getD 0 [] = _
  rw [List.getD_eq_getElem?_getD, List.getD_eq_getElem?_getD, List.getElem?_take, if_pos (by omega)]
theorem lines_mem {X : List (List (List UInt8))} (hX : VX X) {j m : Nat} (hj : j + m ≤ nCols X) : ∀ l ∈ linesL (colW X) X j m, l ≠ [] := by
  intro l hl
  obtain ⟨row, hr, rfl⟩ := List.mem_map.1 hl
  intro e
  have := cut_line hX hr hj
  rw [e] at this
  have h0 : cutL [] = [[]] := by unfold cutL; rw [cutA_nil]
  rw [h0] at this
  unfold selR at this
  injection this with h1 h2
  have he : entryB (row.getD 0 []) = true := by
    rw [List.getD_eq_getElem?_getD, List.getElem?_eq_getElem (by rw [hX.row row hr]; have := hX.c1; omega)]
    exact hX.ent row hr _ (List.getElem_mem _)
  rw [← h1] at he
  exact absurd (entry_le he).1 (by simp)
theorem blk_rows : ∀ (b cur t : List (List UInt8)), (∀ l ∈ b, l ≠ []) → blk cur (b ++ t) = blk (cur ++ b) t
  | [], cur, t, _ => by simp
  | r :: b, cur, t, h => by
    show blk cur (r :: (b ++ t)) = _
    rw [blk_in (h r List.mem_cons_self), blk_rows b (cur ++ [r]) t (fun l hl => h l (List.mem_cons_of_mem _ hl)), List.append_assoc]; rfl
theorem reads_one {X : List (List (List UInt8))} (hX : VX X) : Reads (linesL (colW X) X 1 (nCols X - 1)) X := by
  have hc := hX.c1
  have hj : 1 + (nCols X - 1) ≤ nCols X := by omega
  have hb : blk [] (linesL (colW X) X 1 (nCols X - 1)) = [linesL (colW X) X 1 (nCols X - 1)] := by
    have := blk_rows (linesL (colW X) X 1 (nCols X - 1)) [] [] (lines_mem hX hj)
    rw [List.append_nil] at this
    rw [this]; rfl
  refine ⟨_, [], hb, lines_ok hX (Nat.le_refl _) hj, fun h => absurd rfl h, ?_, hX.back⟩
  rw [cut_lines hX hj, sel_first hX hj, show 1 + (nCols X - 1) = nCols X by omega, first_all hX]
  exact .nil X
theorem joins_page {X : List (List (List UInt8))} (hX : VX X) {R : Nat} {W : Int} {L T : Nat → Nat} (hS : Sol (colW X) (nCols X) R W L T 1) : ∀ (d k : Nat), nCols X - k = d → 2 ≤ k → k < nCols X →
    ∃ bs, blk [] (linesL (colW X) X k (T k - k) ++ pageG (colW X) X (nCols X) T (nCols X) (T k)) = bs ∧ Joins (firstC X k) bs X := by
  intro d
  induction d using Nat.strongRecOn with
  | ind d ih =>
    intro k hd h2 hk
    have hb := hS k (by omega) hk
    have hlt := hb.lt
    have hle := hb.le
    have hj : k + (T k - k) ≤ nCols X := by omega
    have hv := selP_vx hX (by omega : 1 ≤ k) hj
    rw [blk_rows _ _ _ (lines_mem hX hj), List.nil_append]
    have hstep : ∀ bs, Joins (firstC X (T k)) bs X → Joins (firstC X k) (linesL (colW X) X k (T k - k) :: bs) X := fun bs h => by
      refine .cons (lines_ok hX (by omega) hj) ?_ ?_ ?_ ?_
      · rw [cut_lines hX hj, selP_len]; unfold firstC; simp
      · rw [cut_lines hX hj, hv.2]; omega
      · rw [cut_lines hX hj]; exact heads_sel hX (by omega)
      · rw [cut_lines hX hj, join_sel, show k + (T k - k) = T k by omega]; exact h
    by_cases hn : T k < nCols X
    · obtain ⟨bs, hbs, hJ⟩ := ih (nCols X - T k) (by omega) (T k) rfl (by omega) hn
      rw [pageG_step hS.gt (by omega) hn, if_pos (by omega)]
      refine ⟨_, rfl, ?_⟩
      show Joins _ (blk _ ([] :: _)) _
      rw [blk_cut rfl]
      show Joins _ (_ :: blk [] (linesL (colW X) X (T k) (T (T k) - T k) ++ pageG (colW X) X (nCols X) T (nCols X) (T (T k)))) _
      rw [hbs]
      exact hstep bs hJ
    · rw [pageG_stop hn]
      refine ⟨_, rfl, ?_⟩
      rw [blk_end]
      refine hstep [] ?_
      have : T k = nCols X := by omega
      rw [this, first_all hX]
      exact .nil X
/-- reading a layout leads back -/
theorem reads_page {X : List (List (List UInt8))} (hX : VX X) {R : Nat} {W : Int} {L T : Nat → Nat} (hS : Sol (colW X) (nCols X) R W L T 1) : Reads (pageT (colW X) X (nCols X) T) X := by
  have hc := hX.c1
  by_cases h1 : nCols X = 1
  · have := reads_one hX
    unfold pageT
    rw [if_pos h1]
    rw [h1] at this
    exact this
  · have h2 : 1 < nCols X := by omega
    have hb := hS 1 (Nat.le_refl _) h2
    have hlt := hb.lt
    have hle := hb.le
    have hj : 1 + (T 1 - 1) ≤ nCols X := by omega
    have hv := selP_vx hX (Nat.le_refl 1) hj
    unfold pageT
    rw [if_neg h1, pageG_step hS.gt (Nat.le_refl _) h2, if_neg (by omega), List.nil_append]
    have hcut : (linesL (colW X) X 1 (T 1 - 1)).map cutL = firstC X (T 1) := by rw [cut_lines hX hj, sel_first hX hj, show 1 + (T 1 - 1) = T 1 by omega]
    have hcols : 2 ≤ nCols ((linesL (colW X) X 1 (T 1 - 1)).map cutL) := by rw [cut_lines hX hj, hv.2]; omega
    by_cases hn : T 1 < nCols X
    · obtain ⟨bs, hbs, hJ⟩ := joins_page hX hS (nCols X - T 1) (T 1) rfl (by omega) hn
      refine ⟨linesL (colW X) X 1 (T 1 - 1), bs, ?_, lines_ok hX (Nat.le_refl _) hj, fun _ => hcols, by rw [hcut]; exact hJ, hX.back⟩
      rw [blk_rows _ _ _ (lines_mem hX hj), List.nil_append, pageG_step hS.gt (by omega) hn, if_pos (by omega)]
      show blk _ ([] :: _) = _
      rw [blk_cut rfl]
      show _ :: blk [] (linesL (colW X) X (T 1) (T (T 1) - T 1) ++ pageG (colW X) X (nCols X) T (nCols X) (T (T 1))) = _
      rw [hbs]
    · refine ⟨linesL (colW X) X 1 (T 1 - 1), [], ?_, lines_ok hX (Nat.le_refl _) hj, fun h => absurd rfl h, ?_, hX.back⟩
      · rw [blk_rows _ _ _ (lines_mem hX hj), List.nil_append, pageG_stop hn, blk_end]
      · rw [hcut, show T 1 = nCols X by omega, first_all hX]
        exact .nil X
end Go.Proofs.Ytmjkhmebpciopaa
end

/- the text T48 -/
section
/- Chapter 15: a page is known by its entries and the lengths of its lines. No program in sight. -/
namespace Go.Proofs.Ytmjkhmebpciopaa

def shp (b : List (List UInt8)) : List Nat := b.map (·.length)
theorem blk_shape : ∀ (p q cur cur' : List (List UInt8)), shp p = shp q → shp cur = shp cur' → (blk cur p).map shp = (blk cur' q).map shp
  | [], [], cur, cur', _, h => by rw [blk_end, blk_end]; show [shp cur] = [shp cur']; rw [h]
  | [], _ :: _, _, _, h, _ => by cases h
  | _ :: _, [], _, _, h, _ => by cases h
  | r :: p, s :: q, cur, cur', h, hc => by
    have h1 : r.length = s.length := by unfold shp at h; injection h
    have h2 : shp p = shp q := by unfold shp at h; injection h
    by_cases hr : r = []
    · have hs : s = [] := List.eq_nil_of_length_eq_zero (by rw [← h1, hr]; rfl)
      rw [blk_cut hr, blk_cut hs, List.map_cons, List.map_cons, hc, blk_shape p q [] [] h2 rfl]
    · have hs : s ≠ [] := fun e => hr (List.eq_nil_of_length_eq_zero (by rw [h1, e]; rfl))
      rw [blk_in hr, blk_in hs]
      exact blk_shape p q _ _ h2 (by unfold shp at hc ⊢; rw [List.map_append, List.map_append, hc]; simp [h1])
/-- the page of its blocks -/
def unb : List (List (List UInt8)) → List (List UInt8)
  | [] => []
  | [b] => b
  | b :: c :: t => b ++ [] :: unb (c :: t)
theorem unb_blk : ∀ (p cur : List (List UInt8)), unb (blk cur p) = cur ++ p
  | [], cur => by rw [blk_end, List.append_nil]; rfl
  | r :: p, cur => by
    by_cases hr : r = []
    · rw [blk_cut hr]
      obtain ⟨b, bs, e⟩ := blk_some p []
      have h := unb_blk p []
      rw [e] at h ⊢
      show cur ++ [] :: unb (b :: bs) = _
      rw [h, hr]; rfl
    · rw [blk_in hr, unb_blk p (cur ++ [r]), List.append_assoc]; rfl
theorem line_more (f : Nat → Nat) (row : List (List UInt8)) (j m : Nat) (h : 1 ≤ (row.getD (j + m) []).length) : (lineL f row j m).length < (lineL f row j (m + 1)).length := by
  show _ < (lineL f row j m ++ List.replicate (sizeW f j m + 2 - (lineL f row j m).length) 0 ++ row.getD (j + m) []).length
  rw [List.length_append, List.length_append]; omega
theorem line_mono {f : Nat → Nat} {row : List (List UInt8)} {j m : Nat} : ∀ d, (∀ i, i < m + d → 1 ≤ (row.getD (j + i) []).length) → (lineL f row j m).length + d ≤ (lineL f row j (m + d)).length
  | 0, _ => Nat.le_refl _
  | d + 1, h => by
    have h1 := line_mono (f := f) (row := row) (j := j) (m := m) d (fun i hi => h i (by omega))
    have h2 := line_more f row j (m + d) (h (m + d) (by omega))
    rw [show m + (d + 1) = m + d + 1 by omega]; omega
theorem VX.one {X : List (List (List UInt8))} (hX : VX X) {row : List (List UInt8)} (hr : row ∈ X) {i : Nat} (hi : i < nCols X) : 1 ≤ (row.getD i []).length := by
  rw [List.getD_eq_getElem?_getD, List.getElem?_eq_getElem (by rw [hX.row row hr]; exact hi)]
  exact (entry_le (hX.ent row hr _ (List.getElem_mem _))).1
theorem lines_inj {X : List (List (List UInt8))} (hX : VX X) {j m m' : Nat} (h1 : j + m ≤ nCols X) (h2 : j + m' ≤ nCols X) (h : shp (linesL (colW X) X j m) = shp (linesL (colW X) X j m')) : m = m' := by
  have hr1 := hX.r1
  have hr : X[0]? = some X[0] := by simp [show 0 < X.length by omega]
  have hm := List.mem_of_getElem? hr
  have h0 : (lineL (colW X) X[0] j m).length = (lineL (colW X) X[0] j m').length := by
    have h3 := congrArg (fun l => l[0]?) h
    unfold shp linesL at h3
    simp only [List.getElem?_map, hr, Option.map_some] at h3
    injection h3
  rcases Nat.lt_trichotomy m m' with hlt | he | hlt
  · have := line_mono (f := colW X) (row := X[0]) (j := j) (m := m) (m' - m) (fun i hi => hX.one hm (by omega))
    rw [show m + (m' - m) = m' by omega] at this; omega
  · exact he
  · have := line_mono (f := colW X) (row := X[0]) (j := j) (m := m') (m - m') (fun i hi => hX.one hm (by omega))
    rw [show m' + (m - m') = m by omega] at this; omega
/-- blocks that are the parts from column c on -/
inductive Div (X : List (List (List UInt8))) : Nat → List (List (List UInt8)) → Prop
  | nil {c} : c = nCols X → Div X c []
  | cons {c m bs} : 1 ≤ m → c + m ≤ nCols X → Div X (c + m) bs → Div X c (linesL (colW X) X c m :: bs)
theorem Div.same {X : List (List (List UInt8))} (hX : VX X) {c : Nat} {bs bs' : List (List (List UInt8))} (h : Div X c bs) (h' : Div X c bs') (hs : bs.map shp = bs'.map shp) : bs = bs' := by
  induction h generalizing bs' with
  | nil hc => cases bs' with
    | nil => rfl
    | cons _ _ => cases hs
  | @cons c m bs h1 h2 h3 ih =>
    cases h' with
    | nil hc => cases hs
    | @cons _ m' bs2 g1 g2 g3 =>
      rw [List.map_cons, List.map_cons] at hs
      injection hs with e1 e2
      have := lines_inj hX h2 g2 e1
      subst this
      rw [ih g3 e2]
theorem take_first {X : List (List (List UInt8))} {c d : Nat} (h : c ≤ d) : firstC (firstC X d) c = firstC X c := by
  unfold firstC
  rw [List.map_map]
  apply List.map_congr_left
  intro row _
  show (row.take d).take c = row.take c
  rw [List.take_take, Nat.min_eq_left h]
theorem first_len {Y : List (List (List UInt8))} {c : Nat} (h : ∀ row ∈ Y, row.length = c) : firstC Y c = Y := by
  have h1 : ∀ row ∈ Y, row.take c = row := fun row hr => List.take_of_length_le (by rw [h row hr]; exact Nat.le_refl _)
  unfold firstC
  rw [List.map_congr_left h1, List.map_id']
theorem join_rows {Y B : List (List (List UInt8))} {c m : Nat} (hY : ∀ row ∈ Y, row.length = c) (hB : ∀ row ∈ B, row.length = m + 1) (hl : B.length = Y.length) : (∀ row ∈ joinX Y B, row.length = c + m) ∧ firstC (joinX Y B) c = Y := by
  have key : ∀ (k : Nat) (y b : List (List UInt8)), Y[k]? = some y → B[k]? = some b → (joinX Y B)[k]? = some (y ++ b.drop 1) := fun k y b h1 h2 => joinX_get h1 h2
  refine ⟨fun row hr => ?_, ?_⟩
  · obtain ⟨k, hk⟩ := List.getElem?_of_mem hr
    have hkl : k < Y.length := by have := (List.getElem?_eq_some_iff.1 hk).1; rw [joinX_len] at this; exact this
    have h1 : Y[k]? = some Y[k] := by simp [hkl]
    have h2 : B[k]? = some (B[k]'(by omega)) := by simp
    rw [key k _ _ h1 h2] at hk
    cases hk
    rw [List.length_append, List.length_drop, hY _ (List.getElem_mem _), hB _ (List.getElem_mem _)]; omega
  · apply List.ext_getElem?
    intro k
    rw [firstC_get]
    by_cases hkl : k < Y.length
    · have h1 : Y[k]? = some Y[k] := by simp [hkl]
      have h2 : B[k]? = some (B[k]'(by omega)) := by simp
      rw [key k _ _ h1 h2, h1]
      show some ((Y[k] ++ _).take c) = _
      rw [List.take_append_of_le_length (by rw [hY _ (List.getElem_mem _)]; exact Nat.le_refl _), List.take_of_length_le (by rw [hY _ (List.getElem_mem _)]; exact Nat.le_refl _)]
    · rw [List.getElem?_eq_none (by rw [joinX_len]; omega), List.getElem?_eq_none (by omega)]; rfl
theorem Joins.div {Y : List (List (List UInt8))} {bs : List (List (List UInt8))} {Z : List (List (List UInt8))} (h : Joins Y bs Z) (hZ : VX Z) : ∀ c, 1 ≤ c → (∀ row ∈ Y, row.length = c) → Y = firstC Z c ∧ c ≤ nCols Z ∧ Div Z c bs := by
  induction h with
  | nil X =>
    intro c hc hY
    have hr1 := hZ.r1
    have hm : X[0] ∈ X := List.getElem_mem (by omega)
    have e : c = nCols X := by rw [← hY _ hm, hZ.row _ hm]
    refine ⟨?_, by omega, .nil e⟩
    rw [e, first_all hZ]
  | @cons X b bs Z h1 h2 h3 h4 _ ih =>
    intro c hc hY
    have h1a := h1.1
    have h1b := h1.2
    clear h1
    generalize b.map cutL = B at *
    have hB := VX.of h1a
    obtain ⟨m, hm⟩ : ∃ m, nCols B = m + 1 := ⟨nCols B - 1, by omega⟩
    have hBr : ∀ row ∈ B, row.length = m + 1 := fun row hr => by rw [hB.row row hr, hm]
    have hj := join_rows hY hBr h2
    obtain ⟨g1, g2, g3⟩ := ih hZ (c + m) (by omega) hj.1
    have hX : X = firstC Z c := by rw [← hj.2, g1, take_first (by omega)]
    have hZl : Z.length = X.length := by rw [hX]; unfold firstC; simp
    have hsel : B = selP Z c m := by
      apply List.ext_getElem?
      intro k
      unfold selP
      rw [List.getElem?_map]
      by_cases hk : k < Z.length
      · have e1 : Z[k]? = some Z[k] := by simp [hk]
        have e2 : B[k]? = some (B[k]'(by omega)) := by simp
        have e3 : X[k]? = some (Z[k].take c) := by rw [hX, firstC_get, e1]; rfl
        have e4 := joinX_get e3 e2
        rw [g1, firstC_get, e1] at e4
        have e5 : Z[k].take (c + m) = Z[k].take c ++ (B[k]'(by omega)).drop 1 := by injection e4
        rw [List.take_add] at e5
        have e6 := List.append_cancel_left e5
        have e7 := h4 k (by omega)
        have eB : B.getD k [] = B[k]'(by omega) := by rw [List.getD_eq_getElem?_getD, e2]; rfl
        have eX : X.getD k [] = Z[k].take c := by rw [List.getD_eq_getElem?_getD, e3]; rfl
        rw [eB, eX] at e7
        have e8 : (B[k]'(by omega)).getD 0 [] = Z[k].getD 0 [] := by
          have : (Z[k].take c).getD 0 [] = Z[k].getD 0 [] := by rw [List.getD_eq_getElem?_getD, List.getD_eq_getElem?_getD, List.getElem?_take, if_pos (by omega)]
          rw [← this]; exact e7
        rw [e1, e2]
        show some _ = some (selR Z[k] c m)
        have hlen := hBr _ (List.getElem_mem (show k < B.length by omega))
        congr 1
        unfold selR
        rw [e6, ← e8]
        generalize B[k]'(by omega) = row at *
        cases row with
        | nil => simp at hlen
        | cons x t => rfl
      · rw [List.getElem?_eq_none (by omega), List.getElem?_eq_none (by omega)]; rfl
    have hb : b = linesL (colW Z) Z c m := by
      have h5 := h1b
      rw [hsel] at h5
      have h6 := (selP_vx hZ hc g2).2
      rw [h6, Nat.add_sub_cancel, selP_lines hZ g2] at h5
      exact h5.symm
    refine ⟨hX, by omega, ?_⟩
    rw [hb]
    exact .cons (by omega) g2 g3
theorem Reads.div {p : List (List UInt8)} {Z : List (List (List UInt8))} (h : Reads p Z) : ∃ m bs, blk [] p = linesL (colW Z) Z 1 m :: bs ∧ 1 + m ≤ nCols Z ∧ Div Z (1 + m) bs := by
  obtain ⟨b, bs, e, h1, _, h3, h4⟩ := h
  have hZ := VX.of h4
  have hB := VX.of h1.1
  have hc := hB.c1
  obtain ⟨m, hm⟩ : ∃ m, nCols (b.map cutL) = 1 + m := ⟨nCols (b.map cutL) - 1, by omega⟩
  obtain ⟨g1, g2, g3⟩ := h3.div hZ (1 + m) (by omega) (fun row hr => by rw [hB.row row hr, hm])
  have hb : b = linesL (colW Z) Z 1 m := by
    have h5 := h1.2
    rw [g1, ← sel_first hZ g2] at h5
    rw [(selP_vx hZ (Nat.le_refl 1) g2).2, Nat.add_sub_cancel, selP_lines hZ g2] at h5
    exact h5.symm
  exact ⟨m, bs, by rw [e, hb], g2, g3⟩
theorem reads_same {p q : List (List UInt8)} {Z : List (List (List UInt8))} (h : Reads p Z) (h' : Reads q Z) (hs : shp p = shp q) : p = q := by
  have hZ : VX Z := by obtain ⟨_, _, _, _, _, _, h4⟩ := h; exact VX.of h4
  obtain ⟨m, bs, e, g1, g2⟩ := h.div
  obtain ⟨m', bs', e', g1', g2'⟩ := h'.div
  have hb := blk_shape p q [] [] hs rfl
  rw [e, e', List.map_cons, List.map_cons] at hb
  injection hb with e1 e2
  have := lines_inj hZ g1 g1' e1
  subst this
  have := g2.same hZ g2' e2
  subst this
  have h1 := unb_blk p []
  have h2 := unb_blk q []
  rw [e] at h1
  rw [e'] at h2
  exact h1.symm.trans h2
/-- with a cell changed, a page has not the same entries -/
theorem reads_changed {p : List (List UInt8)} {Z : List (List (List UInt8))} {k j : Nat} {r : List UInt8} {x y : UInt8} (h : Reads p Z) (hk : p[k]? = some r) (hj : r[j]? = some x) (hxy : y ≠ x) : ¬ Reads (p.set k (r.set j y)) Z := by
  intro h'
  have hs : shp p = shp (p.set k (r.set j y)) := by
    unfold shp
    apply List.ext_getElem?
    intro i
    rw [List.getElem?_map, List.getElem?_map, List.getElem?_set]
    by_cases hi : k = i
    · subst hi
      rw [if_pos rfl, if_pos (List.getElem?_eq_some_iff.1 hk).1, hk]
      simp
    · rw [if_neg hi]
  have e := reads_same h h' hs
  have h1 := congrArg (fun l => l[k]?) e
  simp only [List.getElem?_set, hk] at h1
  rw [if_pos trivial, if_pos (List.getElem?_eq_some_iff.1 hk).1] at h1
  injection h1 with h1
  have h2 := congrArg (fun l => l[j]?) h1
  simp only [List.getElem?_set, hj] at h2
  rw [if_pos trivial, if_pos (List.getElem?_eq_some_iff.1 hj).1] at h2
  injection h2 with h2
  exact hxy h2.symm
end Go.Proofs.Ytmjkhmebpciopaa
end

/- the text T49 -/
section
/- Chapter 15: the reference's Cut. -/
namespace Go.Proofs.Ytmjkhmebpciopaa
open Go.RowKit Go.Dx

theorem cutA_len : ∀ (l now : List UInt8), (cutA now l).length ≤ l.length + 1 := by
  intro l
  induction h : l.length using Nat.strongRecOn generalizing l with
  | ind n ih =>
    intro now
    cases l with
    | nil => rw [cutA_nil]; simp
    | cons x t =>
      have hn : n = t.length + 1 := by rw [← h]; rfl
      by_cases h2 : x = 0 ∧ t.head? = some 0
      · obtain ⟨rfl, h3⟩ := h2
        rw [cutA_zero h3]
        have h4 := dropZ_le t
        have := ih (dropZ t).length (by rw [← h]; simp; omega) (dropZ t) rfl []
        simp at this ⊢; omega
      · rw [cutA_step h2]
        have := ih t.length (by rw [← h]; simp) t rfl (now ++ [x])
        simp at this ⊢; omega
theorem drop_head (l : List UInt8) (i : Nat) : (l.drop i).head? = l[i]? := by rw [List.head?_drop]
theorem dropZ_id {t : List UInt8} (h : t.head? ≠ some 0) : dropZ t = t := by
  cases t with
  | nil => rfl
  | cons x t => show (if x = 0 then dropZ t else x :: t) = _; rw [if_neg (fun hx => h (by rw [hx]; rfl))]

set_option maxRecDepth 100000 in
set_option maxHeartbeats 1000000 in
theorem ref15_Cut (l : List UInt8) (a : Option Addr) (n c : Nat) (w : World) (hs : Sl w 1 a n c (l.map B8)) (hl : l.length ≤ 1000000) :
    Calls Try.prog 42 #[.slice a n c] w fun e w' => ∃ a' c' hs', e = .returned (.slice a' (cutL l).length c') ∧ OPage w' w.heap.size a' c' hs' (cutL l) ∧ Below w.heap.size w w' := by
  obtain rfl : n = l.length := by simpa using hs.n_eq
  have hcap := Nat.le_trans hs.le hs.cap
  unfold maxLen at hcap
  go_enter Try.func42, Try.ntmps42
  go_wp2_with fail
  go_loopg [3, 4, 5] l.length (fun g o x i' w' => ∃ (i : Nat) (a3 : Option Addr) (c3 : Nat) (hs3 : List Hd) (out : List (List UInt8)) (a4 : Option Addr) (c4 : Nat) (now : List UInt8) (wx : World), i ≤ l.length ∧ g = l.length - i ∧ i' = .int .i64 (i : Int) ∧ o = .slice a3 out.length c3 ∧ x = .slice a4 now.length c4 ∧
    OPage wx w.heap.size a3 c3 hs3 out ∧ Below w.heap.size w wx ∧ Below wx.heap.size wx w' ∧ Own w' wx.heap.size 5 1 a4 now.length c4 (now.map B8) ∧ Hid (cutL l = out ++ cutA now (l.drop i)) ∧ out.length ≤ i ∧ now.length ≤ i)
  case atStart => exact ⟨0, none, 0, [], [], none, 0, [], w, by omega, by omega, rfl, rfl, rfl, OPage.nil _ _, Below.refl _ _, Below.refl _ _, Own.nil _ _ _ _, hide (by simp [cutL]), by simp, by simp⟩
  case round =>
    obtain ⟨i, a3, c3, hs3, out, a4, c4, now, wx, hi, hg, rfl, rfl, rfl, hO, hbx, hbw, ho, HC, hol, hnl⟩ := hrel
    have HG := hide hg
    clear hg
    have hbr := hbx.trans (hbw.mono hbx.size)
    have hsr := hs.below hbr
    by_cases hil : i < l.length
    · obtain ⟨x, hx⟩ : ∃ x, l[i]? = some x := ⟨l[i], by simp [hil]⟩
      have hxu : (l.map B8)[i]? = some (.int .u8 (x.toNat : Int)) := by rw [List.getElem?_map, hx]; rfl
      obtain ⟨lb, lo, rfl, hlb, hlc⟩ := hsr.ex (by rw [List.length_map]; omega)
      have hc0 := hlc i _ hxu
      have HD := hide (drop_cons hx)
      by_cases h1 : i + 1 < l.length
      · obtain ⟨y, hy⟩ : ∃ y, l[i + 1]? = some y := ⟨l[i + 1], by simp [h1]⟩
        have hyu : (l.map B8)[i + 1]? = some (.int .u8 (y.toNat : Int)) := by rw [List.getElem?_map, hy]; rfl
        have hc1 := hlc (i + 1) _ hyu
        have d1 : decide ((i : Int) + 1 < (l.length : Int)) = true := decide_eq_true (by omega)
        have hmin : min ((i : Int) + 1) ((l.length : Int) - 1) = (i : Int) + 1 := Int.min_eq_left (by omega)
        have hHd : (l.drop (i + 1)).head? = some y := by rw [drop_head, hy]
        have HHD := hide hHd
        clear hHd hy hx hxu hyu hlc
        go_upto_region 6 with fail
        by_cases hx0 : x = 0
        · subst hx0
          have e0 : ((((0 : UInt8).toNat : Nat) : Int) == 0) = true := rfl
          by_cases hy0 : y = 0
          · subst hy0
            have HC1 : Hid (cutL l = (out ++ [now]) ++ cutA [] (dropZ (l.drop (i + 1)))) := hide (by rw [HC.out, HD.out, cutA_zero HHD.out, List.append_assoc]; rfl)
            have hOr := hO.below hbw
            have hor : Own wr w.heap.size 5 1 a4 now.length c4 (now.map B8) := ho.mono hbx.size
            clear hO ho
            go_upto_region 9 with fail
            go_wp2_with (at_builtin; refine app_q rfl _ _ rfl w w.heap.size _ _ _ hs3 out rfl rfl hOr (a4, now.length, c4) now hor rfl (by omega) hbr.size hbr ?_; intro a5 c5 w5 ho5 hb5)
            go_loopg [5] (l.length - i) (fun g i' w' => ∃ k : Nat, i ≤ k ∧ k < l.length ∧ g = l.length - k ∧ i' = .int .i64 (k : Int) ∧ Hid (dropZ (l.drop (k + 1)) = dropZ (l.drop (i + 1))) ∧ w5 = w')
            case atStart => exact ⟨i, Nat.le_refl _, hil, by omega, rfl, hide rfl, rfl⟩
            case round =>
              obtain ⟨k, hik, hkl, hg1, rfl, HZ, rfl⟩ := hrel
              have HG1 := hide hg1
              clear hg1 hc0 hc1 d1 hmin
              have hs5 := hs.below hb5
              obtain ⟨lb2, lo2, elb, _, hlc5⟩ := hs5.ex (by rw [List.length_map]; omega)
              cases elb
              by_cases h2 : k + 1 < l.length
              · obtain ⟨z, hz⟩ : ∃ z, l[k + 1]? = some z := ⟨l[k + 1], by simp [h2]⟩
                have hzu : (l.map B8)[k + 1]? = some (.int .u8 (z.toNat : Int)) := by rw [List.getElem?_map, hz]; rfl
                have hc5 := hlc5 (k + 1) _ hzu
                have d2 : decide ((k : Int) + 1 < (l.length : Int)) = true := decide_eq_true (by omega)
                have hmin : min ((k : Int) + 1) ((l.length : Int) - 1) = (k : Int) + 1 := Int.min_eq_left (by omega)
                have HD2 := hide (drop_cons hz)
                clear hz hzu hlc5
                by_cases hz0 : z = 0
                · subst hz0
                  have e1 : ((((0 : UInt8).toNat : Nat) : Int) == 0) = true := rfl
                  have HZ2 : Hid (dropZ (l.drop (k + 1 + 1)) = dropZ (l.drop (i + 1))) := hide (by rw [← HZ.out, HD2.out]; rfl)
                  go_wp2_with fail
                  go_roundg (l.length - (k + 1))
                  case measure => have := HG1.out; omega
                  case rel => exact ⟨k + 1, by omega, by omega, rfl, by go_num, HZ2, rfl⟩
                · have e1 : (((z.toNat : Nat) : Int) == 0) = false := by
                    have : z.toNat ≠ 0 := fun h => hz0 (UInt8.toNat_inj.1 (by rw [h]; rfl))
                    simp; omega
                  have HC2 : Hid (cutL l = (out ++ [now]) ++ cutA [] (l.drop (k + 1))) := hide (by
                    rw [HC1.out, ← HZ.out, dropZ_id (by rw [HD2.out]; intro h; injection h with h; exact hz0 h)])
                  clear hz0
                  go_wp2_with fail
                  go_roundg (l.length - (k + 1))
                  case measure => have := HG.out; omega
                  case rel => exact ⟨k + 1, a5, c5, _, out ++ [now], none, 0, [], w5, by omega, rfl, by go_num, by rw [List.length_append]; rfl, rfl, ho5, hb5, Below.refl _ _, Own.nil _ _ _ _, HC2, by rw [List.length_append]; simp; omega, by simp⟩
              · have d2 : decide ((k : Int) + 1 < (l.length : Int)) = false := decide_eq_false (by omega)
                have HC2 : Hid (cutL l = (out ++ [now]) ++ cutA [] (l.drop (k + 1))) := hide (by
                  rw [HC1.out, ← HZ.out, dropZ_id (by rw [List.drop_eq_nil_of_le (by omega)]; intro h; cases h)])
                clear hlc5
                go_wp2_with fail
                go_roundg (l.length - (k + 1))
                case measure => have := HG.out; omega
                case rel => exact ⟨k + 1, a5, c5, _, out ++ [now], none, 0, [], w5, by omega, rfl, by go_num, by rw [List.length_append]; rfl, rfl, ho5, hb5, Below.refl _ _, Own.nil _ _ _ _, HC2, by rw [List.length_append]; simp; omega, by simp⟩
          · have e1 : (((y.toNat : Nat) : Int) == 0) = false := by
              have : y.toNat ≠ 0 := fun h => hy0 (UInt8.toNat_inj.1 (by rw [h]; rfl))
              simp; omega
            obtain ⟨x, hxe⟩ : ∃ x : UInt8, x = 0 := ⟨0, rfl⟩
            rw [← hxe] at HD hc0 e0
            have HC2 : Hid (cutL l = out ++ cutA (now ++ [x]) (l.drop (i + 1))) := hide (by
              rw [HC.out, HD.out, cutA_step (fun h => hy0 (by have := h.2; rw [HHD.out] at this; injection this))])
            clear hy0 hxe
            go_wp2_with (at_builtin; refine app_b rfl _ _ rfl wx wx.heap.size _ _ _ (now.map B8) rfl ho (x.toNat : Int) rfl (by omega) hbw.size hbw ?_; intro a5 c5 w5 ho5 hg5 hb5)
            go_roundg (l.length - (i + 1))
            case measure => have := HG.out; omega
            case rel => exact ⟨i + 1, a3, c3, hs3, out, a5, c5, now ++ [x], wx, by omega, rfl, by go_num, rfl, by rw [List.length_append]; rfl, hO, hbx, hb5, by rw [List.map_append, List.length_append]; exact ho5, HC2, by omega, by rw [List.length_append]; simp; omega⟩
        · have e0 : (((x.toNat : Nat) : Int) == 0) = false := by
            have : x.toNat ≠ 0 := fun h => hx0 (UInt8.toNat_inj.1 (by rw [h]; rfl))
            simp; omega
          have HC2 : Hid (cutL l = out ++ cutA (now ++ [x]) (l.drop (i + 1))) := hide (by rw [HC.out, HD.out, cutA_step (fun h => hx0 h.1)])
          clear hx0
          go_wp2_with (at_builtin; refine app_b rfl _ _ rfl wx wx.heap.size _ _ _ (now.map B8) rfl ho (x.toNat : Int) rfl (by omega) hbw.size hbw ?_; intro a5 c5 w5 ho5 hg5 hb5)
          go_roundg (l.length - (i + 1))
          case measure => have := HG.out; omega
          case rel => exact ⟨i + 1, a3, c3, hs3, out, a5, c5, now ++ [x], wx, by omega, rfl, by go_num, rfl, by rw [List.length_append]; rfl, hO, hbx, hb5, by rw [List.map_append, List.length_append]; exact ho5, HC2, by omega, by rw [List.length_append]; simp; omega⟩
      · have d1 : decide ((i : Int) + 1 < (l.length : Int)) = false := decide_eq_false (by omega)
        have HC2 : Hid (cutL l = out ++ cutA (now ++ [x]) (l.drop (i + 1))) := hide (by
          rw [HC.out, HD.out, cutA_step (fun h => by have h2 := h.2; rw [List.drop_eq_nil_of_le (by omega)] at h2; cases h2)])
        clear hx hxu hlc
        go_wp2_with (at_builtin; refine app_b rfl _ _ rfl wx wx.heap.size _ _ _ (now.map B8) rfl ho (x.toNat : Int) rfl (by omega) hbw.size hbw ?_; intro a5 c5 w5 ho5 hg5 hb5)
        go_roundg (l.length - (i + 1))
        case measure => have := HG.out; omega
        case rel => exact ⟨i + 1, a3, c3, hs3, out, a5, c5, now ++ [x], wx, by omega, rfl, by go_num, rfl, by rw [List.length_append]; rfl, hO, hbx, hb5, by rw [List.map_append, List.length_append]; exact ho5, HC2, by omega, by rw [List.length_append]; simp; omega⟩
    · obtain rfl : l.length = i := by omega
      have HE : Hid (cutL l = out ++ [now]) := hide (by rw [HC.out, List.drop_length, cutA_nil])
      have hOr := hO.below hbw
      have hor : Own wr w.heap.size 5 1 a4 now.length c4 (now.map B8) := ho.mono hbx.size
      clear hO ho
      go_wp2_with (at_builtin; refine app_q rfl _ _ rfl w w.heap.size _ _ _ hs3 out rfl rfl hOr (a4, now.length, c4) now hor rfl (by omega) hbr.size hbr ?_; intro a5 c5 w5 ho5 hb5)
      go_ret
      exact ⟨a5, c5, _, by rw [HE.out, List.length_append]; rfl, by rw [HE.out]; exact ho5, hb5⟩
end Go.Proofs.Ytmjkhmebpciopaa
end

/- the text T50 -/
section
/- Chapter 15: the entries that the reference's Read puts together. -/
namespace Go.Proofs.Ytmjkhmebpciopaa
open Go.RowKit Go.Dx

/-- entries whose list the call owns; rows and entries lie in blocks of their types -/
structure V5 (w : World) (B : Nat) (a : Option Addr) (c : Nat) (hs : List Hd) (X : List (List (List UInt8))) : Prop where
  top : Own w B 28 1 a X.length c (hs.map hv)
  len : hs.length = X.length
  row : ∀ (i : Nat) (h : Hd) (q : List (List UInt8)), hs[i]? = some h → X[i]? = some q → ∃ ks, Pg w h.1 h.2.1 h.2.2 ks q ∧ KindOf 47 w h.1 ∧ ∀ (j : Nat) (y : Hd), ks[j]? = some y → KindOf 5 w y.1
theorem V5.of {w : World} {B : Nat} {a : Option Addr} {c : Nat} {hs : List Hd} {X : List (List (List UInt8))} (h : O3 w B a c hs X) : V5 w B a c hs X :=
  ⟨h.top, h.len, fun i x q h1 h2 => by
    obtain ⟨ks, hk, e⟩ := h.row i x q h1 h2
    exact ⟨ks, by rw [e]; exact hk.pg, KindOf.own hk.top, fun j y hy => by obtain ⟨r, hr⟩ := hk.row_own hy; exact KindOf.own hr⟩⟩
theorem V5.below {w w' : World} {B : Nat} {a : Option Addr} {c : Nat} {hs : List Hd} {X : List (List (List UInt8))} (h : V5 w B a c hs X) (hb : Below w.heap.size w w') : V5 w' B a c hs X :=
  ⟨h.top.below hb, h.len, fun i x q h1 h2 => by obtain ⟨ks, hk, k1, k2⟩ := h.row i x q h1 h2; exact ⟨ks, hk.below hb, k1.below hb, fun j y hy => (k2 j y hy).below hb⟩⟩
theorem V5.pg3 {w : World} {B : Nat} {a : Option Addr} {c : Nat} {hs : List Hd} {X : List (List (List UInt8))} (h : V5 w B a c hs X) : Pg3 w a X.length c hs X :=
  ⟨h.top.sl, h.len, fun i x q h1 h2 => by obtain ⟨ks, hk, _, _⟩ := h.row i x q h1 h2; exact ⟨ks, hk⟩⟩
theorem V5.get {w : World} {B : Nat} {a : Option Addr} {c : Nat} {hs : List Hd} {X : List (List (List UInt8))} (h : V5 w B a c hs X) {i : Nat} {q : List (List UInt8)} (hq : X[i]? = some q) :
    ∃ a' c' ks, (hs.map hv)[i]? = some (.slice a' q.length c') ∧ Pg w a' q.length c' ks q ∧ KindOf 47 w a' ∧ ∀ (j : Nat) (y : Hd), ks[j]? = some y → KindOf 5 w y.1 := by
  have hi : i < hs.length := by rw [h.len]; exact (List.getElem?_eq_some_iff.1 hq).1
  have hx : hs[i]? = some hs[i] := by simp [hi]
  obtain ⟨ks, hk, k1, k2⟩ := h.row i _ q hx hq
  have h2 := hk.n_eq
  refine ⟨hs[i].1, hs[i].2.2, ks, ?_, ?_, k1, k2⟩
  · rw [List.getElem?_map, hx]; unfold hv; rw [← h2]; rfl
  · rw [← h2]; exact hk
theorem kind_far {e T : TypeId} {w : World} {a : Option Addr} {p : Addr} {C : Array Value} {z : Nat × Nat} (h : KindOf e w a) (hp : w.heap[p.block]? = some (.cells C T z)) (hT : e ≠ T) : ∀ q, a = some q → q.block ≠ p.block := fun q hq e0 => by
  obtain ⟨C', z', hC⟩ := h q hq
  rw [e0, hp] at hC
  injection hC with hC
  injection hC with _ hC
  exact hT hC.symm
theorem KindOf.set {e : TypeId} {w : World} {a : Option Addr} (h : KindOf e w a) (p : Addr) (v : Value) : KindOf e (w.setCell p v) a := fun q hq => by
  obtain ⟨C, z, hC⟩ := h q hq
  obtain ⟨C', h'⟩ := set_kind (p := p) (v := v) hC
  exact ⟨C', z, h'⟩
/-- a row is replaced -/
theorem V5.put {w : World} {B b : Nat} {n c : Nat} {hs : List Hd} {X : List (List (List UInt8))} (h : V5 w B (some ⟨b, 0, none⟩) c hs X) {i : Nat} {y : Hd} {q : List (List UInt8)} {ks : List Hd} (hn : y.2.1 = n) (hp : Pg w y.1 n y.2.2 ks q) (k1 : KindOf 47 w y.1)
    (k2 : ∀ (j : Nat) (z : Hd), ks[j]? = some z → KindOf 5 w z.1) : V5 (w.setCell ⟨b, i, none⟩ (hv y)) B (some ⟨b, 0, none⟩) c (hs.set i y) (X.set i q) := by
  subst hn
  obtain ⟨Ct, zt, htk⟩ := own_kindW h.top
  have rows : ∀ (x : Hd) (r : List (List UInt8)) (ks : List Hd), Pg w x.1 x.2.1 x.2.2 ks r → KindOf 47 w x.1 → (∀ (j : Nat) (z : Hd), ks[j]? = some z → KindOf 5 w z.1) →
      Pg (w.setCell ⟨b, i, none⟩ (hv y)) x.1 x.2.1 x.2.2 ks r ∧ KindOf 47 (w.setCell ⟨b, i, none⟩ (hv y)) x.1 ∧ ∀ (j : Nat) (z : Hd), ks[j]? = some z → KindOf 5 (w.setCell ⟨b, i, none⟩ (hv y)) z.1 := fun x r ks g1 g2 g3 =>
    ⟨⟨sl_far g1.top (kind_far (p := ⟨b, i, none⟩) g2 htk (by decide)) _, g1.len, fun j z s h1 h2 => sl_far (g1.row j z s h1 h2) (kind_far (p := ⟨b, i, none⟩) (g3 j z h1) htk (by decide)) _⟩, g2.set _ _, fun j z hz => (g3 j z hz).set _ _⟩
  refine ⟨?_, by rw [List.length_set, List.length_set]; exact h.len, fun k x r h1 h2 => ?_⟩
  · have := h.top.put (i := i) (hv y)
    rw [List.map_set, List.length_set]; exact this
  · rw [List.getElem?_set] at h1 h2
    by_cases hk : i = k
    · rw [if_pos hk] at h1 h2
      split at h1
      · cases h1
        split at h2
        · cases h2
          obtain ⟨g1, g2, g3⟩ := rows y q ks hp k1 k2
          exact ⟨ks, g1, g2, g3⟩
        · cases h2
      · cases h1
    · rw [if_neg hk] at h1 h2
      obtain ⟨ks', g1, g2, g3⟩ := h.row k x r h1 h2
      obtain ⟨f1, f2, f3⟩ := rows x r ks' g1 g2 g3
      exact ⟨ks', f1, f2, f3⟩
/-- some lines of a page -/
theorem Pg.mid {w : World} {a : Option Addr} {n c : Nat} {hs : List Hd} {p : List (List UInt8)} (h : Pg w a n c hs p) {i m : Nat} {a' : Option Addr} {c' : Nat} (hs' : Sl w 1 a' m c' (((hs.map hv).drop (i * 1)).take (m * 1))) : Pg w a' m c' ((hs.drop i).take m) ((p.drop i).take m) := by
  refine ⟨?_, by simp [h.len], fun k x r h1 h2 => ?_⟩
  · rw [Nat.mul_one, Nat.mul_one] at hs'
    rw [List.map_take, List.map_drop]; exact hs'
  · rw [List.getElem?_take] at h1 h2
    by_cases hk : k < m
    · rw [if_pos hk, List.getElem?_drop] at h1 h2
      exact h.row _ x r h1 h2
    · rw [if_neg hk] at h1; cases h1
/-- the blocks that are left to read from line i on -/
def remB (p : List (List UInt8)) (i : Nat) : List (List (List UInt8)) := if i ≤ p.length then blk [] (p.drop i) else []
theorem remB_at {p : List (List UInt8)} {i : Nat} (h : i ≤ p.length) : remB p i = blk [] (p.drop i) := if_pos h
theorem remB_end {p : List (List UInt8)} {i : Nat} (h : ¬ i ≤ p.length) : remB p i = [] := if_neg h
/-- a block from line i to line t -/
theorem remB_block {p : List (List UInt8)} {i t : Nat} (hi : i ≤ t) (ht : t ≤ p.length) (hne : ∀ r ∈ (p.drop i).take (t - i), r ≠ []) (hend : t = p.length ∨ p[t]? = some []) : remB p i = (p.drop i).take (t - i) :: remB p (t + 1) := by
  rw [remB_at (by omega)]
  have e : p.drop i = (p.drop i).take (t - i) ++ p.drop t := by
    have := (List.take_append_drop (t - i) (p.drop i)).symm
    rw [List.drop_drop, show i + (t - i) = t by omega] at this
    exact this
  rw [e, blk_rows _ _ _ hne, List.nil_append, ← e]
  rcases hend with h | h
  · rw [h, List.drop_length, blk_end, remB_end (by omega)]
  · have hlt := (List.getElem?_eq_some_iff.1 h).1
    rw [drop_cons h, blk_cut rfl, remB_at (by omega)]
end Go.Proofs.Ytmjkhmebpciopaa
end

/- the text T51 -/
section
/- Chapter 15: the reference's Read. -/
namespace Go.Proofs.Ytmjkhmebpciopaa
open Go.RowKit Go.Dx

theorem O3.mono {w : World} {B B' : Nat} {a : Option Addr} {c : Nat} {hs : List Hd} {X : List (List (List UInt8))} (h : O3 w B a c hs X) (hB : B' ≤ B) : O3 w B' a c hs X :=
  ⟨h.top.mono hB, h.len, fun i x q h1 h2 => by obtain ⟨ks, hk, e⟩ := h.row i x q h1 h2; exact ⟨ks, hk.mono hB, e⟩⟩
theorem O3.far {w : World} {B : Nat} {a : Option Addr} {c : Nat} {hs : List Hd} {X : List (List (List UInt8))} (h : O3 w B a c hs X) {q : Addr} (hq : q.block < B) (v : Value) : O3 (w.setCell q v) B a c hs X :=
  ⟨h.top.set_other (fun t ht => by have h1 := h.top; rw [ht] at h1; have := h1.base.1; omega) v, h.len, fun i x r h1 h2 => by obtain ⟨ks, hk, e⟩ := h.row i x r h1 h2; exact ⟨ks, hk.far hq v, e⟩⟩
theorem O3.get {w : World} {B : Nat} {a : Option Addr} {c : Nat} {hs : List Hd} {X : List (List (List UInt8))} (h : O3 w B a c hs X) {i : Nat} {q : List (List UInt8)} (hq : X[i]? = some q) :
    ∃ a' c' ks, (hs.map hv)[i]? = some (.slice a' q.length c') ∧ Pg w a' q.length c' ks q ∧ ∀ (j : Nat) (y : Hd), ks[j]? = some y → KindOf 5 w y.1 := by
  obtain ⟨a', c', ks, h1, h2, _, h3⟩ := (V5.of h).get hq
  exact ⟨a', c', ks, h1, h2, h3⟩

theorem idx0_any {P : Program} {w : World} {ops : Array Oper} {rest : List Oper} {act : Act} {Q : Exit → Act → World → Prop} {ty : TypeId} {pos : String} {after : Array Edge} (d : Nat) (t : TypeId) (x y : Operand) (e : TypeId) (ht : P.underlying t = some (.slice e)) (hsz : (P.info? e).map (·.size) = some 1) (b o n c : Nat) (hx : act.eval x = .slice (some ⟨b, o, none⟩) n c) (hn : 1 ≤ n)
    (hy : act.eval y = .int .i64 0) (hK : wpList P ops Q rest (act.put (some d) (.pointer (some ⟨b, o, none⟩))) w) :
    wpList P ops Q ({ dst := some d, op := .indexAddr t x y, type := ty, pos := pos, after := after, guard := none } :: rest) act w := by
  refine wpList_plain rfl fun K hK' => ?_
  obtain ⟨i0, hi0, hs0⟩ := Option.map_eq_some_iff.1 hsz
  have hrun : (Instr.indexAt t (.slice (some ⟨b, o, none⟩) n c) (.int .i64 0)).run P w = .ok (.pointer (some ⟨b, o, none⟩)) w := by
    have h0 : 0 < n := hn
    simp [Instr.indexAt, asIntOf, run_underlying ht, sizeOf, typeInfo, hi0, hs0, h0, Addr.add_lit]
  unfold Oper.wp
  simp only [execOp, hx, hy, Sem.run_bind, hrun, Result.andThen, Sem.run_pure]
  exact hK' _ _ hK
/-- how far 'append(append([][]byte{}, x...), y[1:]...)' is -/
def GZ (w0 : World) (n m : Nat) (xs ys : List Hd) : Nat → List Value → World → Prop
  | 0, _, w => Below w0.heap.size w0 w
  | 1, vs, w => ∃ b, vs.getD 0 undef = .slice (some ⟨b, 0, none⟩) 0 0 ∧ Own w w0.heap.size 47 1 (some ⟨b, 0, none⟩) 0 0 [] ∧ Below w0.heap.size w0 w
  | 2, vs, w => ∃ a c, vs.getD 1 undef = .slice a n c ∧ Own w w0.heap.size 47 1 a n c (xs.map hv) ∧ Below w0.heap.size w0 w
  | _, vs, w => ∃ a c, vs.getD 2 undef = .slice a (n + m) c ∧ Own w w0.heap.size 47 1 a (n + m) c (xs.map hv ++ ys.map hv) ∧ Below w0.heap.size w0 w
theorem GZ.bel {w0 w : World} {n m : Nat} {xs ys : List Hd} {vs : List Value} : ∀ {j}, GZ w0 n m xs ys j vs w → Below w0.heap.size w0 w := by
  intro j h
  match j, h with
  | 0, h => exact h
  | 1, ⟨_, _, _, h⟩ => exact h
  | 2, ⟨_, _, _, _, h⟩ => exact h
  | _ + 3, ⟨_, _, _, _, h⟩ => exact h
theorem GZ.mono {w0 : World} {n m : Nat} {xs ys : List Hd} : ∀ j vs w w', Below w.heap.size w w' → GZ w0 n m xs ys j vs w → GZ w0 n m xs ys j vs w' := by
  intro j vs w w' hb h
  match j, h with
  | 0, h => exact Below.trans h (hb.mono (Below.size h))
  | 1, ⟨b, h1, h2, h3⟩ => exact ⟨b, h1, h2.below hb, h3.trans (hb.mono h3.size)⟩
  | 2, ⟨a, c, h1, h2, h3⟩ => exact ⟨a, c, h1, h2.below hb, h3.trans (hb.mono h3.size)⟩
  | _ + 3, ⟨a, c, h1, h2, h3⟩ => exact ⟨a, c, h1, h2.below hb, h3.trans (hb.mono h3.size)⟩
/-- a row put together of a row and what follows the head of another -/
theorem pg_app {w : World} {a ax ay : Option Addr} {n c nx cx ny cy : Nat} {xs ys : List Hd} {p q : List (List UInt8)} (ht : Sl w 1 a n c (xs.map hv ++ (ys.drop 1).map hv)) (hx : Pg w ax nx cx xs p) (hy : Pg w ay ny cy ys q) : Pg w a n c (xs ++ ys.drop 1) (p ++ q.drop 1) := by
  refine ⟨by rw [List.map_append]; exact ht, by rw [List.length_append, List.length_append, List.length_drop, List.length_drop, hx.len, hy.len], fun i h r h1 h2 => ?_⟩
  rw [List.getElem?_append] at h1 h2
  have hl := hx.len
  by_cases hi : i < p.length
  · rw [if_pos (by omega)] at h1
    rw [if_pos hi] at h2
    exact hx.row i h r h1 h2
  · rw [if_neg (by omega), List.getElem?_drop] at h1
    rw [if_neg hi, List.getElem?_drop] at h2
    rw [hl] at h1
    exact hy.row _ h r h1 h2
/-- what Read gives -/
def ReadQ (p : List (List UInt8)) (w : World) (e : Ending) (w' : World) : Prop := ∃ Z x a' c' hs', e = .returned (.tuple #[.slice a' Z.length c', .int .i64 x]) ∧ readZ p Z x ∧ Pg3 w' a' Z.length c' hs' Z ∧ Below w.heap.size w w'
theorem ReadQ.err {p : List (List UInt8)} {w w' : World} (h : ¬ ∃ Z, Reads p Z) (hb : Below w.heap.size w w') : ReadQ p w (.returned (.tuple #[.slice none 0 0, .int .i64 2])) w' :=
  ⟨[], 2, none, 0, [], rfl, .inr ⟨rfl, rfl, h⟩, pg3_nil _, hb⟩
theorem ReadQ.ok {p : List (List UInt8)} {w w' : World} {Z : List (List (List UInt8))} {a : Option Addr} {c : Nat} {hs : List Hd} (h : Reads p Z) (hz : Pg3 w' a Z.length c hs Z) (hb : Below w.heap.size w w') : ReadQ p w (.returned (.tuple #[.slice a Z.length c, .int .i64 0])) w' :=
  ⟨Z, 0, a, c, hs, rfl, .inl ⟨rfl, h⟩, hz, hb⟩
set_option maxRecDepth 100000 in
set_option maxHeartbeats 2000000 in
theorem ref15_Read (p : List (List UInt8)) (hs : List Hd) (a : Option Addr) (n c : Nat) (w : World) (hp : Pg w a n c hs p) (hpl : p.length ≤ 100000) (hpr : ∀ r ∈ p, r.length ≤ 1000000) :
    Calls Try.prog 20 #[.slice a n c] w fun e w' => ReadQ p w e w' := by
  obtain rfl := hp.n_eq
  have HPR := hide hpr
  clear hpr
  go_enter Try.func20, Try.ntmps20
  go_wp2_with fail
  go_loopg [4, 5, 6] (p.length + 1) (fun g o m' f' w' => ∃ (i j : Nat) (a4 : Option Addr) (c4 : Nat) (hs4 : List Hd) (X : List (List (List UInt8))), i ≤ p.length + 1 ∧ g = p.length + 1 - i ∧ f' = .int .i64 (i : Int) ∧ m' = .int .i64 (j : Int) ∧ o = .slice a4 X.length c4 ∧ V5 w' w.heap.size a4 c4 hs4 X ∧ Below w.heap.size w w' ∧ j ≤ i ∧ X.length ≤ 12 ∧ Hid (∀ row ∈ X, 1 ≤ row.length ∧ row.length ≤ 12 * i) ∧ Hid ((j = 0 → i = 0) ∧ (1 ≤ j → RI p X (remB p i) ∧ 1 ≤ X.length)))
  case atStart => exact ⟨0, 0, none, 0, [], [], by omega, by omega, rfl, rfl, rfl, V5.of (O3.nil _ _), Below.refl _ _, Nat.le_refl _, by simp, hide (fun row h => by cases h), hide ⟨fun _ => rfl, fun h => by omega⟩⟩
  case round =>
    obtain ⟨i, j, a4, c4, hs4, X, hi, hg, rfl, rfl, rfl, hV, hbk, hji, hX12, HXR, HRI⟩ := hrel
    have HG := hide hg
    clear hg
    by_cases hil : i ≤ p.length
    · have d0 : decide ((i : Int) ≤ (p.length : Int)) = true := decide_eq_true (by omega)
      obtain ⟨wy, rfl⟩ : ∃ wy : World, wy = wr := ⟨_, rfl⟩
      have hpw0 := hp.below hbk
      go_upto_block 2 with fail
      go_cut [7, 8] (fun t' x' w' => ∃ (t : Nat) (a8 : Option Addr) (c8 : Nat) (hs8 : List Hd), i ≤ t ∧ t ≤ p.length ∧ t' = .int .i64 (t : Int) ∧ x' = .slice a8 (t - i) c8 ∧ O3 w' wy.heap.size a8 c8 hs8 (((p.drop i).take (t - i)).map cutL) ∧ Below wy.heap.size wy w' ∧ Hid (∀ r ∈ (p.drop i).take (t - i), r ≠ []) ∧ Hid (t = p.length ∨ p[t]? = some []))
      case first =>
        go_wp2_with fail
        go_loopg [7, 8] (p.length - i) (fun g t' x' w' => ∃ (t : Nat) (a8 : Option Addr) (c8 : Nat) (hs8 : List Hd), i ≤ t ∧ t ≤ p.length ∧ g = p.length - t ∧ t' = .int .i64 (t : Int) ∧ x' = .slice a8 (t - i) c8 ∧ O3 w' wy.heap.size a8 c8 hs8 (((p.drop i).take (t - i)).map cutL) ∧ Below wy.heap.size wy w' ∧ Hid (∀ r ∈ (p.drop i).take (t - i), r ≠ []))
        case atStart => exact ⟨i, none, 0, [], Nat.le_refl _, hil, by omega, rfl, by rw [Nat.sub_self], by rw [Nat.sub_self]; exact O3.nil _ _, Below.refl _ _, hide (by rw [Nat.sub_self]; intro r h; cases h)⟩
        case round =>
          obtain ⟨t, a8, c8, hs8, hit, htp, hg1, rfl, rfl, hO, hbt, HNE⟩ := hrel
          have HG1 := hide hg1
          clear hg1
          by_cases htl : t < p.length
          · obtain ⟨r, hr⟩ : ∃ r, p[t]? = some r := ⟨p[t], by simp [htl]⟩
            have hrl := HPR.out r (List.mem_of_getElem? hr)
            have hpt := hpw0.below hbt
            obtain ⟨ar, cr, hur, hsr⟩ := hpt.get hr
            have HUR := hide hur
            have hdr : (p.drop i)[t - i]? = some r := by rw [List.getElem?_drop, show i + (t - i) = t by omega]; exact hr
            have HTK := hide (take_snoc hdr)
            have HR := hide hr
            have d1 : decide ((t : Int) < (p.length : Int)) = true := decide_eq_true (by omega)
            have HLN : Hid ((((p.drop i).take (t - i)).map cutL).length = t - i) := hide (by rw [List.length_map, List.length_take, List.length_drop]; omega)
            clear hr hur hdr
            by_cases hr0 : r.length = 0
            · have e0 : ((r.length : Int) == 0) = true := by simp [hr0]
              have HEN : Hid (t = p.length ∨ p[t]? = some []) := hide (.inr (by rw [HR.out, List.eq_nil_of_length_eq_zero hr0]))
              clear hr0
              go_wp2_with (with_reducible refine idx_p 24 _ _ _ _ _ hs rfl hpt.top _ _ t rfl rfl _ HUR.out ?_; intro b1 o1 hcell1 hbo1)
              go_meet
              exact ⟨t, a8, c8, hs8, hit, htp, rfl, rfl, hO, hbt, HNE, HEN⟩
            · have e0 : ((r.length : Int) == 0) = false := by simp; intro h; exact hr0 (by rw [h]; rfl)
              have HNE2 : Hid (∀ s ∈ (p.drop i).take (t + 1 - i), s ≠ []) := hide (by
                rw [show t + 1 - i = t - i + 1 by omega, HTK.out]
                intro s hs1
                rcases List.mem_append.1 hs1 with h | h
                · exact HNE.out s h
                · rw [List.mem_singleton.1 h]; intro e; rw [e] at hr0; exact hr0 rfl)
              have HTC : Hid (((p.drop i).take (t + 1 - i)).map cutL = ((p.drop i).take (t - i)).map cutL ++ [cutL r]) := hide (by
                rw [show t + 1 - i = t - i + 1 by omega, HTK.out, List.map_append]; rfl)
              clear hr0
              go_wp2_with (first
                | (with_reducible refine idx_p 24 _ _ _ _ _ hs rfl hpt.top _ _ t rfl rfl _ HUR.out ?_; intro b1 o1 hcell1 hbo1)
                | (with_reducible refine idx_p 31 _ _ _ _ _ hs rfl hpt.top _ _ t rfl rfl _ HUR.out ?_; intro b2 o2 hcell2 hbo2))
              refine (ref15_Cut r ar r.length cr wr hsr hrl).mono ?_
              rintro e w5 ⟨a5, c5, hs5, rfl, ho5, hb5⟩
              have hO5 := hO.below hb5
              have hbt5 := hbt.trans (hb5.mono hbt.size)
              have ho5' := ho5.mono hbt.size
              clear ho5 hO
              go_wp2_with (at_builtin; refine app_3 rfl _ _ rfl wy wy.heap.size _ _ _ hs8 hs5 _ HLN.out rfl hO5 (a5, (cutL r).length, c5) (cutL r) ho5' rfl rfl (by omega) hbt5.size hbt5 ?_; intro a6 c6 w6 ho6 hb6)
              go_roundg (p.length - (t + 1))
              case measure => have := HG1.out; omega
              case rel => exact ⟨t + 1, a6, c6, _, by omega, by omega, rfl, by go_num, by rw [show t + 1 - i = t - i + 1 by omega], by rw [HTC.out]; exact ho6, hb6, HNE2⟩
          · obtain rfl : p.length = t := by omega
            go_wp2_with fail
            go_meet
            exact ⟨p.length, a8, c8, hs8, hit, htp, rfl, rfl, hO, hbt, HNE, hide (.inl rfl)⟩
      case rest =>
        obtain ⟨t, a8, c8, hs8, hit, htp, rfl, rfl, hO, hbt, HNE, HEN⟩ := hcut
        obtain ⟨b, hbd⟩ : ∃ b, (p.drop i).take (t - i) = b := ⟨_, rfl⟩
        have HBD := hide hbd
        have HREM : Hid (remB p i = b :: remB p (t + 1)) := hide (by rw [← hbd]; exact remB_block hit htp HNE.out HEN.out)
        rw [hbd] at hO
        have hbl : b.length = t - i := by rw [← hbd, List.length_take, List.length_drop]; omega
        have HBL := hide hbl
        clear hbd hbl HNE HEN
        have hVc := hV.below hbt
        have hbc := hbk.trans (hbt.mono hbk.size)
        obtain ⟨B, hBd⟩ : ∃ B, b.map cutL = B := ⟨_, rfl⟩
        have HBB := hide hBd
        rw [hBd] at hO
        have hBl : B.length = t - i := by rw [← hBd, List.length_map, HBL.out]
        have HBLL := hide hBl
        have HBAD : Hid (¬ (okB b ∧ (1 ≤ j → B.length = X.length ∧ 2 ≤ nCols B ∧ heads X B) ∧ (j = 0 → remB p (t + 1) ≠ [] → 2 ≤ nCols B)) → ¬ ∃ Z, Reads p Z) := hide (fun hno => by
          rcases Nat.eq_zero_or_pos j with hj | hj
          · have h0 := HRI.out.1 hj
            have h1 := HREM.out
            rw [h0, remB_at (by omega), List.drop_zero] at h1
            exact reads_bad h1 (fun h => hno ⟨h.1, fun hh => by omega, fun _ hh => by rw [← hBd]; exact h.2 hh⟩)
          · have h2 := (HRI.out.2 hj).1
            rw [HREM.out] at h2
            exact h2.bad (fun h => hno ⟨h.1, fun _ => by rw [← hBd]; exact h.2, fun hh => by omega⟩))
        have HGOOD : Hid (okB b → (1 ≤ j → B.length = X.length ∧ 2 ≤ nCols B ∧ heads X B) → (j = 0 → remB p (t + 1) ≠ [] → 2 ≤ nCols B) → (j = 0 → RI p B (remB p (t + 1))) ∧ (1 ≤ j → RI p (joinX X B) (remB p (t + 1)))) := hide (fun h1 h2 h3 => by
          refine ⟨fun hj => ?_, fun hj => ?_⟩
          · have h0 := HRI.out.1 hj
            have h4 := HREM.out
            rw [h0, remB_at (by omega), List.drop_zero] at h4
            have := reads_first h4 h1 (by rw [hBd]; exact h3 hj)
            rw [hBd] at this; exact this
          · have h4 := (HRI.out.2 hj).1
            rw [HREM.out] at h4
            obtain ⟨g1, g2, g3⟩ := h2 hj
            have := h4.step h1 (by rw [hBd]; exact g1) (by rw [hBd]; exact g2) (by rw [hBd]; exact g3)
            rw [hBd] at this; exact this)
        have hok0 : okB b ↔ validT B = true ∧ linesL (colW B) B 1 (nCols B - 1) = b := by unfold okB; rw [hBd]
        have HOK := hide hok0
        have hpO := hO.pg
        rw [hBl] at hpO
        have hvl := ref15_Valid B hs8 a8 (t - i) c8 wc hpO
        have hbk0 := hbk.size
        have HOB : Hid (∀ b, a4 = some ⟨b, 0, none⟩ → w.heap.size ≤ b ∧ b < wy.heap.size) := hide (fun b hb => by have h1 := hV.top; rw [hb] at h1; exact h1.base)
        clear hBd hBl hok0 hV hbk hpw0
        cases hval : validT B
        · have HNO : Hid (¬ ∃ Z, Reads p Z) := hide (HBAD.out (fun h => by have := (HOK.out.1 h.1).1; rw [hval] at this; cases this))
          rw [hval] at hvl
          clear hval
          go_wp2_with fail
          refine hvl.mono ?_
          rintro e w2 ⟨rfl, rfl⟩
          go_wp2_with fail
          go_ret2
          exact ReadQ.err HNO.out hbc
        · have HVB := VX.of hval
          rw [hval] at hvl
          have HVAL := hide hval
          obtain ⟨N, HN⟩ : ∃ N, Hid (nCols B = N) := ⟨_, hide rfl⟩
          have hN1 : 1 ≤ N := by rw [← HN.out]; exact HVB.c1
          have hN2 : N ≤ 12 := by rw [← HN.out]; exact HVB.c2
          have hti : 1 ≤ t - i := by rw [← HBLL.out]; exact HVB.r1
          have hti2 : t - i ≤ 12 := by rw [← HBLL.out]; exact HVB.r2
          obtain ⟨tq, rfl⟩ : ∃ q, a8 = some q := by
            cases a8 with
            | some q => exact ⟨q, rfl⟩
            | none => have h1 := hpO.top.nil rfl; have h2 := hpO.top.le; omega
          obtain ⟨pb, rfl⟩ : ∃ b, tq = ⟨b, 0, none⟩ := ⟨_, hO.top.zero⟩
          obtain ⟨z0, hz0⟩ : ∃ z, B[0]? = some z := ⟨B[0]'(by rw [HBLL.out]; omega), by simp⟩
          obtain ⟨r0a, r0c, r0k, hu0, _⟩ := hO.pg.get hz0
          have hz0l : z0.length = N := by rw [← HN.out]; exact HVB.row z0 (List.mem_of_getElem? hz0)
          rw [hz0l] at hu0
          have hc0 : ∀ w', Below wc.heap.size wc w' → w'.cell? ⟨pb, 0, none⟩ = some (.slice r0a N r0c) := fun w' h => (hO.top.below h).at_ hu0
          obtain ⟨PL, HPL⟩ : ∃ PL, Hid (linesL (colW B) B 1 (N - 1) = PL) := ⟨_, hide rfl⟩
          have hPLl : PL.length = t - i := by rw [← HPL.out, linesL_len, HBLL.out]
          have hln : ∀ w', Below wc.heap.size wc w' → Calls Try.prog 16 #[.slice (some ⟨pb, 0, none⟩) (t - i) c8, .int .i64 1, .int .i64 (N : Int)] w' fun e w2 => ∃ a' c' hs', e = .returned (.slice a' (t - i) c') ∧ Pg w2 a' (t - i) c' hs' PL ∧ Below w'.heap.size w' w2 := fun w' h => by
            have h1 := ref15_Lines B hs8 (some ⟨pb, 0, none⟩) (t - i) c8 1 N w' (hpO.below h) HVB.row HVB.r2 HVB.c1 HVB.c2 HVB.le hN1 (by rw [HN.out]; exact Nat.le_refl _)
            rw [HPL.out, HBLL.out] at h1
            exact h1.mono (fun e w2 ⟨a', c', hs', g1, g2, g3⟩ => ⟨a', c', hs', g1, by have := g2.pg; rw [hPLl] at this; exact this, g3⟩)
          have hpw : ∀ w', Below wc.heap.size wc w' → Pg w' a p.length c hs p := fun w' h => hp.below (hbc.trans (h.mono hbc.size))
          obtain ⟨D, HDD⟩ : ∃ D, Hid (decide (PL = b) = D) := ⟨_, hide rfl⟩
          clear hval hz0 hu0 hz0l hPLl
          go_wp2_with fail
          refine hvl.mono ?_
          rintro e w2 ⟨rfl, rfl⟩
          go_upto_region 14 with fail
          refine wp_region_free 11 [⟨0, 41, [41], fun vs _ => vs = [.slice (some ⟨pb, 0, none⟩) (t - i) c8]⟩, ⟨1, 42, [42], fun vs _ => vs = [.slice (some ⟨pb, 0, none⟩) (t - i) c8]⟩, ⟨2, 43, [43], fun vs _ => vs = [.pointer (some ⟨pb, 0, none⟩)]⟩, ⟨3, 44, [44], fun vs _ => vs = [.slice r0a N r0c]⟩, ⟨4, 45, [45], fun vs _ => vs = [.int .i64 (N : Int)]⟩, ⟨5, 46, [46], fun vs w' => ∃ a' c' hs', vs = [.slice a' (t - i) c'] ∧ Pg w' a' (t - i) c' hs' PL⟩, ⟨6, 47, [47], fun vs _ => vs = [.slice a p.length c]⟩, ⟨7, 48, [48], fun vs _ => vs = [.int .i64 (i : Int)]⟩, ⟨8, 49, [49], fun vs _ => vs = [.int .i64 (t : Int)]⟩, ⟨9, 50, [50], fun vs w' => ∃ a', vs = [.slice a' (t - i) (c - i)] ∧ Pg w' a' (t - i) (c - i) ((hs.drop i).take (t - i)) b⟩, ⟨10, 51, [51], fun vs _ => vs = [.bool D]⟩] (by kernel_rfl) (by kernel_rfl) ?_ ?_ ?_
          · simp only [All]
            refine ⟨fun _ _ _ _ h => h, fun _ _ _ _ h => h, fun _ _ _ _ h => h, fun _ _ _ _ h => h, fun _ _ _ _ h => h, ?_, fun _ _ _ _ h => h, fun _ _ _ _ h => h, fun _ _ _ _ h => h, ?_, fun _ _ _ _ h => h, trivial⟩
            · rintro vs w w' hb ⟨a', c', hs', h1, h2⟩
              exact ⟨a', c', hs', h1, h2.below hb⟩
            · rintro vs w w' hb ⟨a', h1, h2⟩
              exact ⟨a', h1, h2.below hb⟩
          · simp only [All]
            refine ⟨?_, ?_, ?_, ?_, ?_, ?_, ?_, ?_, ?_, ?_, ?_, trivial⟩
            · intro o ho a' w' hb hfr hdep
              obtain rfl := Option.some.inj ho
              have g8 : a'.tmps[8]?.getD undef = .slice (some ⟨pb, 0, none⟩) (t - i) c8 := by have h := hfr 8 (by kernel_rfl); simpa using h
              clear ho hfr hdep
              go_wp2_with fail
              exact ⟨rfl, _, rfl, Below.refl _ _, rfl⟩
            · intro o ho a' w' hb hfr hdep
              obtain rfl := Option.some.inj ho
              have g8 : a'.tmps[8]?.getD undef = .slice (some ⟨pb, 0, none⟩) (t - i) c8 := by have h := hfr 8 (by kernel_rfl); simpa using h
              clear ho hfr hdep
              go_wp2_with fail
              exact ⟨rfl, _, rfl, Below.refl _ _, rfl⟩
            · intro o ho a' w' hb hfr hdep
              obtain rfl := Option.some.inj ho
              have g42 : a'.tmps[42]?.getD undef = .slice (some ⟨pb, 0, none⟩) (t - i) c8 := by have h := hdep 1 _ rfl (by kernel_rfl); simpa using h
              clear ho hfr hdep
              go_wp2_with fail
              exact ⟨rfl, _, rfl, Below.refl _ _, rfl⟩
            · intro o ho a' w' hb hfr hdep
              obtain rfl := Option.some.inj ho
              have g43 : a'.tmps[43]?.getD undef = .pointer (some ⟨pb, 0, none⟩) := by have h := hdep 2 _ rfl (by kernel_rfl); simpa using h
              clear ho hfr hdep
              have hcl := hc0 _ hb
              go_wp2_with fail
              exact ⟨rfl, _, rfl, Below.refl _ _, rfl⟩
            · intro o ho a' w' hb hfr hdep
              obtain rfl := Option.some.inj ho
              have g44 : a'.tmps[44]?.getD undef = .slice r0a N r0c := by have h := hdep 3 _ rfl (by kernel_rfl); simpa using h
              clear ho hfr hdep
              go_wp2_with fail
              exact ⟨rfl, _, rfl, Below.refl _ _, rfl⟩
            · intro o ho a' w' hb hfr hdep
              obtain rfl := Option.some.inj ho
              have g41 : a'.tmps[41]?.getD undef = .slice (some ⟨pb, 0, none⟩) (t - i) c8 := by have h := hdep 0 _ rfl (by kernel_rfl); simpa using h
              have g45 : a'.tmps[45]?.getD undef = .int .i64 (N : Int) := by have h := hdep 4 _ rfl (by kernel_rfl); simpa using h
              clear ho hfr hdep
              have hln1 := hln _ hb
              go_wp2_with fail
              refine hln1.mono ?_
              rintro e w2 ⟨a4, c4, hs4, rfl, h2, h3⟩
              go_wp2_with fail
              exact ⟨rfl, _, rfl, h3, a4, c4, hs4, rfl, h2⟩
            · intro o ho a' w' hb hfr hdep
              obtain rfl := Option.some.inj ho
              have g0 : a'.tmps[0]?.getD undef = .slice a p.length c := by have h := hfr 0 (by kernel_rfl); simpa using h
              clear ho hfr hdep
              go_wp2_with fail
              exact ⟨rfl, _, rfl, Below.refl _ _, rfl⟩
            · intro o ho a' w' hb hfr hdep
              obtain rfl := Option.some.inj ho
              have g6 : a'.tmps[6]?.getD undef = .int .i64 (i : Int) := by have h := hfr 6 (by kernel_rfl); simpa using h
              clear ho hfr hdep
              go_wp2_with fail
              exact ⟨rfl, _, rfl, Below.refl _ _, rfl⟩
            · intro o ho a' w' hb hfr hdep
              obtain rfl := Option.some.inj ho
              have g7 : a'.tmps[7]?.getD undef = .int .i64 (t : Int) := by have h := hfr 7 (by kernel_rfl); simpa using h
              clear ho hfr hdep
              go_wp2_with fail
              exact ⟨rfl, _, rfl, Below.refl _ _, rfl⟩
            · intro o ho a' w' hb hfr hdep
              obtain rfl := Option.some.inj ho
              have g47 : a'.tmps[47]?.getD undef = .slice a p.length c := by have h := hdep 6 _ rfl (by kernel_rfl); simpa using h
              have g48 : a'.tmps[48]?.getD undef = .int .i64 (i : Int) := by have h := hdep 7 _ rfl (by kernel_rfl); simpa using h
              have g49 : a'.tmps[49]?.getD undef = .int .i64 (t : Int) := by have h := hdep 8 _ rfl (by kernel_rfl); simpa using h
              clear ho hfr hdep
              have hpq := hpw _ hb
              refine cut_sl 50 29 _ _ _ 47 Try.underlying29 1 size_row a p.length c _ (by show a'.tmps.getD 47 undef = _; simpa using g47) hpq.top .i64 .i64 _ _ i t (by show a'.tmps.getD 48 undef = _; simpa using g48) (by show a'.tmps.getD 49 undef = _; simpa using g49) rfl rfl hit htp ?_
              intro a6 hs6 _
              have hpb := hpq.mid hs6
              go_wp2
              exact ⟨rfl, _, rfl, Below.refl _ _, a6, rfl, by rw [← HBD.out]; exact hpb⟩
            · intro o ho a' w' hb hfr hdep
              obtain rfl := Option.some.inj ho
              obtain ⟨a4, c4, hs4, g46, hp4⟩ := hdep 5 _ rfl (by kernel_rfl)
              replace g46 : a'.tmps[46]?.getD undef = .slice a4 (t - i) c4 := by simpa using g46
              obtain ⟨a5, g50, hp5⟩ := hdep 9 _ rfl (by kernel_rfl)
              replace g50 : a'.tmps[50]?.getD undef = .slice a5 (t - i) (c - i) := by simpa using g50
              clear ho hfr hdep
              have hsm := ref15_SamePage PL b _ _ a4 a5 (t - i) (t - i) c4 (c - i) w' hp4 hp5
              rw [HDD.out] at hsm
              go_wp2_with fail
              refine hsm.mono ?_
              rintro e w2 ⟨rfl, h2⟩
              go_wp2_with fail
              exact ⟨rfl, _, rfl, h2, rfl⟩
          · intro g w3 hb3 hp3
            have p51 := hp3 10 _ rfl
            clear hp3
            simp at p51
            simp only [List.drop_succ_cons, List.drop_zero, List.map_cons, List.map_nil, putAll, Act.put, List.setIfInBounds_toArray, List.set_cons_succ, List.set_cons_zero, p51]
            clear p51
            have hbc3 := hbc.trans (hb3.mono hbc.size)
            have hV3 := hVc.below hb3
            have hO3 := hO.below hb3
            have hc3 := hc0 _ hb3
            clear hVc hO hpO hc0 hln hpw hvl hb3 hbt hbc
            cases D
            · have HNO : Hid (¬ ∃ Z, Reads p Z) := hide (HBAD.out (fun h => by
                have h1 := (HOK.out.1 h.1).2
                rw [HN.out, HPL.out] at h1
                have h2 := HDD.out
                rw [decide_eq_true h1] at h2; cases h2))
              go_wp2_with fail
              go_ret2
              exact ReadQ.err HNO.out hbc3
            · have HOKB : Hid (okB b) := hide (HOK.out.2 ⟨HVAL.out, by rw [HN.out, HPL.out]; exact of_decide_eq_true HDD.out⟩)
              have HBR : Hid (∀ row ∈ B, row.length = N) := hide (fun row hr => by rw [HVB.row row hr, HN.out])
              rcases Nat.eq_zero_or_pos j with hj0 | hj0
              · subst hj0
                have fin : (remB p (t + 1) ≠ [] → 2 ≤ N) → Hid (RI p B (remB p (t + 1))) := fun h => hide ((HGOOD.out HOKB.out (fun hh => by omega) (fun _ hh => by rw [HN.out]; exact h hh)).1 rfl)
                by_cases htl : t < p.length
                · have d1 : decide ((t : Int) < (p.length : Int)) = true := decide_eq_true (by omega)
                  by_cases hN3 : N < 2
                  · have d2 : decide ((N : Int) < 2) = true := decide_eq_true (by omega)
                    have HNO : Hid (¬ ∃ Z, Reads p Z) := hide (HBAD.out (fun h => by
                      have h1 := h.2.2 rfl (by rw [remB_at (by omega)]; obtain ⟨b0, bs0, e⟩ := blk_some (p.drop (t + 1)) []; rw [e]; exact List.cons_ne_nil _ _)
                      rw [HN.out] at h1; omega))
                    clear fin
                    go_wp2_with fail
                    go_ret2
                    exact ReadQ.err HNO.out hbc3
                  · have d2 : decide ((N : Int) < 2) = false := decide_eq_false (by omega)
                    have HRI2 := fin (fun _ => by omega)
                    clear fin
                    go_wp2_with fail
                    go_roundg (p.length + 1 - (t + 1))
                    case measure => have := HG.out; omega
                    case rel => exact ⟨t + 1, 1, some ⟨pb, 0, none⟩, c8, hs8, B, by omega, rfl, by go_num, rfl, by rw [HBLL.out], V5.of (hO3.mono (by have := hbk0; exact this)), hbc3, by omega, by rw [HBLL.out]; exact hti2, hide (fun row hr => by rw [HBR.out row hr]; exact ⟨hN1, by omega⟩), hide ⟨fun h => by omega, fun _ => ⟨HRI2.out, by rw [HBLL.out]; exact hti⟩⟩⟩
                · have d1 : decide ((t : Int) < (p.length : Int)) = false := decide_eq_false (by omega)
                  have HRI2 := fin (fun h => absurd (remB_end (by omega)) h)
                  clear fin
                  go_wp2_with fail
                  go_roundg (p.length + 1 - (t + 1))
                  case measure => have := HG.out; omega
                  case rel => exact ⟨t + 1, 1, some ⟨pb, 0, none⟩, c8, hs8, B, by omega, rfl, by go_num, rfl, by rw [HBLL.out], V5.of (hO3.mono (by have := hbk0; exact this)), hbc3, by omega, by rw [HBLL.out]; exact hti2, hide (fun row hr => by rw [HBR.out row hr]; exact ⟨hN1, by omega⟩), hide ⟨fun h => by omega, fun _ => ⟨HRI2.out, by rw [HBLL.out]; exact hti⟩⟩⟩
              · have d2 : decide (1 < (j : Int) + 1) = true := decide_eq_true (by omega)
                go_upto_region 17 with fail
                go_cut [9] (fun f' w' => f' = .bool true ∧ w' = w3)
                case first =>
                  by_cases htl : t < p.length
                  · have d1 : decide ((t : Int) < (p.length : Int)) = true := decide_eq_true (by omega)
                    go_wp2_with fail
                    go_meet
                    exact ⟨rfl, rfl⟩
                  · have d1 : decide ((t : Int) < (p.length : Int)) = false := decide_eq_false (by omega)
                    go_wp2_with fail
                    go_meet
                    exact ⟨rfl, rfl⟩
                case rest =>
                  obtain ⟨rfl, rfl⟩ := hcut
                  by_cases hN3 : N < 2
                  · have d3 : decide ((N : Int) < 2) = true := decide_eq_true (by omega)
                    have HNO : Hid (¬ ∃ Z, Reads p Z) := hide (HBAD.out (fun h => by
                      have h1 := (h.2.1 hj0).2.1
                      rw [HN.out] at h1; omega))
                    go_wp2_with fail
                    go_ret2
                    exact ReadQ.err HNO.out hbc3
                  · have d3 : decide ((N : Int) < 2) = false := decide_eq_false (by omega)
                    by_cases hLe : t - i = X.length
                    · obtain ⟨oq, rfl⟩ : ∃ q, a4 = some q := by
                        cases a4 with
                        | some q => exact ⟨q, rfl⟩
                        | none => have h1 := hV3.top.sl.nil rfl; have h2 := hV3.top.sl.le; omega
                      obtain ⟨ob, rfl⟩ : ∃ b, oq = ⟨b, 0, none⟩ := ⟨_, hV3.top.zero⟩
                      obtain ⟨hob1, hob2⟩ := HOB.out ob rfl
                      rw [← hLe]
                      have e4 : ((j : Int) + 1 == 1) = false := by simp; omega
                      have HLE := hide hLe
                      clear hLe
                      go_wp2_with fail
                      go_loopg [10] X.length (fun g k' w' => ∃ (k : Nat) (hsK : List Hd), k ≤ X.length ∧ g = X.length - k ∧ k' = .int .i64 (k : Int) ∧ V5 w' w.heap.size (some ⟨ob, 0, none⟩) c4 hsK (joinK X B k) ∧ O3 w' wy.heap.size (some ⟨pb, 0, none⟩) c8 hs8 B ∧ Below w.heap.size w w' ∧ Hid (headsK X B k))
                      case atStart => exact ⟨0, hs4, Nat.zero_le _, rfl, rfl, by rw [joinK_zero]; exact hV3, hO3, hbc3, hide (fun k hk => by omega)⟩
                      case round =>
                        obtain ⟨k, hsK, hk, hgk, rfl, hVK, hOK, hbK, HHK⟩ := hrel
                        have HGK := hide hgk
                        have HJL := hide (joinK_len X B hk)
                        clear hgk hV3 hO3 hbc3 hc3
                        by_cases hkX : k < X.length
                        · have hkt : k < t - i := by rw [HLE.out]; exact hkX
                          have d5 : decide ((k : Int) < ((t - i : Nat) : Int)) = true := decide_eq_true (by omega)
                          obtain ⟨x, hx⟩ : ∃ x, X[k]? = some x := ⟨X[k], by simp [hkX]⟩
                          obtain ⟨y, hy⟩ : ∃ y, B[k]? = some y := ⟨B[k]'(by rw [HBLL.out]; exact hkt), by simp⟩
                          obtain ⟨xa, xc, xks, hux, hpx, kx1, kx2⟩ := hVK.get ((joinK_get hk).trans hx)
                          obtain ⟨ya, yc, yks, huy, hpy, ky2⟩ := hOK.get hy
                          have hxr := HXR.out x (List.mem_of_getElem? hx)
                          have HYN := hide (HBR.out y (List.mem_of_getElem? hy))
                          have hy1 : 1 ≤ y.length := by rw [HYN.out]; omega
                          have hx1 := hxr.1
                          obtain ⟨x0, hx0⟩ : ∃ z, x[0]? = some z := ⟨x[0], by simp⟩
                          obtain ⟨y0, hy0⟩ : ∃ z, y[0]? = some z := ⟨y[0], by simp⟩
                          obtain ⟨x0a, x0c, hux0, hsx0⟩ := hpx.get hx0
                          obtain ⟨y0a, y0c, huy0, hsy0⟩ := hpy.get hy0
                          obtain ⟨xb, xo, rfl, hxlt, hcx⟩ := hpx.top.ex (by rw [List.length_map, hpx.len]; omega)
                          obtain ⟨yb, yo, rfl, hylt, hcy⟩ := hpy.top.ex (by rw [List.length_map, hpy.len]; omega)
                          have hcx0 : ∀ w', Below wr.heap.size wr w' → w'.cell? ⟨xb, xo, none⟩ = some (.slice x0a x0.length x0c) := fun w' h => by rw [h.cell hxlt]; exact hcx 0 _ hux0
                          have hcy0 : ∀ w', Below wr.heap.size wr w' → w'.cell? ⟨yb, yo, none⟩ = some (.slice y0a y0.length y0c) := fun w' h => by rw [h.cell hylt]; exact hcy 0 _ huy0
                          have hcX : ∀ w', Below wr.heap.size wr w' → w'.cell? ⟨ob, k, none⟩ = some (.slice (some ⟨xb, xo, none⟩) x.length xc) := fun w' h => (hVK.top.below h).at_ hux
                          have hcY : ∀ w', Below wr.heap.size wr w' → w'.cell? ⟨pb, k, none⟩ = some (.slice (some ⟨yb, yo, none⟩) y.length yc) := fun w' h => (hOK.top.below h).at_ huy
                          obtain ⟨D2, HD2⟩ : ∃ D2, Hid (decide (y0 = x0) = D2) := ⟨_, hide rfl⟩
                          have hsame : ∀ w', Below wr.heap.size wr w' → Calls Try.prog 35 #[.slice y0a y0.length y0c, .slice x0a x0.length x0c] w' fun e w2 => e = .returned (.bool D2) ∧ Below w'.heap.size w' w2 := fun w' h => Same_at HD2.out (hsy0.below h) (hsx0.below h)
                          have HX := hide hx
                          have HY := hide hy
                          have HGX : Hid ((X.getD k []).getD 0 [] = x0 ∧ (B.getD k []).getD 0 [] = y0) := hide (by simp [List.getD_eq_getElem?_getD, hx, hy, hx0, hy0])
                          clear hx hy hux huy hx0 hy0 hux0 huy0 hcx hcy
                          go_upto_region 25 with fail
                          refine wp_region_free 13 [⟨0, 91, [91], fun vs _ => vs = [.slice (some ⟨pb, 0, none⟩) (t - i) c8]⟩, ⟨1, 92, [92], fun vs _ => vs = [.int .i64 (k : Int)]⟩, ⟨2, 93, [93], fun vs _ => vs = [.pointer (some ⟨pb, k, none⟩)]⟩, ⟨3, 94, [94], fun vs _ => vs = [.slice (some ⟨yb, yo, none⟩) y.length yc]⟩, ⟨4, 95, [95], fun vs _ => vs = [.pointer (some ⟨yb, yo, none⟩)]⟩, ⟨5, 96, [96], fun vs _ => vs = [.slice y0a y0.length y0c]⟩, ⟨6, 97, [97], fun vs _ => vs = [.slice (some ⟨ob, 0, none⟩) (t - i) c4]⟩, ⟨7, 98, [98], fun vs _ => vs = [.int .i64 (k : Int)]⟩, ⟨8, 99, [99], fun vs _ => vs = [.pointer (some ⟨ob, k, none⟩)]⟩, ⟨9, 100, [100], fun vs _ => vs = [.slice (some ⟨xb, xo, none⟩) x.length xc]⟩, ⟨10, 101, [101], fun vs _ => vs = [.pointer (some ⟨xb, xo, none⟩)]⟩, ⟨11, 102, [102], fun vs _ => vs = [.slice x0a x0.length x0c]⟩, ⟨12, 103, [103], fun vs _ => vs = [.bool D2]⟩] (by kernel_rfl) (by kernel_rfl) ?_ ?_ ?_
                          · simp only [All]
                            refine ⟨fun _ _ _ _ h => h, fun _ _ _ _ h => h, fun _ _ _ _ h => h, fun _ _ _ _ h => h, fun _ _ _ _ h => h, fun _ _ _ _ h => h, fun _ _ _ _ h => h, fun _ _ _ _ h => h, fun _ _ _ _ h => h, fun _ _ _ _ h => h, fun _ _ _ _ h => h, fun _ _ _ _ h => h, fun _ _ _ _ h => h, trivial⟩
                          · simp only [All]
                            refine ⟨?_, ?_, ?_, ?_, ?_, ?_, ?_, ?_, ?_, ?_, ?_, ?_, ?_, trivial⟩
                            · intro o ho a' w' hb hfr hdep
                              obtain rfl := Option.some.inj ho
                              have g8 : a'.tmps[8]?.getD undef = .slice (some ⟨pb, 0, none⟩) (t - i) c8 := by have h := hfr 8 (by kernel_rfl); simpa using h
                              clear ho hfr hdep
                              go_wp2_with fail
                              exact ⟨rfl, _, rfl, Below.refl _ _, rfl⟩
                            · intro o ho a' w' hb hfr hdep
                              obtain rfl := Option.some.inj ho
                              have g10 : a'.tmps[10]?.getD undef = .int .i64 (k : Int) := by have h := hfr 10 (by kernel_rfl); simpa using h
                              clear ho hfr hdep
                              go_wp2_with fail
                              exact ⟨rfl, _, rfl, Below.refl _ _, rfl⟩
                            · intro o ho a' w' hb hfr hdep
                              obtain rfl := Option.some.inj ho
                              have g91 : a'.tmps[91]?.getD undef = .slice (some ⟨pb, 0, none⟩) (t - i) c8 := by have h := hdep 0 _ rfl (by kernel_rfl); simpa using h
                              have g92 : a'.tmps[92]?.getD undef = .int .i64 (k : Int) := by have h := hdep 1 _ rfl (by kernel_rfl); simpa using h
                              clear ho hfr hdep
                              go_wp2_with fail
                              exact ⟨rfl, _, rfl, Below.refl _ _, rfl⟩
                            · intro o ho a' w' hb hfr hdep
                              obtain rfl := Option.some.inj ho
                              have g93 : a'.tmps[93]?.getD undef = .pointer (some ⟨pb, k, none⟩) := by have h := hdep 2 _ rfl (by kernel_rfl); simpa using h
                              clear ho hfr hdep
                              have hcl := hcY _ hb
                              go_wp2_with fail
                              exact ⟨rfl, _, rfl, Below.refl _ _, rfl⟩
                            · intro o ho a' w' hb hfr hdep
                              obtain rfl := Option.some.inj ho
                              have g94 : a'.tmps[94]?.getD undef = .slice (some ⟨yb, yo, none⟩) y.length yc := by have h := hdep 3 _ rfl (by kernel_rfl); simpa using h
                              clear ho hfr hdep
                              refine idx0_any 95 28 _ _ 47 Try.underlying28 size_row yb yo y.length yc (by show a'.tmps.getD 94 undef = _; simpa using g94) hy1 rfl ?_
                              go_wp2
                              exact ⟨rfl, _, rfl, Below.refl _ _, rfl⟩
                            · intro o ho a' w' hb hfr hdep
                              obtain rfl := Option.some.inj ho
                              have g95 : a'.tmps[95]?.getD undef = .pointer (some ⟨yb, yo, none⟩) := by have h := hdep 4 _ rfl (by kernel_rfl); simpa using h
                              clear ho hfr hdep
                              have hcl := hcy0 _ hb
                              go_wp2_with fail
                              exact ⟨rfl, _, rfl, Below.refl _ _, rfl⟩
                            · intro o ho a' w' hb hfr hdep
                              obtain rfl := Option.some.inj ho
                              have g4 : a'.tmps[4]?.getD undef = .slice (some ⟨ob, 0, none⟩) (t - i) c4 := by have h := hfr 4 (by kernel_rfl); simpa using h
                              clear ho hfr hdep
                              go_wp2_with fail
                              exact ⟨rfl, _, rfl, Below.refl _ _, rfl⟩
                            · intro o ho a' w' hb hfr hdep
                              obtain rfl := Option.some.inj ho
                              have g10 : a'.tmps[10]?.getD undef = .int .i64 (k : Int) := by have h := hfr 10 (by kernel_rfl); simpa using h
                              clear ho hfr hdep
                              go_wp2_with fail
                              exact ⟨rfl, _, rfl, Below.refl _ _, rfl⟩
                            · intro o ho a' w' hb hfr hdep
                              obtain rfl := Option.some.inj ho
                              have g97 : a'.tmps[97]?.getD undef = .slice (some ⟨ob, 0, none⟩) (t - i) c4 := by have h := hdep 6 _ rfl (by kernel_rfl); simpa using h
                              have g98 : a'.tmps[98]?.getD undef = .int .i64 (k : Int) := by have h := hdep 7 _ rfl (by kernel_rfl); simpa using h
                              clear ho hfr hdep
                              go_wp2_with fail
                              exact ⟨rfl, _, rfl, Below.refl _ _, rfl⟩
                            · intro o ho a' w' hb hfr hdep
                              obtain rfl := Option.some.inj ho
                              have g99 : a'.tmps[99]?.getD undef = .pointer (some ⟨ob, k, none⟩) := by have h := hdep 8 _ rfl (by kernel_rfl); simpa using h
                              clear ho hfr hdep
                              have hcl := hcX _ hb
                              go_wp2_with fail
                              exact ⟨rfl, _, rfl, Below.refl _ _, rfl⟩
                            · intro o ho a' w' hb hfr hdep
                              obtain rfl := Option.some.inj ho
                              have g100 : a'.tmps[100]?.getD undef = .slice (some ⟨xb, xo, none⟩) x.length xc := by have h := hdep 9 _ rfl (by kernel_rfl); simpa using h
                              clear ho hfr hdep
                              refine idx0_any 101 28 _ _ 47 Try.underlying28 size_row xb xo x.length xc (by show a'.tmps.getD 100 undef = _; simpa using g100) hx1 rfl ?_
                              go_wp2
                              exact ⟨rfl, _, rfl, Below.refl _ _, rfl⟩
                            · intro o ho a' w' hb hfr hdep
                              obtain rfl := Option.some.inj ho
                              have g101 : a'.tmps[101]?.getD undef = .pointer (some ⟨xb, xo, none⟩) := by have h := hdep 10 _ rfl (by kernel_rfl); simpa using h
                              clear ho hfr hdep
                              have hcl := hcx0 _ hb
                              go_wp2_with fail
                              exact ⟨rfl, _, rfl, Below.refl _ _, rfl⟩
                            · intro o ho a' w' hb hfr hdep
                              obtain rfl := Option.some.inj ho
                              have g96 : a'.tmps[96]?.getD undef = .slice y0a y0.length y0c := by have h := hdep 5 _ rfl (by kernel_rfl); simpa using h
                              have g102 : a'.tmps[102]?.getD undef = .slice x0a x0.length x0c := by have h := hdep 11 _ rfl (by kernel_rfl); simpa using h
                              clear ho hfr hdep
                              have hsm := hsame _ hb
                              go_wp2_with fail
                              refine hsm.mono ?_
                              rintro e w2 ⟨rfl, h2⟩
                              go_wp2_with fail
                              exact ⟨rfl, _, rfl, h2, rfl⟩
                          · intro g w3 hb3 hp3
                            have p103 := hp3 12 _ rfl
                            clear hp3
                            simp at p103
                            simp only [List.drop_succ_cons, List.drop_zero, List.map_cons, List.map_nil, putAll, Act.put, List.setIfInBounds_toArray, List.set_cons_succ, List.set_cons_zero, p103]
                            clear p103
                            have hbK3 := hbK.trans (hb3.mono hbK.size)
                            cases D2
                            · have HNO : Hid (¬ ∃ Z, Reads p Z) := hide (HBAD.out (fun h => by
                                have h1 := (h.2.1 hj0).2.2 k (by rw [HBLL.out]; exact hkt)
                                rw [HGX.out.1, HGX.out.2] at h1
                                have h2 := HD2.out
                                rw [decide_eq_true h1] at h2; cases h2))
                              clear hsame hcx0 hcy0 hcX hcY
                              go_wp2_with fail
                              go_ret2
                              exact ReadQ.err HNO.out hbK3
                            · have HHN : Hid (headsK X B (k + 1)) := hide (headsK_next HHK.out (by rw [HGX.out.1, HGX.out.2]; exact of_decide_eq_true HD2.out))
                              clear hsame hcx0 hcy0
                              have hV3 := hVK.below hb3
                              have hO3 := hOK.below hb3
                              have hpx3 := hpx.below hb3
                              have hpy3 := hpy.below hb3
                              have kx3 := fun (m : Nat) (z : Hd) (h : xks[m]? = some z) => (kx2 m z h).below hb3
                              have ky3 := fun (m : Nat) (z : Hd) (h : yks[m]? = some z) => (ky2 m z h).below hb3
                              have hcX3 : ∀ w', Below w3.heap.size w3 w' → w'.cell? ⟨ob, k, none⟩ = some (.slice (some ⟨xb, xo, none⟩) x.length xc) := fun w' h => hcX w' (hb3.trans (h.mono hb3.size))
                              have hcY3 : ∀ w', Below w3.heap.size w3 w' → w'.cell? ⟨pb, k, none⟩ = some (.slice (some ⟨yb, yo, none⟩) y.length yc) := fun w' h => hcY w' (hb3.trans (h.mono hb3.size))
                              have hs3 := hpy3.top.from hy1
                              obtain ⟨ar, har⟩ : ∃ ar, (if yc = 1 then some (⟨yb, yo, none⟩ : Addr) else (some (⟨yb, yo, none⟩ : Addr)).map (·.add 1)) = ar := ⟨_, rfl⟩
                              rw [har] at hs3
                              have HAR := hide har
                              have hxm : x.length + (y.length - 1) ≤ 2000000 := by have h1 := hxr.2; have h2 := HYN.out; omega
                              clear hcX hcY hVK hOK hpx hpy kx2 ky2 hb3 hbK har
                              go_upto_region 27 with fail
                              refine wp_region_chain4 14 (fun _ _ => True) (GZ w3 x.length (y.length - 1) xks (yks.drop 1)) [⟨2, 107, [], fun _ _ => True⟩, ⟨7, 112, [], fun _ _ => True⟩, ⟨13, 118, [], fun _ _ => True⟩] [⟨0, 105, [105], fun vs _ => vs = [.slice (some ⟨ob, 0, none⟩) (t - i) c4]⟩, ⟨1, 106, [106], fun vs _ => vs = [.int .i64 (k : Int)]⟩, ⟨3, 108, [108], fun vs _ => vs = [.slice (some ⟨ob, 0, none⟩) (t - i) c4]⟩, ⟨4, 109, [109], fun vs _ => vs = [.int .i64 (k : Int)]⟩, ⟨5, 110, [110], fun vs _ => vs = [.pointer (some ⟨ob, k, none⟩)]⟩, ⟨6, 111, [111], fun vs _ => vs = [.slice (some ⟨xb, xo, none⟩) x.length xc]⟩, ⟨8, 113, [113], fun vs _ => vs = [.slice (some ⟨pb, 0, none⟩) (t - i) c8]⟩, ⟨9, 114, [114], fun vs _ => vs = [.int .i64 (k : Int)]⟩, ⟨10, 115, [115], fun vs _ => vs = [.pointer (some ⟨pb, k, none⟩)]⟩, ⟨11, 116, [116], fun vs _ => vs = [.slice (some ⟨yb, yo, none⟩) y.length yc]⟩, ⟨12, 117, [117], fun vs _ => vs = [.slice ar (y.length - 1) (yc - 1)]⟩] (by kernel_rfl) (by kernel_rfl) ?_ (fun _ _ _ => trivial) GZ.mono ?_ ?_ ?_ ?_
                              · exact (Still.below 1 : Below w3.heap.size w3 (w3.drewN 1))
                              · simp only [All]
                                refine ⟨(fun _ _ _ _ h => h), (fun _ _ _ _ h => h), (fun _ _ _ _ h => h), (fun _ _ _ _ h => h), (fun _ _ _ _ h => h), (fun _ _ _ _ h => h), (fun _ _ _ _ h => h), (fun _ _ _ _ h => h), (fun _ _ _ _ h => h), (fun _ _ _ _ h => h), (fun _ _ _ _ h => h), trivial⟩
                              · intro m c hc o ho a w' hG hfr hdep
                                rcases m with _ | _ | _ | m
                                · cases hc
                                  obtain rfl := Option.some.inj ho
                                  have hB : Below w3.heap.size w3 w' := hG
                                  clear hfr hdep
                                  have hbl := (Below.refl w'.heap.size w').alloc (Nat.le_refl _) (.cells #[] 47)
                                  go_wp2_with fail
                                  exact ⟨rfl, _, rfl, w'.heap.size, rfl, Own.built w' w3.heap.size 47 1 0 #[] hB.size rfl (by decide), hB.alloc hB.size _⟩
                                · cases hc
                                  obtain rfl := Option.some.inj ho
                                  obtain ⟨b, g107, hob, hB⟩ := hG
                                  replace g107 : a.tmps.getD 107 undef = .slice (some ⟨b, 0, none⟩) 0 0 := g107
                                  have g111 : a.tmps.getD 111 undef = .slice (some ⟨xb, xo, none⟩) x.length xc := by have h := hdep 5 _ rfl (by kernel_rfl); simpa using h
                                  clear hfr hdep
                                  refine append_own rfl _ _ 28 rfl 47 (.slice none 0 0) 1 24 Try.underlying28 info_row rfl w3 w3.heap.size _ 0 0 _ g107 hob (some ⟨xb, xo, none⟩) x.length xc (xks.map hv) g111 (hpx3.top.below hB) (one_map _ (fun _ => rfl) _) (by omega) (by unfold maxLen; omega) hB.size hB ?_
                                  intro a3 c3 w5 ho3 _ hb5
                                  rw [Nat.zero_add, List.nil_append] at ho3
                                  rw [Nat.zero_add]
                                  go_wp2
                                  exact ⟨rfl, _, rfl, a3, c3, rfl, ho3, hb5⟩
                                · cases hc
                                  obtain rfl := Option.some.inj ho
                                  obtain ⟨a3, c3, g112, ho3, hB⟩ := hG
                                  replace g112 : a.tmps.getD 112 undef = _ := g112
                                  have g117 : a.tmps.getD 117 undef = .slice ar (y.length - 1) (yc - 1) := by have h := hdep 10 _ rfl (by kernel_rfl); simpa using h
                                  clear hfr hdep
                                  refine append_own rfl _ _ 28 rfl 47 (.slice none 0 0) 1 24 Try.underlying28 info_row rfl w3 w3.heap.size a3 x.length c3 _ g112 ho3 ar (y.length - 1) (yc - 1) ((yks.drop 1).map hv) g117 (hs3.below hB) (one_map _ (fun _ => rfl) _) (by omega) (by unfold maxLen; omega) hB.size hB ?_
                                  intro a4 c4 w5 ho4 _ hb5
                                  go_wp2
                                  exact ⟨rfl, _, rfl, a4, c4, rfl, by simpa using ho4, hb5⟩
                                · cases hc
                              · simp only [All]
                                refine ⟨?_, ?_, ?_, ?_, ?_, ?_, ?_, ?_, ?_, ?_, ?_, trivial⟩
                                · intro o ho a' w' hfr hdep hst
                                  obtain rfl := Option.some.inj ho
                                  have g4 : a'.tmps[4]?.getD undef = .slice (some ⟨ob, 0, none⟩) (t - i) c4 := by have h := hfr 4 (by kernel_rfl); simpa using h
                                  clear ho hfr hdep hst
                                  go_wp2_with fail
                                  exact ⟨rfl, _, rfl, Below.refl _ _, rfl⟩
                                · intro o ho a' w' hfr hdep hst
                                  obtain rfl := Option.some.inj ho
                                  have g10 : a'.tmps[10]?.getD undef = .int .i64 (k : Int) := by have h := hfr 10 (by kernel_rfl); simpa using h
                                  clear ho hfr hdep hst
                                  go_wp2_with fail
                                  exact ⟨rfl, _, rfl, Below.refl _ _, rfl⟩
                                · intro o ho a' w' hfr hdep hst
                                  obtain rfl := Option.some.inj ho
                                  have g4 : a'.tmps[4]?.getD undef = .slice (some ⟨ob, 0, none⟩) (t - i) c4 := by have h := hfr 4 (by kernel_rfl); simpa using h
                                  clear ho hfr hdep hst
                                  go_wp2_with fail
                                  exact ⟨rfl, _, rfl, Below.refl _ _, rfl⟩
                                · intro o ho a' w' hfr hdep hst
                                  obtain rfl := Option.some.inj ho
                                  have g10 : a'.tmps[10]?.getD undef = .int .i64 (k : Int) := by have h := hfr 10 (by kernel_rfl); simpa using h
                                  clear ho hfr hdep hst
                                  go_wp2_with fail
                                  exact ⟨rfl, _, rfl, Below.refl _ _, rfl⟩
                                · intro o ho a' w' hfr hdep hst
                                  obtain rfl := Option.some.inj ho
                                  have g108 : a'.tmps[108]?.getD undef = .slice (some ⟨ob, 0, none⟩) (t - i) c4 := by have h := hdep 2 _ rfl (by kernel_rfl); simpa using h
                                  have g109 : a'.tmps[109]?.getD undef = .int .i64 (k : Int) := by have h := hdep 3 _ rfl (by kernel_rfl); simpa using h
                                  clear ho hfr hdep hst
                                  go_wp2_with fail
                                  exact ⟨rfl, _, rfl, Below.refl _ _, rfl⟩
                                · intro o ho a' w' hfr hdep hst
                                  obtain rfl := Option.some.inj ho
                                  have g110 : a'.tmps[110]?.getD undef = .pointer (some ⟨ob, k, none⟩) := by have h := hdep 4 _ rfl (by kernel_rfl); simpa using h
                                  obtain ⟨j, _, _, hG⟩ := hst
                                  clear ho hfr hdep
                                  have hcl := hcX3 _ hG.bel
                                  clear hG
                                  go_wp2_with fail
                                  exact ⟨rfl, _, rfl, Below.refl _ _, rfl⟩
                                · intro o ho a' w' hfr hdep hst
                                  obtain rfl := Option.some.inj ho
                                  have g8 : a'.tmps[8]?.getD undef = .slice (some ⟨pb, 0, none⟩) (t - i) c8 := by have h := hfr 8 (by kernel_rfl); simpa using h
                                  clear ho hfr hdep hst
                                  go_wp2_with fail
                                  exact ⟨rfl, _, rfl, Below.refl _ _, rfl⟩
                                · intro o ho a' w' hfr hdep hst
                                  obtain rfl := Option.some.inj ho
                                  have g10 : a'.tmps[10]?.getD undef = .int .i64 (k : Int) := by have h := hfr 10 (by kernel_rfl); simpa using h
                                  clear ho hfr hdep hst
                                  go_wp2_with fail
                                  exact ⟨rfl, _, rfl, Below.refl _ _, rfl⟩
                                · intro o ho a' w' hfr hdep hst
                                  obtain rfl := Option.some.inj ho
                                  have g113 : a'.tmps[113]?.getD undef = .slice (some ⟨pb, 0, none⟩) (t - i) c8 := by have h := hdep 6 _ rfl (by kernel_rfl); simpa using h
                                  have g114 : a'.tmps[114]?.getD undef = .int .i64 (k : Int) := by have h := hdep 7 _ rfl (by kernel_rfl); simpa using h
                                  clear ho hfr hdep hst
                                  go_wp2_with fail
                                  exact ⟨rfl, _, rfl, Below.refl _ _, rfl⟩
                                · intro o ho a' w' hfr hdep hst
                                  obtain rfl := Option.some.inj ho
                                  have g115 : a'.tmps[115]?.getD undef = .pointer (some ⟨pb, k, none⟩) := by have h := hdep 8 _ rfl (by kernel_rfl); simpa using h
                                  obtain ⟨j, _, _, hG⟩ := hst
                                  clear ho hfr hdep
                                  have hcl := hcY3 _ hG.bel
                                  clear hG
                                  go_wp2_with fail
                                  exact ⟨rfl, _, rfl, Below.refl _ _, rfl⟩
                                · intro o ho a' w' hfr hdep hst
                                  obtain rfl := Option.some.inj ho
                                  have g116 : a'.tmps[116]?.getD undef = .slice (some ⟨yb, yo, none⟩) y.length yc := by have h := hdep 9 _ rfl (by kernel_rfl); simpa using h
                                  clear ho hfr hdep hst
                                  refine cut_lo_any 117 28 _ _ 47 Try.underlying28 size_row (some ⟨yb, yo, none⟩) y.length yc (by show a'.tmps.getD 116 undef = _; simpa using g116) .i64 1 rfl hy1 ?_
                                  rw [HAR.out]
                                  go_wp2_with fail
                                  exact ⟨rfl, _, rfl, Below.refl _ _, rfl⟩
                              · intro g w4 hG hp
                                obtain ⟨a5, c5, g118, ho5, hb4⟩ := hG
                                replace g118 : g 118 = .slice a5 (x.length + (y.length - 1)) c5 := g118
                                have g105 : g 105 = .slice (some ⟨ob, 0, none⟩) (t - i) c4 := by have h := hp 0 _ rfl; simpa using h
                                have g106 : g 106 = .int .i64 (k : Int) := by have h := hp 1 _ rfl; simpa using h
                                clear hp
                                simp only [List.drop_succ_cons, List.drop_zero, List.map_cons, List.map_nil, List.cons_append, List.nil_append, putAll, Act.put, List.setIfInBounds_toArray, List.set_cons_succ, List.set_cons_zero, g118, g105, g106]
                                clear g118 g105 g106
                                have hbK4 := hbK3.trans (hb4.mono hbK3.size)
                                have hV4 := hV3.below hb4
                                have hO4 := hO3.below hb4
                                have hpg := pg_app ho5.sl (hpx3.below hb4) (hpy3.below hb4)
                                have hcl := hcX3 w4 hb4
                                have hfr := hV4.top.free k
                                have hput := hV4.put (i := k) (y := (a5, x.length + (y.length - 1), c5)) rfl hpg (KindOf.own ho5) (fun m z h => by
                                  rw [List.getElem?_append] at h
                                  split at h
                                  · exact (kx3 m z h).below hb4
                                  · rw [List.getElem?_drop] at h; exact (ky3 _ z h).below hb4)
                                rw [joinK_next HX.out HY.out] at hput
                                have hO5 := hO4.far (q := ⟨ob, k, none⟩) hob2 (hv (a5, x.length + (y.length - 1), c5))
                                have hbK5 := hbK4.setCell (p := ⟨ob, k, none⟩) hob1 (hv (a5, x.length + (y.length - 1), c5))
                                clear hV3 hO3 hV4 hO4 hpx3 hpy3 kx3 ky3 hcX3 hcY3 hs3 hpg hbK3 hbK4 hb4 ho5
                                refine index_known 119 23 _ _ 28 Try.underlying23 size_rows ob (t - i) c4 rfl _ _ k rfl rfl hkt ?_
                                go_wp2_with (with_reducible refine store_slice 28 _ _ size_rows ob k rfl a5 _ c5 rfl _ hcl hfr ?_)
                                go_roundg (X.length - (k + 1))
                                case measure => have := HGK.out; omega
                                case rel => exact ⟨k + 1, _, by omega, rfl, by go_num, hput, hO5, hbK5, HHN⟩
                        · obtain rfl : X.length = k := by omega
                          have d5 : decide ((X.length : Int) < ((t - i : Nat) : Int)) = false := decide_eq_false (by rw [HLE.out]; omega)
                          have d6 : decide (X.length < t - i) = false := decide_eq_false (by rw [HLE.out]; omega)
                          rw [joinK_all] at hVK
                          have hjl := joinX_len X B
                          have HRI2 : Hid (RI p (joinX X B) (remB p (t + 1))) := hide ((HGOOD.out HOKB.out (fun _ => ⟨by rw [HBLL.out, HLE.out], by rw [HN.out]; omega, fun m hm => HHK.out m (by rw [HBLL.out, HLE.out] at hm; exact hm)⟩) (fun h => by omega)).2 hj0)
                          have HX3 : Hid (∀ row ∈ joinX X B, 1 ≤ row.length ∧ row.length ≤ 12 * (t + 1)) := hide (fun row hr => by
                            obtain ⟨m, x, hm, rfl⟩ := joinX_mem hr
                            have h1 := HXR.out x (List.mem_of_getElem? hm)
                            have h2 : (B.getD m []).length ≤ 12 := by
                              rw [List.getD_eq_getElem?_getD]
                              cases h3 : B[m]? with
                              | none => simp
                              | some z => have := HBR.out z (List.mem_of_getElem? h3); simp; omega
                            rw [List.length_append, List.length_drop]
                            omega)
                          clear HHK
                          go_wp2_with fail
                          go_roundg (p.length + 1 - (t + 1))
                          case measure => have := HG.out; omega
                          case rel => exact ⟨t + 1, j + 1, some ⟨ob, 0, none⟩, c4, hsK, joinX X B, by omega, rfl, by go_num, by go_num, by rw [hjl, HLE.out], hVK, hbK, by omega, by rw [hjl]; exact hX12, HX3, hide ⟨fun h => by omega, fun _ => ⟨HRI2.out, by rw [hjl, ← HLE.out]; exact hti⟩⟩⟩
                    · have e3 : (((t - i : Nat) : Int) == (X.length : Int)) = false := by simp; omega
                      have HNO : Hid (¬ ∃ Z, Reads p Z) := hide (HBAD.out (fun h => by
                        have h1 := (h.2.1 hj0).1
                        rw [HBLL.out] at h1; exact hLe h1))
                      go_wp2_with fail
                      go_ret2
                      exact ReadQ.err HNO.out hbc3
    · obtain rfl : p.length + 1 = i := by omega
      have d0 : decide (((p.length + 1 : Nat) : Int) ≤ (p.length : Int)) = false := decide_eq_false (by omega)
      have hj1 : 1 ≤ j := by
        rcases Nat.eq_zero_or_pos j with h | h
        · have := HRI.out.1 h; omega
        · exact h
      have hri := (HRI.out.2 hj1).1
      rw [remB_end (by omega)] at hri
      have HRX := hide hri
      have hvl := ref15_Valid X hs4 a4 X.length c4 wr hV.pg3
      clear hri
      cases hval : validT X
      · have HNO := hide (HRX.out.none hval)
        rw [hval] at hvl
        clear hval
        go_wp2_with fail
        refine hvl.mono ?_
        rintro e w2 ⟨rfl, rfl⟩
        go_wp2_with fail
        go_ret2
        exact ReadQ.err HNO.out hbk
      · have HYES := hide (HRX.out.done hval)
        rw [hval] at hvl
        clear hval
        go_wp2_with fail
        refine hvl.mono ?_
        rintro e w2 ⟨rfl, rfl⟩
        go_wp2_with fail
        go_ret2
        exact ReadQ.ok HYES.out hV.pg3 hbk
end Go.Proofs.Ytmjkhmebpciopaa
end

/- the text T52 -/
section
/- Chapter 15: the law's pages of numbers. -/
namespace Go.Proofs.Ytmjkhmebpciopaa
open Go.RowKit Go.Dx

set_option maxRecDepth 100000 in
set_option maxHeartbeats 1000000 in
theorem law15_some (l : List Int) (a : Option Addr) (n c : Nat) (w : World) (hs : Sl w 1 a n c (l.map I64)) (hl : ∀ x ∈ l, -9223372036854775808 ≤ x ∧ x ≤ 9223372036854775807) :
    Calls Try.prog 19 #[.slice a n c] w fun e w' => ∃ P a' c' hs', e = .returned (.slice a' P.length c') ∧ P.length ≤ 4 ∧ (∀ r ∈ P, r.length ≤ 8) ∧ OPage w' w.heap.size a' c' hs' P ∧ Below w.heap.size w w' := by
  have HQ : Hid (∀ (i v : Int) (m r : Nat), atF l i m = r → (m : Int) = v → 1 ≤ m → m ≤ 1000000000 → ∀ w', Below w.heap.size w w' → Calls Try.prog 25 #[.slice a n c, .int .i64 i, .int .i64 v] w' fun e w2 => e = .returned (.int .i64 (r : Int)) ∧ w' = w2) :=
    fun i v m r h hv h1 h2 w' hb => At_at h hv h1 h2 hl (hs.below hb)
  clear hl
  go_enter Try.func19, Try.ntmps19
  go_wp2_with fail
  go_loopg [3, 4] 4 (fun g o i' w' => ∃ (i : Nat) (a2 : Option Addr) (c2 : Nat) (hs2 : List Hd) (P : List (List UInt8)), i ≤ 4 ∧ g = 4 - i ∧ P.length = i ∧ i' = .int .i64 (i : Int) ∧ o = .slice a2 i c2 ∧ Hid (∀ r ∈ P, r.length ≤ 8) ∧ OPage w' w.heap.size a2 c2 hs2 P ∧ Below w.heap.size w w')
  case atStart => exact ⟨0, none, 0, [], [], by omega, by omega, rfl, rfl, rfl, hide (by simp), OPage.nil _ _, Below.refl _ _⟩
  case round =>
    obtain ⟨i, a2, c2, hs2, P, hi, hg, hPl, rfl, rfl, HP8, hO, hbi⟩ := hrel
    have HG := hide hg
    have HPL := hide hPl
    clear hg hPl
    have fin : ∀ wz : World, OPage wz w.heap.size a2 c2 hs2 P → Below w.heap.size w wz → (∃ P a' c' hs', Ending.returned (.slice a2 i c2) = .returned (.slice a' P.length c') ∧ P.length ≤ 4 ∧ (∀ r ∈ P, r.length ≤ 8) ∧ OPage wz w.heap.size a' c' hs' P ∧ Below w.heap.size w wz) := fun wz h1 h2 => ⟨P, a2, c2, hs2, by rw [HPL.out], by rw [HPL.out]; exact hi, HP8.out, h1, h2⟩
    have FIN := hide fin
    clear fin
    by_cases hi4 : i < 4
    · have d1 : decide ((i : Int) < 4) = true := decide_eq_true (by omega)
      by_cases hin : 9 * i < n
      · have d2 : decide (9 * (i : Int) < (n : Int)) = true := decide_eq_true (by omega)
        obtain ⟨m, Hm⟩ : ∃ m, Hid (atF l (9 * (i : Int)) 9 = m) := ⟨_, hide rfl⟩
        have hm9 : m < 9 := by rw [← Hm.out]; exact atF_lt (by omega)
        obtain ⟨wy, rfl⟩ : ∃ wy : World, wy = wr := ⟨_, rfl⟩
        go_wp2_with fail
        go_loopg [5, 6] m (fun g x k' w' => ∃ (k : Nat) (a3 : Option Addr) (c3 : Nat) (xs : List UInt8), k ≤ m ∧ g = m - k ∧ xs.length = k ∧ k' = .int .i64 (k : Int) ∧ x = .slice a3 k c3 ∧ Own w' wy.heap.size 5 1 a3 k c3 (xs.map B8) ∧ Below wy.heap.size wy w')
        case atStart => exact ⟨0, none, 0, [], by omega, by omega, rfl, rfl, rfl, Own.nil _ _ _ _, Below.refl _ _⟩
        case round =>
          obtain ⟨k, a3, c3, xs, hk, hg1, hxl, rfl, rfl, hox, hbk⟩ := hrel
          have HG1 := hide hg1
          have HXL := hide hxl
          clear hg1 hxl
          have hbik := hbi.trans (hbk.mono hbi.size)
          go_wp2_with fail
          refine (HQ.out _ _ 9 m Hm.out rfl (by omega) (by omega) _ hbik).mono ?_
          rintro e w1 ⟨rfl, rfl⟩
          by_cases hkm : k < m
          · have d3 : decide ((k : Int) < (m : Int)) = true := decide_eq_true (by omega)
            obtain ⟨v, Hv⟩ : ∃ v, Hid (atF l (9 * (i : Int) + 1 + (k : Int)) 5 = v) := ⟨_, hide rfl⟩
            have hv : v < 5 := by rw [← Hv.out]; exact atF_lt (by omega)
            go_wp2_with fail
            refine (HQ.out _ _ 5 v Hv.out rfl (by omega) (by omega) _ hbik).mono ?_
            rintro e w1 ⟨rfl, rfl⟩
            go_wp2_with (at_builtin; refine app_b rfl _ _ rfl wy wy.heap.size _ _ _ _ rfl hox _ rfl (by omega) hbk.size hbk ?_; intro a' c' w' ho' hgr' hb')
            go_roundg (m - (k + 1))
            case measure => have := HG1.out; omega
            case rel =>
              have hu := u8_small' (show v < 256 by omega)
              refine ⟨k + 1, a', c', xs ++ [UInt8.ofNat v], by omega, rfl, by rw [List.length_append, HXL.out]; rfl, by go_num, rfl, ?_, hb'⟩
              rw [List.map_append]
              show Own _ _ _ _ _ _ _ (xs.map B8 ++ [B8 (UInt8.ofNat v)])
              rw [hu]; exact ho'
          · obtain rfl : m = k := by omega
            have d3 : decide ((m : Int) < (m : Int)) = false := decide_eq_false (by omega)
            go_wp2_with (at_builtin; refine app_p rfl _ _ rfl w w.heap.size _ _ _ hs2 P HPL.out rfl (hO.below hbk) (a3, m, c3) xs (hox.mono hbi.size) rfl (by omega) hbik.size hbik ?_; intro a' c' w' ho' hb')
            go_roundg (4 - (i + 1))
            case measure => have := HG.out; omega
            case rel =>
              refine ⟨i + 1, a', c', _, P ++ [xs], by omega, rfl, by rw [List.length_append, HPL.out]; rfl, by go_num, rfl, hide ?_, ho', hb'⟩
              intro x hx
              rcases List.mem_append.1 hx with h | h
              · exact HP8.out x h
              · rw [List.mem_singleton.1 h, HXL.out]; omega
      · have d2 : decide (9 * (i : Int) < (n : Int)) = false := decide_eq_false (by omega)
        go_wp2_with fail
        go_ret
        exact FIN.out _ hO hbi
    · obtain rfl : 4 = i := by omega
      go_wp2_with fail
      go_ret
      exact FIN.out _ hO hbi
end Go.Proofs.Ytmjkhmebpciopaa
end

/- the text T53 -/
section
/- Chapter 15: what a page is that can be read. -/
namespace Go.Proofs.Ytmjkhmebpciopaa
open Go.RowKit Go.Dx

theorem entry_cells {x : List UInt8} (h : entryB x = true) : ∀ u ∈ x, u.toNat ≤ 63 := by
  intro u hu
  unfold entryB at h
  rw [Bool.and_eq_true, Bool.and_eq_true, Bool.and_eq_true] at h
  have h4 := h.2.2.2
  obtain ⟨i, hi, rfl⟩ := List.mem_iff_getElem.1 hu
  rcases Nat.lt_or_ge 63 (x[i]).toNat with h5 | h5
  · have h6 : (List.range x.length).any (badAt x) = true := range_yes hi (by
      unfold badAt
      rw [List.getD_eq_getElem?_getD, List.getElem?_eq_getElem hi, Option.getD_some, decide_eq_true h5, Bool.true_or])
    rw [h6] at h4; cases h4
  · exact h5
theorem line_cells {f : Nat → Nat} {row : List (List UInt8)} (h : ∀ x ∈ row, ∀ u ∈ x, u.toNat ≤ 63) (j : Nat) : ∀ m, ∀ u ∈ lineL f row j m, u.toNat ≤ 63 := by
  have hg : ∀ i, ∀ u ∈ row.getD i [], u.toNat ≤ 63 := fun i u hu => by
    rw [List.getD_eq_getElem?_getD] at hu
    cases he : row[i]? with
    | none => rw [he] at hu; cases hu
    | some x => rw [he] at hu; exact h x (List.mem_of_getElem? he) u hu
  intro m
  induction m with
  | zero => exact hg 0
  | succ m ih =>
    intro u hu
    unfold lineL at hu
    rcases List.mem_append.1 hu with hu | hu
    · rcases List.mem_append.1 hu with hu | hu
      · exact ih u hu
      · rw [(List.mem_replicate.1 hu).2]; decide
    · exact hg _ u hu
theorem unb_mem : ∀ (bs : List (List (List UInt8))) (r : List UInt8), r ∈ unb bs → r = [] ∨ ∃ b ∈ bs, r ∈ b
  | [], r, h => by cases h
  | [b], r, h => .inr ⟨b, List.mem_singleton.2 rfl, h⟩
  | b :: c :: t, r, h => by
    have h : r ∈ b ++ [] :: unb (c :: t) := h
    rcases List.mem_append.1 h with h | h
    · exact .inr ⟨b, List.mem_cons_self, h⟩
    · rcases List.mem_cons.1 h with h | h
      · exact .inl h
      · rcases unb_mem (c :: t) r h with h | ⟨d, hd, h⟩
        · exact .inl h
        · exact .inr ⟨d, List.mem_cons_of_mem _ hd, h⟩
theorem unb_len {K : Nat} : ∀ bs : List (List (List UInt8)), (∀ b ∈ bs, b.length ≤ K) → (unb bs).length ≤ bs.length * (K + 1)
  | [], _ => Nat.zero_le _
  | [b], h => by
    have := h b (List.mem_singleton.2 rfl)
    show b.length ≤ _
    rw [List.length_singleton]; omega
  | b :: c :: t, h => by
    have h1 := h b List.mem_cons_self
    have h2 := unb_len (c :: t) (fun d hd => h d (List.mem_cons_of_mem _ hd))
    show (b ++ [] :: unb (c :: t)).length ≤ _
    rw [List.length_append, List.length_cons, List.length_cons, Nat.succ_mul]
    omega
theorem Div.facts {X : List (List (List UInt8))} {c : Nat} {bs : List (List (List UInt8))} (h : Div X c bs) : bs.length ≤ nCols X - c ∧ ∀ b ∈ bs, ∃ j m, j + m ≤ nCols X ∧ b = linesL (colW X) X j m := by
  induction h with
  | nil _ => exact ⟨Nat.zero_le _, fun b hb => by cases hb⟩
  | @cons c m bs h1 h2 _ ih =>
    refine ⟨by rw [List.length_cons]; have := ih.1; omega, fun b hb => ?_⟩
    rcases List.mem_cons.1 hb with rfl | hb
    · exact ⟨c, m, h2, rfl⟩
    · exact ih.2 b hb
/-- a page that can be read is small -/
theorem reads_facts {p : List (List UInt8)} {X : List (List (List UInt8))} (h : Reads p X) : 1 ≤ p.length ∧ p.length ≤ 1000 ∧ (∀ r ∈ p, r.length ≤ 1000) ∧ ∀ r ∈ p, ∀ u ∈ r, u.toNat ≤ 63 := by
  have hX : VX X := by obtain ⟨_, _, _, _, _, _, h4⟩ := h; exact VX.of h4
  obtain ⟨m, bs, e, g1, g2⟩ := h.div
  obtain ⟨f1, f2⟩ := g2.facts
  have hp := unb_blk p []
  rw [e, List.nil_append] at hp
  have hall : ∀ b ∈ linesL (colW X) X 1 m :: bs, ∃ j m, j + m ≤ nCols X ∧ b = linesL (colW X) X j m := fun b hb => by
    rcases List.mem_cons.1 hb with rfl | hb
    · exact ⟨1, m, g1, rfl⟩
    · exact f2 b hb
  have hmem : ∀ r ∈ p, r = [] ∨ ∃ row ∈ X, ∃ j m, j + m ≤ nCols X ∧ r = lineL (colW X) row j m := fun r hr => by
    rw [← hp] at hr
    rcases unb_mem _ r hr with h | ⟨b, hb, h⟩
    · exact .inl h
    · obtain ⟨j, m, hj, rfl⟩ := hall b hb
      obtain ⟨row, hrow, rfl⟩ := List.mem_map.1 h
      exact .inr ⟨row, hrow, j, m, hj, rfl⟩
  have hlen : p.length ≤ 1000 := by
    have h1 := unb_len (K := 12) (linesL (colW X) X 1 m :: bs) (fun b hb => by
      obtain ⟨j, m, _, rfl⟩ := hall b hb
      unfold linesL; rw [List.length_map]; exact hX.r2)
    rw [hp, List.length_cons] at h1
    have := hX.c2
    omega
  refine ⟨?_, hlen, fun r hr => ?_, fun r hr => ?_⟩
  · rcases p with _ | ⟨r, p⟩
    · exfalso
      rw [blk_end] at e
      injection e with e1 _
      have h1 := congrArg List.length e1
      unfold linesL at h1
      rw [List.length_map] at h1
      have := hX.r1
      simp at h1
      omega
    · simp
  · rcases hmem r hr with rfl | ⟨row, hrow, j, m, hj, rfl⟩
    · simp
    · have h1 := lineL_le (wide_mem hrow) j m
      have h2 := sizeW_le hX.le j m
      have := hX.c2
      omega
  · rcases hmem r hr with rfl | ⟨row, hrow, j, m, hj, rfl⟩
    · intro u hu; cases hu
    · exact line_cells (fun x hx => entry_cells (hX.ent row hrow x hx)) j m
/-- the page of a layout, or of one part, can be read -/
theorem lay_reads {X : List (List (List UInt8))} {W : Int} {P : List (List UInt8)} {F Ls : List Nat} (hX : VX X) (h : LayOf X W P F Ls) (h0 : errT X W = 0) : Reads P X := by
  rcases h with ⟨_, L, T, hS, rfl, _, _⟩ | ⟨h1, _⟩
  · exact reads_page hX hS
  · exact absurd h0 h1
end Go.Proofs.Ytmjkhmebpciopaa
end

/- the text T54 -/
section
/- Chapter 15: a page whose lines lie apart. -/
namespace Go.Proofs.Ytmjkhmebpciopaa
open Go.RowKit Go.Dx

structure QPage (w : World) (B : Nat) (a : Option Addr) (c : Nat) (hs : List Hd) (p : List (List UInt8)) : Prop where
  pg : OPage w B a c hs p
  ap : ∀ (i j : Nat) (x y : Hd), hs[i]? = some x → hs[j]? = some y → i ≠ j → ∀ p q, x.1 = some p → y.1 = some q → p.block ≠ q.block
theorem QPage.nil (w : World) (B : Nat) : QPage w B none 0 [] [] := ⟨OPage.nil _ _, fun i j x y h => by cases h⟩
theorem QPage.below {w w' : World} {B : Nat} {a : Option Addr} {c : Nat} {hs : List Hd} {p : List (List UInt8)} (h : QPage w B a c hs p) (hb : Below w.heap.size w w') : QPage w' B a c hs p := ⟨h.pg.below hb, h.ap⟩
theorem QPage.push {w0 w' : World} {B : Nat} {a a' : Option Addr} {c c' : Nat} {hs : List Hd} {p p' : List (List UInt8)} {y : Hd} (h : QPage w0 B a c hs p) (hy : ∀ q, y.1 = some q → w0.heap.size ≤ q.block) (h' : OPage w' B a' c' (hs ++ [y]) p') : QPage w' B a' c' (hs ++ [y]) p' := by
  refine ⟨h', fun i j x z hx hz hij p1 q hp hq => ?_⟩
  have under : ∀ (i : Nat) (x : Hd), hs[i]? = some x → ∀ q, x.1 = some q → q.block < w0.heap.size := fun i x hx q hq => by
    obtain ⟨r, hr⟩ := h.pg.row_own hx
    rw [hq] at hr; exact hr.base.2
  rw [List.getElem?_append] at hx hz
  by_cases hi : i < hs.length
  · rw [if_pos hi] at hx
    by_cases hj : j < hs.length
    · rw [if_pos hj] at hz
      exact h.ap i j x z hx hz hij p1 q hp hq
    · rw [if_neg hj] at hz
      have h1 := under i x hx p1 hp
      have hz' : z = y := by
        cases hm : j - hs.length with
        | zero => rw [hm] at hz; injection hz with hz; exact hz.symm
        | succ m => rw [hm] at hz; cases hz
      rw [hz'] at hq
      have := hy q hq
      omega
  · rw [if_neg hi] at hx
    have hx' : x = y ∧ i = hs.length := by
      cases hm : i - hs.length with
      | zero => rw [hm] at hx; injection hx with hx; exact ⟨hx.symm, by omega⟩
      | succ m => rw [hm] at hx; cases hx
    rw [hx'.1] at hp
    have h2 := hy p1 hp
    by_cases hj : j < hs.length
    · rw [if_pos hj] at hz
      have h1 := under j z hz q hq
      omega
    · rw [if_neg hj] at hz
      exfalso
      cases hm : j - hs.length with
      | zero => omega
      | succ m => rw [hm] at hz; cases hz
/-- a cell of a line is set -/
theorem QPage.poke {w : World} {B b : Nat} {t : Addr} {c : Nat} {hs : List Hd} {p : List (List UInt8)} {k n' c' : Nat} {r : List UInt8} (h : QPage w B (some t) c hs p) (hi : hs[k]? = some (some ⟨b, 0, none⟩, n', c')) (hk : p[k]? = some r) (j : Nat) (u : UInt8) :
    OPage (w.setCell ⟨b, j, none⟩ (B8 u)) B (some t) c hs (p.set k (r.set j u)) := by
  have hr := h.pg.row k _ r hi hk
  refine ⟨?_, by rw [List.length_set]; exact h.pg.len, fun i x s h1 h2 => ?_⟩
  · rw [List.length_set]
    refine h.pg.top.set_other (fun q hq => ?_) _
    cases hq
    have := own_ne h.pg.top hr (by decide)
    simpa using this
  · rw [List.getElem?_set] at h2
    by_cases hki : k = i
    · rw [if_pos hki] at h2
      split at h2
      · cases h2
        subst hki
        rw [hi] at h1
        cases h1
        have := hr.put (i := j) (B8 u)
        rw [List.map_set]; exact this
      · cases h2
    · rw [if_neg hki] at h2
      exact (h.pg.row i x s h1 h2).set_other (p := ⟨b, j, none⟩) (fun q hq => h.ap i k x _ h1 hi (Ne.symm hki) q ⟨b, 0, none⟩ hq rfl) _
/-- small blocks of lines stay -/
def KeepP (w w' : World) : Prop := ∀ (k : Nat) (C : Array Value) (z : Nat × Nat), w.heap[k]? = some (.cells C 47 z) → C.size ≤ 1 → w'.heap[k]? = w.heap[k]?
theorem KeepP.of {w w' : World} (h : Below w.heap.size w w') : KeepP w w' := fun k _ _ hk _ => h.block k (Array.getElem?_eq_some_iff.1 hk).1
theorem KeepP.app {w w' : World} {B n c : Nat} {a : Option Addr} {cs : List Value} (ho : Own w B 47 1 a n c cs) (hg : w.grownBy w' (a.map (·.block))) (hor : n + 1 ≤ c ∨ Below w.heap.size w w') (h0 : n = 0 → c = 0) : KeepP w w' := by
  rcases hor with h | h
  · refine fun k C z hk hs => hg.block k (Array.getElem?_eq_some_iff.1 hk).1 (fun e0 => ?_)
    rcases ho.2 with ⟨h1, _, h3⟩ | ⟨g, cap, cur, h1, _, h2, _, _, hcs, _⟩
    · omega
    · injection h1 with h1 h3 h4
      subst h1 h4
      have e' : k = g := by simpa using e0
      rw [e', h2] at hk
      injection hk with hk
      injection hk with hk _ _
      subst hk
      omega
  · exact KeepP.of h
theorem KeepP.box {w w' : World} (h : KeepP w w') {b : Nat} {cs : List Value} (hb : Box w b 47 cs) (hl : cs.length ≤ 1) : Box w' b 47 cs := (h b _ _ hb (by simpa using hl)).trans hb
/-- how far 'append(append(append(api.Page{}, p[:k]...), nil), p[k:]...)' is -/
def GN (w0 : World) (k m : Nat) (hs : List Hd) : Nat → List Value → World → Prop
  | 0, _, w => Below w0.heap.size w0 w
  | 1, vs, w => ∃ b, vs.getD 0 undef = .slice (some ⟨b, 0, none⟩) 0 0 ∧ Own w w0.heap.size 47 1 (some ⟨b, 0, none⟩) 0 0 [] ∧ Below w0.heap.size w0 w
  | 2, vs, w => ∃ a c, vs.getD 1 undef = .slice a k c ∧ Own w w0.heap.size 47 1 a k c ((hs.take k).map hv) ∧ (k = 0 → c = 0) ∧ Below w0.heap.size w0 w
  | 3, vs, w => ∃ a c, vs.getD 2 undef = .slice a (k + 1) c ∧ Own w w0.heap.size 47 1 a (k + 1) c ((hs.take k).map hv ++ [.slice none 0 0]) ∧ Below w0.heap.size w0 w
  | _, vs, w => ∃ a c, vs.getD 3 undef = .slice a (k + 1 + m) c ∧ Own w w0.heap.size 47 1 a (k + 1 + m) c ((hs.take k).map hv ++ [.slice none 0 0] ++ (hs.drop k).map hv) ∧ Below w0.heap.size w0 w
theorem GN.bel {w0 w : World} {k m : Nat} {hs : List Hd} {vs : List Value} : ∀ {j}, GN w0 k m hs j vs w → Below w0.heap.size w0 w := by
  intro j h
  match j, h with
  | 0, h => exact h
  | 1, ⟨_, _, _, h⟩ => exact h
  | 2, ⟨_, _, _, _, _, h⟩ => exact h
  | 3, ⟨_, _, _, _, h⟩ => exact h
  | _ + 4, ⟨_, _, _, _, h⟩ => exact h
theorem GN.mono {w0 : World} {k m : Nat} {hs : List Hd} : ∀ j vs w w', Below w.heap.size w w' → GN w0 k m hs j vs w → GN w0 k m hs j vs w' := by
  intro j vs w w' hb h
  match j, h with
  | 0, h => exact Below.trans h (hb.mono (Below.size h))
  | 1, ⟨b, h1, h2, h3⟩ => exact ⟨b, h1, h2.below hb, h3.trans (hb.mono h3.size)⟩
  | 2, ⟨a, c, h1, h2, h4, h3⟩ => exact ⟨a, c, h1, h2.below hb, h4, h3.trans (hb.mono h3.size)⟩
  | 3, ⟨a, c, h1, h2, h3⟩ => exact ⟨a, c, h1, h2.below hb, h3.trans (hb.mono h3.size)⟩
  | _ + 4, ⟨a, c, h1, h2, h3⟩ => exact ⟨a, c, h1, h2.below hb, h3.trans (hb.mono h3.size)⟩
/-- a value that is a small page -/
def IsP (w : World) (v : Value) : Prop := ∃ a n c hs p, v = .slice a n c ∧ Pg w a n c hs p ∧ p.length ≤ 10000 ∧ ∀ r ∈ p, r.length ≤ 1000
theorem IsP.below {w w' : World} {v : Value} (h : IsP w v) (hb : Below w.heap.size w w') : IsP w' v := by
  obtain ⟨a, n, c, hs, p, e, h1, h2⟩ := h
  exact ⟨a, n, c, hs, p, e, h1.below hb, h2⟩
/-- the lines of heads -/
def PRows (w : World) (hs : List Hd) : Prop := ∀ x ∈ hs, ∃ r : List UInt8, Sl w 1 x.1 x.2.1 x.2.2 (r.map B8) ∧ r.length ≤ 1000
theorem rows_of {w : World} {a : Option Addr} {n c : Nat} {hs : List Hd} {p : List (List UInt8)} (h : Pg w a n c hs p) (hp : ∀ r ∈ p, r.length ≤ 1000) : PRows w hs := fun x hx => by
  obtain ⟨i, hi, rfl⟩ := List.mem_iff_getElem.1 hx
  have hi2 : i < p.length := by rw [← h.len]; exact hi
  exact ⟨p[i], h.row i _ _ (by simp [hi]) (by simp [hi2]), hp _ (List.getElem_mem hi2)⟩
theorem PRows.app {w : World} {hs hs' : List Hd} (h : PRows w hs) (h' : PRows w hs') : PRows w (hs ++ hs') := fun x hx => by
  rcases List.mem_append.1 hx with hx | hx
  · exact h x hx
  · exact h' x hx
theorem PRows.take {w : World} {hs : List Hd} (h : PRows w hs) (k : Nat) : PRows w (hs.take k) := fun x hx => h x (List.mem_of_mem_take hx)
theorem PRows.drop {w : World} {hs : List Hd} (h : PRows w hs) (k : Nat) : PRows w (hs.drop k) := fun x hx => h x (List.mem_of_mem_drop hx)
theorem PRows.none (w : World) : PRows w [(none, 0, 0)] := fun x hx => by
  rw [List.mem_singleton.1 hx]
  exact ⟨[], Sl.empty _ _, by simp⟩
theorem PRows.below {w w' : World} {hs : List Hd} (h : PRows w hs) (hb : Below w.heap.size w w') : PRows w' hs := fun x hx => by
  obtain ⟨r, h1, h2⟩ := h x hx
  exact ⟨r, h1.below hb, h2⟩
theorem PRows.page {w : World} : ∀ {hs : List Hd}, PRows w hs → ∃ p : List (List UInt8), p.length = hs.length ∧ (∀ r ∈ p, r.length ≤ 1000) ∧ ∀ (i : Nat) (h : Hd) (r : List UInt8), hs[i]? = some h → p[i]? = some r → Sl w 1 h.1 h.2.1 h.2.2 (r.map B8)
  | [], _ => ⟨[], rfl, fun r hr => (by cases hr), fun i h r h1 => (by cases h1)⟩
  | x :: hs, h => by
    obtain ⟨p, h1, h2, h3⟩ := PRows.page (hs := hs) (fun y hy => h y (List.mem_cons_of_mem _ hy))
    obtain ⟨r, g1, g2⟩ := h x List.mem_cons_self
    refine ⟨r :: p, by simp [h1], fun s hs => ?_, fun i y s e1 e2 => ?_⟩
    · rcases List.mem_cons.1 hs with rfl | hs
      · exact g2
      · exact h2 s hs
    · cases i with
      | zero => cases e1; cases e2; exact g1
      | succ i => exact h3 i y s e1 e2
theorem PRows.isP {w : World} {a : Option Addr} {n c : Nat} {hs : List Hd} (h : PRows w hs) (ht : Sl w 1 a n c (hs.map hv)) (hn : n ≤ 10000) : IsP w (.slice a n c) := by
  obtain ⟨p, h1, h2, h3⟩ := h.page
  have h4 := ht.n_eq
  exact ⟨a, n, c, hs, p, rfl, ⟨ht, h1.symm, h3⟩, by omega, h2⟩
theorem IsP.nil (w : World) : IsP w (.slice none 0 0) := ⟨none, 0, 0, [], [], rfl, ⟨Sl.empty _ _, rfl, fun i h r h1 => by cases h1⟩, by simp, by simp⟩
end Go.Proofs.Ytmjkhmebpciopaa
end
