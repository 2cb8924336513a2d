/- The contracts of the functions that the law reaches, joined into one text. -/
import Derived.Test.YtblgmjnkllkhbaaDoorBaseSBaseC
import Derived.MapKept
import Derived.ChangeKeysEq
import Derived.Carry
set_option linter.unusedVariables false
set_option linter.unusedSimpArgs false

/- the text S5 -/
section
/- Chapter 03: the chains of a leaf; leaf. -/
namespace Go.Proofs.YtblgmjnkllkhbaaDoor
open Go.RowKit Go.Dx
theorem sg_adv (i k f z : Int) (hi : 0 ≤ i ∧ i ≤ 9223372036854775807) (hk : 0 ≤ k ∧ k ≤ 1000) (n : Nat) (hf : 0 ≤ f) (hz : z = f + n) (hn : z ≤ 1000) (v0 : List UInt8) (hv0 : v0.length = 16) {D : List UInt8} (hD : advL i k f n v0 = D) (w : World) (hL : Laid w) :
    Calls Tryd.prog 27 #[.int .i64 i, .int .i64 k, .int .i64 f, .int .i64 z, .agg (v0.map B8).toArray] w fun e w' => e = .returned (.agg (D.map B8).toArray) ∧ Below w.heap.size w w' := by
  subst hz
  exact sg_advance i k f hi hk n hf hn v0 hv0 hD w hL
set_option maxRecDepth 100000 in
set_option maxHeartbeats 2000000 in
theorem sg_chain (s : ByteArray) (hs : s.size ≤ 1000) (k c : Int) (hk : 0 ≤ k ∧ k ≤ 9223372036854775807) (hc : 0 ≤ c ∧ c ≤ 1000) (Gk Gs : Nat) {D : List UInt8} (hD : advL k c 0 3 (startL s.data.toList k c) = D) (w : World) (hL : Laid w)
    (xk : Box w Gk 3 [.int .i64 k]) (xs : Box w Gs 9 [.string s]) :
    Calls Tryd.prog 45 #[.int .i64 c, .pointer (some ⟨Gk, 0, none⟩), .pointer (some ⟨Gs, 0, none⟩)] w fun e w' => e = .returned (.agg (D.map B8).toArray) ∧ Below w.heap.size w w' := by
  obtain ⟨Z, hZ⟩ : ∃ Z, Hid (zero16 = Z) := ⟨_, rfl⟩
  have h16 := zero_16
  rw [hZ.out] at h16
  have hZl : Hid (Z.length = 16) := hide (by rw [← hZ.out]; rfl)
  have hL := hide hL
  obtain ⟨V, HV⟩ : ∃ V, Hid (startL s.data.toList k c = V) := ⟨_, rfl⟩
  have hVl : Hid (V.length = 16) := hide (by rw [← HV.out]; exact startL_len _ _ _)
  have HD : Hid (advL k c 0 3 V = D) := hide (by rw [← HV.out]; exact hD)
  have hDl : D.length = 16 := by rw [← HD.out]; exact advL_len _ _ _ _ hVl.out
  have HDl := hide hDl
  have hzD : Hid ((Tryd.prog.info? 23).map (·.size) = some (D.map B8).length) := hide (by rw [List.length_map, hDl]; exact size_dig')
  clear hDl hD
  go_enter Tryd.func45, Tryd.ntmps45
  go_wp2_with fail
  obtain ⟨w1, G1, hw1, e1, x1, b1, l1⟩ := allocs1 w (Z.map B8) 23
  have hL1 := hide (hL.out.below b1)
  have xk := xk.under b1
  have xs := xs.under b1
  rw [← hw1, ← e1]
  have l0 : w.heap.size ≤ G1 := Nat.le_of_eq e1.symm
  clear hw1 e1
  refine wp_region_free 7 [⟨0, 5, [5], fun vs _ => vs = [.int .i64 k]⟩, ⟨1, 6, [6], fun vs _ => vs = [.int .i64 c]⟩, ⟨2, 7, [7], fun vs _ => vs = [.string s]⟩, ⟨3, 8, [8], fun vs _ => vs = [.int .i64 k]⟩, ⟨4, 9, [9], fun vs _ => vs = [.int .i64 c]⟩, ⟨5, 10, [10], fun vs _ => vs = [.agg (V.map B8).toArray]⟩, ⟨6, 11, [11], fun vs _ => vs = [.agg (D.map B8).toArray]⟩] (by kernel_rfl) (by kernel_rfl) ?_ ?_ ?_
  · simp only [All]
    refine ⟨fun _ _ _ _ h => h, fun _ _ _ _ h => h, fun _ _ _ _ h => h, fun _ _ _ _ h => h, fun _ _ _ _ h => h, fun _ _ _ _ h => h, fun _ _ _ _ h => h, trivial⟩
  · simp only [All]
    refine ⟨?_, ?_, ?_, ?_, ?_, ?_, ?_, trivial⟩
    · intro o ho a' w' hb hfr hdep
      obtain rfl := Option.some.inj ho
      have g1 : a'.tmps[1]?.getD undef = .pointer (some ⟨Gk, 0, none⟩) := by have h := hfr 1 (by kernel_rfl); simpa using h
      clear ho hfr hdep
      have hcl := (xk.under hb).at_ (j := 0) rfl
      go_wp2_with fail
      exact ⟨rfl, _, rfl, Below.refl _ _, rfl⟩
    · intro o ho a' w' hb hfr hdep
      obtain rfl := Option.some.inj ho
      have g0 : a'.tmps[0]?.getD undef = .int .i64 c := by have h := hfr 0 (by kernel_rfl); simpa using h
      clear ho hfr hdep
      go_wp2_with fail
      exact ⟨rfl, _, rfl, Below.refl _ _, rfl⟩
    · intro o ho a' w' hb hfr hdep
      obtain rfl := Option.some.inj ho
      have g2 : a'.tmps[2]?.getD undef = .pointer (some ⟨Gs, 0, none⟩) := by have h := hfr 2 (by kernel_rfl); simpa using h
      clear ho hfr hdep
      have hcl := (xs.under hb).at_ (j := 0) rfl
      go_wp2_with fail
      exact ⟨rfl, _, rfl, Below.refl _ _, rfl⟩
    · intro o ho a' w' hb hfr hdep
      obtain rfl := Option.some.inj ho
      have g1 : a'.tmps[1]?.getD undef = .pointer (some ⟨Gk, 0, none⟩) := by have h := hfr 1 (by kernel_rfl); simpa using h
      clear ho hfr hdep
      have hcl := (xk.under hb).at_ (j := 0) rfl
      go_wp2_with fail
      exact ⟨rfl, _, rfl, Below.refl _ _, rfl⟩
    · intro o ho a' w' hb hfr hdep
      obtain rfl := Option.some.inj ho
      have g0 : a'.tmps[0]?.getD undef = .int .i64 c := by have h := hfr 0 (by kernel_rfl); simpa using h
      clear ho hfr hdep
      go_wp2_with fail
      exact ⟨rfl, _, rfl, Below.refl _ _, rfl⟩
    · intro o ho a' w' hb hfr hdep
      obtain rfl := Option.some.inj ho
      have g7 : a'.tmps[7]?.getD undef = .string s := by have h := hdep 2 _ rfl (by kernel_rfl); simpa using h
      have g8 : a'.tmps[8]?.getD undef = .int .i64 k := by have h := hdep 3 _ rfl (by kernel_rfl); simpa using h
      have g9 : a'.tmps[9]?.getD undef = .int .i64 c := by have h := hdep 4 _ rfl (by kernel_rfl); simpa using h
      clear ho hfr hdep
      go_wp2_with fail
      refine (sg_start s hs k c hk hc HV.out _ (hL1.out.below hb)).mono ?_
      rintro e w2 ⟨rfl, h2⟩
      go_wp2_with fail
      exact ⟨rfl, _, rfl, h2, rfl⟩
    · intro o ho a' w' hb hfr hdep
      obtain rfl := Option.some.inj ho
      have g5 : a'.tmps[5]?.getD undef = .int .i64 k := by have h := hdep 0 _ rfl (by kernel_rfl); simpa using h
      have g6 : a'.tmps[6]?.getD undef = .int .i64 c := by have h := hdep 1 _ rfl (by kernel_rfl); simpa using h
      have g10 : a'.tmps[10]?.getD undef = .agg (V.map B8).toArray := by have h := hdep 5 _ rfl (by kernel_rfl); simpa using h
      clear ho hfr hdep
      go_wp2_with fail
      refine (sg_adv k c 0 3 hk hc 3 (by omega) (by omega) (by omega) V hVl.out HD.out _ (hL1.out.below hb)).mono ?_
      rintro e w2 ⟨rfl, h2⟩
      go_wp2_with fail
      exact ⟨rfl, _, rfl, h2, rfl⟩
  · intro g w2 hb hp
    have p11 := hp 6 _ rfl
    clear hp
    simp at p11
    simp only [List.drop_succ_cons, List.drop_zero, List.map_cons, List.map_nil, putAll, Act.put, List.setIfInBounds_toArray, List.set_cons_succ, List.set_cons_zero, List.cons_append, List.nil_append, p11]
    refine store_all 23 _ _ 23 G1 (Z.map B8) (D.map B8) (.agg (D.map B8).toArray) hzD.out (x1.under hb) (by rfl) (by rfl) rfl (by rw [List.length_map, HDl.out, List.length_map, hZl.out]) (one_map _ (fun _ => rfl) _) ?_
    intro w3 x9 hgr hsz'
    go_wp2_with fail
    refine bodyPost_ret (run_results_cell rfl rfl isAgg_dig hzD.out x9) rfl ⟨rfl, ?_⟩
    exact (b1.trans (hb.mono b1.size)).grown hgr (Nat.le_trans b1.size hb.size) (fun k hk => by cases hk; omega)
set_option maxRecDepth 100000 in
set_option maxHeartbeats 2000000 in
theorem sg_leaf1 (s : ByteArray) (hs : s.size ≤ 1000) (k : Int) (hk : 0 ≤ k ∧ k ≤ 9223372036854775807) (Gk Gs : Nat) (f : Nat → List UInt8) (hf : ∀ c : Nat, f c = advL k c 0 3 (startL s.data.toList k c)) (hfl : ∀ c, (f c).length = 16) {D : List UInt8} (hD : leafD f = D) (w : World) (hL : Laid w) (xk : Box w Gk 3 [.int .i64 k]) (xs : Box w Gs 9 [.string s]) :
    Calls Tryd.prog 38 #[.func (.func 45) #[] #[.pointer (some ⟨Gk, 0, none⟩), .pointer (some ⟨Gs, 0, none⟩)]] w fun e w' => e = .returned (.agg (D.map B8).toArray) ∧ Below w.heap.size w w' := by
  obtain ⟨Z, hZ⟩ : ∃ Z, Hid (zero16 = Z) := ⟨_, rfl⟩
  have h16 := zero_16
  rw [hZ.out] at h16
  have hZl : Hid (Z.length = 16) := hide (by rw [← hZ.out]; rfl)
  have hL := hide hL
  obtain ⟨R, HR⟩ : ∃ R, Hid (ofD 3 [catL f 68] = R) := ⟨_, rfl⟩
  have hRl : R.length = 16 := by rw [← HR.out]; exact ofD_len _ _
  have HRl := hide hRl
  have HD : Hid (ofD 1 [R] = D) := hide (by rw [← HR.out]; exact hD)
  have hDl : D.length = 16 := by rw [← HD.out]; exact ofD_len _ _
  have HDl := hide hDl
  have HFL := hide hfl
  have HF := hide hf
  have hcl := hide (catL_len hfl)
  have hzD : Hid ((Tryd.prog.info? 23).map (·.size) = some (D.map B8).length) := hide (by rw [List.length_map, hDl]; exact size_dig')
  have hzR : Hid ((Tryd.prog.info? 23).map (·.size) = some (R.map B8).length) := hide (by rw [List.length_map, hRl]; exact size_dig')
  clear hDl hD hRl hfl hf
  go_enter Tryd.func38, Tryd.ntmps38
  go_wp2_with fail
  obtain ⟨w1, G1, G2, hw1, e1, e2, x1, x2, b1, l1, l2⟩ := allocs2 w (Z.map B8) [.pointer none, .slice none 0 0] 23 54
  have hB0 : Lib.IsBuilder 54 5 G2 G2 (([] : List UInt8).map B8) w1 := .inl ⟨Nat.le_refl _, .slice none 0 0, x2, World.ownsRow_nil _ _ _ _, by simp [Value.ownBlock]⟩
  rw [← e2, ← hw1, ← e1]
  have l0 : w.heap.size ≤ G1 := Nat.le_of_eq e1.symm
  have lk := xk.lt
  have xk := xk.under b1
  have ls := xs.lt
  have xs := xs.under b1
  clear hw1 e1 e2 x2
  go_loopg [7] 68 (fun gh v w' => ∃ k' : Nat, k' ≤ 68 ∧ gh = 68 - k' ∧ v = .int .i64 (k' : Int) ∧ Lib.IsBuilder 54 5 G2 G2 ((catL f k').map B8) w' ∧ Below G2 w1 w')
  case atStart => exact ⟨0, by omega, by omega, rfl, hB0, Below.refl _ _⟩
  case round =>
    clear hB0
    obtain ⟨k', hk', hg, rfl, hB, b⟩ := hrel
    have HG := hide hg
    clear hg
    have x1 := x1.below b l1
    have hbw := b1.trans (b.mono (by omega))
    have xk := xk.below b (by omega)
    have xs := xs.below b (by omega)
    by_cases hlt : k' < 68
    · have hL2 : Hid (Laid wr) := hide (hL.out.below hbw)
      obtain ⟨V, HV⟩ : ∃ V, Hid (f k' = V) := ⟨_, rfl⟩
      have hVl : Hid (V.length = 16) := hide (by rw [← HV.out]; exact HFL.out _)
      have hzV : Hid ((Tryd.prog.info? 23).map (·.size) = some (V.map B8).length) := hide (by rw [List.length_map, hVl.out]; exact size_dig')
      have d0 : decide ((k' : Int) < 68) = true := decide_eq_true (by omega)
      go_wp2_with fail
      refine (sg_chain s hs k k' hk (by omega) Gk Gs (D := V) (by rw [← HV.out, HF.out]) _ hL2.out xk xs).mono ?_
      rintro e w2 ⟨rfl, h2⟩
      have hz2 := h2.size
      have hB2 : Lib.IsBuilder 54 5 G2 G2 ((catL f k').map B8) w2 := builder_below hB h2
      have b2 := b.trans (h2.mono (by have := b.size; omega))
      clear h2 hB b
      go_wp2_with (with_reducible refine hold_store ?_)
      refine hide ?_
      refine store_all 23 _ _ 23 w2.heap.size (Z.map B8) (V.map B8) (.agg (V.map B8).toArray) hzV.out (Box.new w2 _ _) (by rfl) (by rfl) rfl (by rw [List.length_map, hVl.out, List.length_map, hZl.out]) (one_map _ (fun _ => rfl) _) ?_
      intro w3 x5 hgr hsz'
      have h3 : Below w2.heap.size w2 w3 := (sblo w2 _).grown hgr (by simp) (fun k hk => by cases hk; exact Nat.le_refl _)
      have hB3 := builder_below hB2 h3
      have hG2 : G2 < w2.heap.size := builder_lt hB2
      have b3 := b2.trans (h3.mono (by omega))
      generalize w2.heap.size = G5 at *
      clear hgr hsz' h3 hB2 b2
      have s5 := x5.dig hVl.out
      have hml : ((catL f k').map B8).length = k' * 16 := by rw [List.length_map]; exact hcl.out k'
      go_wp2_with (first
        | (with_reducible refine cut_var 13 23 5 16 _ none none Tryd.underlying23 size_u8 G5 0 rfl 0 16 (.inl ⟨rfl, rfl⟩) (.inl ⟨rfl, rfl⟩) (by omega) (by omega) (by omega) ?_))
      refine (sb_Write_n G2 G2 _ V 16 hVl.out G5 0 _ _ hB3 (by omega) s5 (by rw [hml]; omega) (by have := builder_lt hB3; omega)).mono ?_
      rintro e w4 ⟨rfl, hB4, h4, hk4⟩
      have b4 := b3.trans h4
      clear hk4 h4 hB3 b3 s5 x5
      go_wp2_with fail
      go_roundg (68 - (k' + 1))
      case measure => have := HG.out; omega
      case rel => exact ⟨k' + 1, by omega, rfl, by go_num, by rw [catL, List.map_append, HV.out]; exact .inr hB4, b4⟩
    · obtain rfl : k' = 68 := by omega
      have hL2 : Hid (Laid wr) := hide (hL.out.below hbw)
      obtain ⟨C, hC⟩ : ∃ C, Hid (catL f 68 = C) := ⟨_, rfl⟩
      have hCl : C.length = 1088 := by rw [← hC.out, hcl.out]
      rw [hC.out] at hB
      have HR2 : Hid (ofD 3 [C] = R) := hide (by rw [← hC.out]; exact HR.out)
      have hsz3 : Hid (∀ s ∈ [byB C], s.size ≤ 10000) := hide (by intro s hs; simp at hs; subst hs; rw [byB_size]; omega)
      have hsz1 : Hid (∀ s ∈ [byB R], s.size ≤ 10000) := hide (by intro s hs; simp at hs; subst hs; rw [byB_size, HRl.out]; omega)
      have d0 : decide ((68 : Int) < 68) = false := by decide
      clear hCl
      go_wp2_with fail
      refine (Tryd.Builder_String_any G2 G2 C _ hB (by have := builder_lt hB; omega)).mono ?_
      rintro e w2 ⟨rfl, h2⟩
      have x1 := x1.below h2 l1
      have b2 := b1.trans ((b.trans h2).mono (by omega))
      clear h2 b hbw hB
      go_wp2_with fail
      have s3 : Sl (w2.alloc (.cells #[.string (byB C)] 9)) 1 (some ⟨w2.heap.size, 0, none⟩) 1 1 ([byB C].map Value.string) := Sl.fresh w2 9 1 1 ([byB C].map Value.string) rfl (by decide)
      have x1 := x1.alloc (.cells #[.string (byB C)] 9)
      have b3 := blo3 b2 (Nat.le_refl _) (.cells #[.string (byB C)] 9)
      refine (of_at HR2.out (by simp) hsz3.out (hL.out.below b3) s3).mono ?_
      rintro e w4 ⟨rfl, h4⟩
      have x1 := x1.under h4
      have b4 := b3.trans (h4.mono b3.size)
      clear h4 b3 b2 s3
      go_wp2_with (with_reducible refine hold_store ?_)
      refine hide ?_
      refine store_all 23 _ _ 23 w4.heap.size (Z.map B8) (R.map B8) (.agg (R.map B8).toArray) hzR.out (Box.new w4 _ _) (by rfl) (by rfl) rfl (by rw [List.length_map, HRl.out, List.length_map, hZl.out]) (one_map _ (fun _ => rfl) _) ?_
      intro w5 x5 hgr hsz'
      have h5 : Below w4.heap.size w4 w5 := (sblo w4 _).grown hgr (by simp) (fun k hk => by cases hk; exact Nat.le_refl _)
      have x1 := x1.under h5
      have b5 := b4.trans (h5.mono b4.size)
      generalize w4.heap.size = G5 at *
      clear hgr hsz' h5 b4
      have s5 := x5.dig HRl.out
      go_wp2_with (first
        | (with_reducible refine cut_var 19 23 5 16 _ none none Tryd.underlying23 size_u8 G5 0 rfl 0 16 (.inl ⟨rfl, rfl⟩) (.inl ⟨rfl, rfl⟩) (by omega) (by omega) (by omega) ?_)
        | (with_reducible refine to_str 20 _ _ _ _ R rfl s5 ?_))
      have s6 : Sl (w5.alloc (.cells #[.string (byB R)] 9)) 1 (some ⟨w5.heap.size, 0, none⟩) 1 1 ([byB R].map Value.string) := Sl.fresh w5 9 1 1 ([byB R].map Value.string) rfl (by decide)
      have x1 := x1.alloc (.cells #[.string (byB R)] 9)
      have b6 := blo3 b5 (Nat.le_refl _) (.cells #[.string (byB R)] 9)
      refine (of_at HD.out (by simp) hsz1.out (hL.out.below b6) s6).mono ?_
      rintro e w7 ⟨rfl, h7⟩
      have x1 := x1.under h7
      have b7 := b6.trans (h7.mono b6.size)
      clear h7 b6 b5 s6 s5 x5
      go_wp2_with (with_reducible refine hold_store ?_)
      refine hide ?_
      refine store_all 23 _ _ 23 G1 (Z.map B8) (D.map B8) (.agg (D.map B8).toArray) hzD.out x1 (by rfl) (by rfl) rfl (by rw [List.length_map, HDl.out, List.length_map, hZl.out]) (one_map _ (fun _ => rfl) _) ?_
      intro w8 x9 hgr hsz'
      go_wp2_with fail
      refine bodyPost_ret (run_results_cell rfl rfl isAgg_dig hzD.out x9) rfl ⟨rfl, ?_⟩
      exact b7.grown hgr b7.size (fun k hk => by cases hk; omega)
end Go.Proofs.YtblgmjnkllkhbaaDoor
end

/- the text SMap -/
section
/- A map that the call makes, whose keys are pairs of numbers ([2]int): every element is what a function of the key says. No program in sight. -/
set_option linter.unusedSimpArgs false
set_option linter.unusedVariables false
namespace Go.Dx
open Go.RowKit

abbrev kV (l k : Int) : Value := .agg #[.int .i64 l, .int .i64 k]
/-- the key type is an array of two ints -/
structure PairKey (P : Program) (K : TypeId) : Prop where
  ex : ∃ (e : TypeId) (i : TypeInfo), P.underlying K = some (.array 2 e) ∧ P.info? e = some i ∧ P.underlying e = some (.int .i64) ∧ P.cellsOf e = 1 ∧ i.size = 1
theorem part_pair {P : Program} {w : World} {e : TypeId} (hd : P.underlying e = some (.int .i64)) (xs : Array Value) (off : Nat) (v : Value) (hx : xs[off]? = some v) : (part e xs off).run P w = .ok v w := by
  simp [part, isAgg, run_underlying hd, hx]
theorem pair_eq {P : Program} {K : TypeId} (h : PairKey P K) (w : World) (a b c d : Int) : (Op.equal K (kV a b) (kV c d)).run P w = .ok (a == c && b == d) w := by
  obtain ⟨e, i, hu, hi, he, h1, _⟩ := h.ex
  have hrun := run_equalIn_array (w := w) (P := P) 9999 #[.int .i64 a, .int .i64 b] #[.int .i64 c, .int .i64 d] hu hi
  rw [h1] at hrun
  have e1 := part_pair (w := w) he #[.int .i64 a, .int .i64 b] 0 (.int .i64 a) rfl
  have e2 := part_pair (w := w) he #[.int .i64 a, .int .i64 b] 1 (.int .i64 b) rfl
  have e3 := part_pair (w := w) he #[.int .i64 c, .int .i64 d] 0 (.int .i64 c) rfl
  have e4 := part_pair (w := w) he #[.int .i64 c, .int .i64 d] 1 (.int .i64 d) rfl
  have q1 := run_equalIn_int w (P := P) 9998 e .i64 .i64 a c he
  have q2 := run_equalIn_int w (P := P) 9998 e .i64 .i64 b d he
  show (Op.equalIn 10000 K (kV a b) (kV c d)).run P w = _
  rw [hrun]
  have hr : List.range 2 = [0, 1] := rfl
  rw [hr]
  simp only [Op.eqItems, Nat.zero_mul, Nat.one_mul, e1, e2, e3, e4, Sem.run_bind, Result.andThen_ok]
  simp only [show (9999 : Nat) = 9998 + 1 from rfl, q1, q2, Result.andThen_ok]
  cases h1 : (a == c)
  · simp
  · have q2' : (Op.equalIn 9999 e (.int .i64 b) (.int .i64 d)).run P w = .ok (b == d) w := q2
    cases h2 : (b == d) <;> simp [e2, e4, q2', h2]
theorem pair_key {P : Program} {K : TypeId} (h : PairKey P K) (w : World) (m : Bool) (a b : Int) : (Instr.checkKey m 10000 K (kV a b)).run P w = .ok () w := by
  obtain ⟨e, i, hu, hi, he, h1, hs⟩ := h.ex
  have e1 := part_pair (w := w) he #[.int .i64 a, .int .i64 b] 0 (.int .i64 a) rfl
  have e2 := part_pair (w := w) he #[.int .i64 a, .int .i64 b] 1 (.int .i64 b) rfl
  have c1 : ∀ k x, (Instr.checkKey m (k + 1) e (.int .i64 x)).run P w = .ok () w := fun k x => by simp [Instr.checkKey, run_underlying he]
  have key : ∀ k, (Instr.checkKey m (k + 2) K (kV a b)).run P w = .ok () w := fun k => by
    rw [Instr.checkKey]
    simp [run_underlying hu, e1, e2, c1, sizeOf, typeInfo, hi, hs, Std.Legacy.Range.forIn_eq_forIn_range', Std.Legacy.Range.size, List.range']
  exact key 9998
/-- a map from pairs that the call has made, every element what g says -/
structure MMap (w : World) (b : Nat) (g : Int → Int → List UInt8) : Prop where
  ex : ∃ es clock, w.heap[b]? = some (.map es clock) ∧ ∀ e ∈ es.toList, ∃ l k, e.key = kV l k ∧ e.val = .agg ((g l k).map B8).toArray
theorem MMap.new (w : World) (g : Int → Int → List UInt8) : MMap (w.alloc (.map #[] 0)) w.heap.size g := ⟨#[], 0, heap_alloc_new w _, fun e he => by simp at he⟩
theorem MMap.lt {w : World} {b : Nat} {g : Int → Int → List UInt8} (h : MMap w b g) : b < w.heap.size := by
  obtain ⟨es, clock, hb, _⟩ := h.ex
  exact (Array.getElem?_eq_some_iff.1 hb).1
theorem MMap.below {B : Nat} {w w' : World} {b : Nat} {g : Int → Int → List UInt8} (h : MMap w b g) (hg : Below B w w') (hB : b < B) : MMap w' b g := by
  obtain ⟨es, clock, hb, he⟩ := h.ex
  exact ⟨es, clock, (hg.block b hB).trans hb, he⟩
theorem MMap.grown {w w' : World} {row : Option Nat} {b : Nat} {g : Int → Int → List UInt8} (h : MMap w b g) (hg : w.grownBy w' row) (hne : some b ≠ row) : MMap w' b g := by
  have hlt := h.lt
  obtain ⟨es, clock, hb, he⟩ := h.ex
  exact ⟨es, clock, (hg.block b hlt hne).trans hb, he⟩
theorem find_pairs {P : Program} {K : TypeId} (h : PairKey P K) (w : World) (a b : Int) : ∀ (es : List MapEntry) (i : Nat), (∀ e ∈ es, ∃ l k, e.key = kV l k) →
    ∃ r, (Instr.findAsking K (kV a b) es i).run P w = .ok r w ∧ ∀ q, r = some q → ∃ j e, q.1 = i + j ∧ es[j]? = some e ∧ e.key = kV a b ∧ q.2 = e.val := by
  intro es
  induction es with
  | nil => intro i _; exact ⟨none, by simp [Instr.findAsking], fun q hq => by cases hq⟩
  | cons e es ih =>
    intro i he
    obtain ⟨l, k, hk⟩ := he e List.mem_cons_self
    have hq := pair_eq h w a b l k
    cases hc : (a == l && b == k)
    · obtain ⟨r, hr, hr2⟩ := ih (i + 1) (fun e' h' => he e' (List.mem_cons_of_mem _ h'))
      refine ⟨r, ?_, fun q hq' => ?_⟩
      · rw [hc] at hq
        simp only [Instr.findAsking, hk, Sem.run_bind, hq, Result.andThen_ok, Bool.false_eq_true, if_false]
        exact hr
      · obtain ⟨j, e', h1, h2, h3⟩ := hr2 q hq'
        exact ⟨j + 1, e', by omega, by simpa using h2, h3⟩
    · refine ⟨some (i, e.val), ?_, fun q hq' => ?_⟩
      · rw [hc] at hq
        simp only [Instr.findAsking, hk, Sem.run_bind, hq, Result.andThen_ok, if_true, Sem.run_pure]
      · cases hq'
        simp only [Bool.and_eq_true, beq_iff_eq] at hc
        exact ⟨0, e, rfl, rfl, by rw [hk, hc.1, hc.2], rfl⟩
theorem find_pair {P : Program} {K : TypeId} (h : PairKey P K) (w : World) (a b : Int) (es : List MapEntry) (he : ∀ e ∈ es, ∃ l k, e.key = kV l k) :
    ∃ r, (Instr.findKey K (kV a b) es).run P w = .ok r w ∧ ∀ q, r = some q → ∃ e, es[q.1]? = some e ∧ e.key = kV a b ∧ q.2 = e.val := by
  obtain ⟨t, i, hu, _⟩ := h.ex
  cases es with
  | nil => exact ⟨none, by simp [Instr.findKey, run_underlying hu, Instr.findNow], fun q hq => by cases hq⟩
  | cons e es =>
    obtain ⟨r, hr, hr2⟩ := find_pairs h w a b (e :: es) 0 he
    refine ⟨r, ?_, fun q hq => ?_⟩
    · obtain ⟨l, k, hk⟩ := he e List.mem_cons_self
      have hf : Instr.findNow (.array 2 t) (kV a b) (e :: es) 0 = none := by
        simp [Instr.findNow, hk, Instr.sameNow]
      simp only [Instr.findKey, Sem.run_bind, run_underlying hu, Result.andThen_ok, hf]
      exact hr
    · obtain ⟨j, e', h1, h2, h3⟩ := hr2 q hq
      exact ⟨e', by rw [h1, Nat.zero_add]; exact h2, h3⟩
section
variable {P : Program} {w : World} {ops : Array Oper} {rest : List Oper} {o : Oper} {a : Act} {Q : Exit → Act → World → Prop}
/-- 'v, ok := m[k]' -/
theorem look_pair {K : TypeId} (hK0 : PairKey P K) (hg : o.guard = none) (m x : Operand) (t e : TypeId) (hop : o.op = Op.lookup t m x true) (ht : P.underlying t = some (.map K e))
    (z : Value) (hz : ∀ w, (zeroValue e).run P w = .ok z w) (b : Nat) (g : Int → Int → List UInt8) (hm : a.eval m = .map (some b)) (hown : MMap w b g) (l k : Int) (hx : a.eval x = kV l k)
    (hK : ∀ v ok, (ok = true ∧ v = .agg ((g l k).map B8).toArray ∨ ok = false ∧ v = z) → wpList P ops Q rest (a.put o.dst (.tuple #[v, .bool ok])) w) : wpList P ops Q (o :: rest) a w := by
  refine wpList_plain hg fun K' hK' => ?_
  obtain ⟨es, clock, hb, he⟩ := hown.ex
  obtain ⟨r, hr, hr2⟩ := find_pair hK0 w l k es.toList (fun e h => by obtain ⟨l, k, h, _⟩ := he e h; exact ⟨l, k, h⟩)
  have hck := pair_key hK0 w es.isEmpty l k
  cases r with
  | none =>
    have hrun : (Instr.lookup t (.map (some b)) (kV l k) true).run P w = .ok (.tuple #[z, .bool false]) w := by
      simp [Instr.lookup, run_underlying ht, MapKept.run_getObj_map hb, hck, hr, hz]
    unfold Oper.wp
    simp [execOp, hop, hm, hx, hrun, Result.andThen]
    exact hK' _ _ (hK _ _ (.inr ⟨rfl, rfl⟩))
  | some q =>
    obtain ⟨e', h1, h2, h3⟩ := hr2 q rfl
    obtain ⟨l', k', h4, h5⟩ := he e' (List.mem_of_getElem? h1)
    rw [h2] at h4
    injection h4 with h4
    simp at h4
    obtain ⟨rfl, rfl⟩ := h4
    have hrun : (Instr.lookup t (.map (some b)) (kV l k) true).run P w = .ok (.tuple #[.agg ((g l k).map B8).toArray, .bool true]) w := by
      obtain ⟨q1, q2⟩ := q
      simp only at h3
      rw [h5] at h3
      subst h3
      simp [Instr.lookup, run_underlying ht, MapKept.run_getObj_map hb, hck, hr]
    unfold Oper.wp
    simp [execOp, hop, hm, hx, hrun, Result.andThen]
    exact hK' _ _ (hK _ _ (.inl ⟨rfl, rfl⟩))
/-- 'm[k] = v' -/
theorem put_pair {K : TypeId} (hK0 : PairKey P K) (hg : o.guard = none) (m x v : Operand) (t e : TypeId) (hop : o.op = Op.mapUpdate t m x v) (ht : P.underlying t = some (.map K e))
    (b : Nat) (g : Int → Int → List UInt8) (hm : a.eval m = .map (some b)) (hown : MMap w b g) (l k : Int) (hx : a.eval x = kV l k) (hv : a.eval v = .agg ((g l k).map B8).toArray)
    (hK : ∀ w', MMap w' b g → w.grownBy w' (some b) → w'.heap.size = w.heap.size → wpList P ops Q rest (a.put o.dst undef) w') : wpList P ops Q (o :: rest) a w := by
  refine wpList_plain hg fun K' hK' => ?_
  obtain ⟨es, clock, hb, he⟩ := hown.ex
  obtain ⟨r, hr, hr2⟩ := find_pair hK0 w l k es.toList (fun e h => by obtain ⟨l, k, h, _⟩ := he e h; exact ⟨l, k, h⟩)
  have hck := pair_key hK0 w false l k
  have hlt := hown.lt
  have main : ∃ es' clock', (Instr.mapUpdate t (.map (some b)) (kV l k) (.agg ((g l k).map B8).toArray)).run P w = .ok () { w with heap := w.heap.setIfInBounds b (.map es' clock') } ∧ ∀ e ∈ es'.toList, ∃ l k, e.key = kV l k ∧ e.val = .agg ((g l k).map B8).toArray := by
    cases r with
    | none =>
      refine ⟨es.push { key := kV l k, val := .agg ((g l k).map B8).toArray, born := clock }, clock + 1, by simp [Instr.mapUpdate, run_underlying ht, MapKept.run_getObj_map hb, MapKept.run_setObj_map _ hb, hck, hr], ?_⟩
      intro e' he'
      rw [Array.toList_push, List.mem_append] at he'
      rcases he' with he' | he'
      · exact he e' he'
      · simp at he'; subst he'; exact ⟨l, k, rfl, rfl⟩
    | some q =>
      obtain ⟨q1, q2⟩ := q
      obtain ⟨e', h1, h2, h3⟩ := hr2 _ rfl
      have h1' : es[q1]? = some e' := by simpa using h1
      have hsb : Instr.sameBits 10000 (kV l k) (kV l k) = true := by
        show Instr.sameBits (9999 + 1) _ _ = true
        simp [Instr.sameBits]
      refine ⟨es.modify q1 fun e => { e with key := kV l k, val := .agg ((g l k).map B8).toArray }, clock, by simp [Instr.mapUpdate, run_underlying ht, MapKept.run_getObj_map hb, MapKept.run_setObj_map _ hb, hck, hr, h1', h2, Instr.keyThatStays, hsb], ?_⟩
      intro e2 he2
      obtain ⟨j, hj⟩ := List.mem_iff_getElem?.1 he2
      rw [Array.getElem?_toList, Array.getElem?_modify] at hj
      by_cases hjq : q1 = j
      · rw [if_pos hjq] at hj
        subst hjq
        rw [h1'] at hj
        simp at hj
        subst hj
        exact ⟨l, k, rfl, rfl⟩
      · rw [if_neg hjq] at hj
        exact he e2 (List.mem_iff_getElem?.2 ⟨j, by rw [Array.getElem?_toList]; exact hj⟩)
  obtain ⟨es', clock', hrun, he'⟩ := main
  obtain ⟨w', hw'⟩ : ∃ w', w' = { w with heap := w.heap.setIfInBounds b (.map es' clock') } := ⟨_, rfl⟩
  rw [← hw'] at hrun
  unfold Oper.wp
  simp [execOp, hop, hm, hx, hv, hrun, Result.andThen]
  refine hK' _ _ (hK w' ?_ ?_ ?_)
  · exact ⟨es', clock', by rw [hw']; simp [Array.getElem?_setIfInBounds, hlt], he'⟩
  · rw [hw']
    refine ⟨rfl, rfl, rfl, by simp, fun k hk hne => ?_⟩
    simp only [Array.getElem?_setIfInBounds]
    rw [if_neg (fun e => hne (by rw [e]))]
  · rw [hw']; simp
end
end Go.Dx
end

/- the text Free2 -/
section
/- A region that draws its order, in whose head one operation (an append, a store) changes what lies there: TP. What it waits for (TE) comes before it; what may come at any time (TL) leaves the world as it is. No program in sight. -/
set_option linter.unusedVariables false
namespace Go.Dx
open Go.RowKit

theorem grown_of_below {w w' : World} (h : Below w.heap.size w w') (row : Option Nat) : w.grownBy w' row := ⟨h.os, h.tape, h.output, h.size, fun k hk _ => h.block k hk⟩
theorem grown_trans {a b c : World} {row : Option Nat} (h : a.grownBy b row) (k : b.grownBy c row) : a.grownBy c row :=
  ⟨k.os.trans h.os, k.tape.trans h.tape, k.output.trans h.output, Nat.le_trans h.size k.size, fun i hi hr => (k.block i (Nat.lt_of_lt_of_le hi h.size) hr).trans (h.block i hi hr)⟩
/-- what an operation leaves that does not touch the world -/
def OneStill (d : Nat) (a : Act) (w : World) (R : Value → World → Prop) (e : Exit) (a' : Act) (w' : World) : Prop := e = .normal ∧ ∃ v, a' = a.put (some d) v ∧ w' = w ∧ R v w'
def OneTurn (d : Nat) (a : Act) (R : Value → World → Prop) (e : Exit) (a' : Act) (w' : World) : Prop := e = .normal ∧ ∃ v, a' = a.put (some d) v ∧ R v w'

structure MidInv (l : List Oper) (n p : Nat) (T : List HOp) (a0 : Act) (w0 : World) (G : World → Prop) (listed : Array Bool) (a : Act) (w : World) : Prop where
  inv : HeadInv .any l.toArray n listed
  defers : a.defers = a0.defers
  size : a.tmps.size = a0.tmps.size
  frame : ∀ k, (∀ t ∈ T, t.d ≠ k) → a.tmps.getD k undef = a0.tmps.getD k undef
  pre : listed.getD p false = false → Below w0.heap.size w0 w
  post : listed.getD p false = true → G w
  facts : ∀ t ∈ T, listed.getD t.i false = true → t.fact a w

section
variable {P : Program}
theorem wp_region_mid {id : Nat} {Q : Exit → Act → World → Prop} {a0 : Act} {w0 : World} {l : List Oper} (n : Nat) (L G : World → Prop) (TP : HOp) (TE TL : List HOp) (hm : P.follows .mixedOrders = true)
    (hB : (headOk l n ((TP :: (TE ++ TL)).map fun t => (t.i, t.d, t.s)) a0.tmps.size && (TE.all fun t => Region.waitsFor .any l.toArray TP.i t.i && t.i != TP.i)) = true)
    (hL1 : ∀ w, Below w0.heap.size w0 w → L w) (hL2 : ∀ w, G w → L w)
    (hmono : All (fun t : HOp => ∀ vs w w', Below w.heap.size w w' → t.p vs w → t.p vs w') (TE ++ TL))
    (hopP : ∀ o, l[TP.i]? = some o → ∀ (a : Act) (w : World), Below w0.heap.size w0 w →
      (∀ k, ((TP :: (TE ++ TL)).map (·.d)).contains k = false → a.tmps.getD k undef = a0.tmps.getD k undef) →
      (∀ (k : Nat) (u : HOp), (TP :: (TE ++ TL))[k]? = some u → Region.waitsFor .any l.toArray TP.i u.i = true → u.p (u.s.map fun k => a.tmps.getD k undef) w) →
      wpList P l.toArray (OneTurn TP.d a fun v w' => TP.p (TP.s.map fun k => if TP.d = k then v else a.tmps.getD k undef) w' ∧ G w' ∧ All (fun u : HOp => ∀ vs, u.p vs w → u.p vs w') (TE ++ TL)) [o] a w)
    (hopE : All (fun t : HOp => ∀ o, l[t.i]? = some o → ∀ (a : Act) (w : World), Below w0.heap.size w0 w →
      (∀ k, ((TP :: (TE ++ TL)).map (·.d)).contains k = false → a.tmps.getD k undef = a0.tmps.getD k undef) →
      (∀ (k : Nat) (u : HOp), (TP :: (TE ++ TL))[k]? = some u → Region.waitsFor .any l.toArray t.i u.i = true → u.p (u.s.map fun k => a.tmps.getD k undef) w) →
      wpList P l.toArray (OneDone t.d a w fun v w' => t.p (t.s.map fun k => if t.d = k then v else a.tmps.getD k undef) w') [o] a w) TE)
    (hopL : All (fun t : HOp => ∀ o, l[t.i]? = some o → ∀ (a : Act) (w : World), L w →
      (∀ k, ((TP :: (TE ++ TL)).map (·.d)).contains k = false → a.tmps.getD k undef = a0.tmps.getD k undef) →
      (∀ (k : Nat) (u : HOp), (TP :: (TE ++ TL))[k]? = some u → Region.waitsFor .any l.toArray t.i u.i = true → u.p (u.s.map fun k => a.tmps.getD k undef) w) →
      wpList P l.toArray (OneStill t.d a w fun v w' => t.p (t.s.map fun k => if t.d = k then v else a.tmps.getD k undef) w') [o] a w) TL)
    (hend : ∀ (g : Nat → Value) (w : World), G w → (∀ (k : Nat) (u : HOp), (TP :: (TE ++ TL))[k]? = some u → u.p (u.s.map fun k => if k ∈ (TP :: (TE ++ TL)).map (·.d) then g k else a0.tmps.getD k undef) w) →
      wpList P l.toArray Q (l.drop n) (putAll a0 (((TP :: (TE ++ TL)).map (·.d)).map fun d => (d, g d))) w) : (Code.region id l.toArray true).wp P Q a0 w0 := by
  obtain ⟨T, hTdef⟩ : ∃ T, TP :: (TE ++ TL) = T := ⟨_, rfl⟩
  have memP : TP ∈ T := by rw [← hTdef]; exact List.mem_cons_self
  have split : ∀ t ∈ T, t = TP ∨ t ∈ TE ∨ t ∈ TL := by
    intro t ht
    rw [← hTdef] at ht
    rcases List.mem_cons.1 ht with h | h
    · exact .inl h
    · exact .inr (List.mem_append.1 h)
  have rest : ∀ t ∈ T, t ≠ TP → t ∈ TE ++ TL := by
    intro t ht hne
    rw [← hTdef] at ht
    rcases List.mem_cons.1 ht with h | h
    · exact absurd h hne
    · exact h
  rw [hTdef] at hB hopP hopE hopL hend
  rw [Bool.and_eq_true] at hB
  obtain ⟨hB, hE⟩ := hB
  have hE1 : ∀ t ∈ TE, Region.waitsFor .any l.toArray TP.i t.i = true ∧ t.i ≠ TP.i := by
    intro t ht
    have := List.all_eq_true.1 hE t ht
    simpa using this
  simp only [headOk, Bool.and_eq_true, decide_eq_true_eq] at hB
  obtain ⟨⟨⟨⟨⟨⟨⟨hnd, hn⟩, hs⟩, hc⟩, hseq⟩, hcov⟩, hT⟩, hpair⟩ := hB
  have hnodup : ∀ t ∈ T, ∀ u ∈ T, t.i = u.i → t = u := inj_nodup (·.i) T (by rw [List.map_map] at hnd; exact hnd)
  have hn' : n < l.toArray.size := by simpa using hn
  have cover : ∀ j, j < n → ∃ t ∈ T, t.i = j := by
    intro j hj
    have h := List.all_eq_true.1 hcov j (List.mem_range.2 hj)
    obtain ⟨x, hx, he⟩ := List.any_eq_true.1 h
    obtain ⟨t, ht, rfl⟩ := List.mem_map.1 hx
    exact ⟨t, ht, by simpa using he⟩
  have own : ∀ t ∈ T, t.i < n ∧ t.d < a0.tmps.size ∧ ∃ o, l[t.i]? = some o ∧ o.dst = some t.d ∧ ∀ e ∈ o.after, Region.binds .any e = true → e.on < t.i := by
    intro t ht
    have h := List.all_eq_true.1 hT _ (List.mem_map.2 ⟨t, ht, rfl⟩)
    simp only [Bool.and_eq_true, decide_eq_true_eq] at h
    obtain ⟨⟨h1, h2⟩, h3⟩ := h
    refine ⟨h1, h2, ?_⟩
    cases ho : l[t.i]? with
    | none => rw [ho] at h3; cases h3
    | some o =>
      rw [ho] at h3
      simp only [Bool.and_eq_true, beq_iff_eq] at h3
      refine ⟨o, rfl, h3.1, fun e he hb => ?_⟩
      have := Array.all_eq_true_iff_forall_mem.1 h3.2 e he
      simpa [hb] using this
  have pair : ∀ t ∈ T, ∀ u ∈ T, t.i ≠ u.i → t.d ≠ u.d ∧ (t.d ∈ u.s → Region.waitsFor .any l.toArray u.i t.i = true) := by
    intro t ht u hu hne
    have h := List.all_eq_true.1 (List.all_eq_true.1 hpair _ (List.mem_map.2 ⟨t, ht, rfl⟩)) _ (List.mem_map.2 ⟨u, hu, rfl⟩)
    simp only [Bool.or_eq_true, beq_iff_eq, hne, false_or, Bool.and_eq_true, bne_iff_ne, ne_eq, Bool.not_eq_true'] at h
    refine ⟨h.1, fun hin => ?_⟩
    rcases h.2 with h2 | h2
    · have : u.s.contains t.d = true := by simpa using hin
      rw [this] at h2; cases h2
    · exact h2
  have key : ∀ (f : Nat) (listed : Array Bool) (a : Act) (w : World), MidInv l n TP.i T a0 w0 G listed a w → todo listed n = f → wpAny P .any l.toArray Q (f + (l.length - n)) listed a w := by
    intro f
    induction f with
    | zero =>
      intro listed a w I h0
      have hall : ∀ j, j < n → listed.getD j true = true := by
        intro j hj
        cases hb : listed.getD j true with
        | true => rfl
        | false =>
          have : j ∈ (List.range n).filter fun j => !listed.getD j true := List.mem_filter.2 ⟨List.mem_range.2 hj, by rw [hb]; rfl⟩
          unfold todo at h0
          rw [List.eq_nil_of_length_eq_zero h0] at this
          cases this
      have hlist : listed = (List.replicate n true ++ List.replicate (l.length - n) false).toArray := by
        have hsz := I.inv.size
        apply Array.ext
        · simp at hsz ⊢; omega
        · intro j h1 h2
          by_cases hj : j < n
          · have := hall j hj
            simp [Array.getD, h1] at this
            simp [this, List.getElem_append_left, hj]
          · have := I.inv.tail j (by omega) (by rw [← hsz]; exact h1)
            simp [Array.getD, h1] at this
            simp only [this, List.getElem_toArray]
            rw [List.getElem_append_right (by simp; omega)]
            simp
      have ha : a = putAll a0 ((T.map (·.d)).map fun d => (d, a.tmps.getD d undef)) := by
        have hd : ∀ d ∈ T.map (·.d), d < a0.tmps.size := by
          intro d hd
          obtain ⟨t, ht, rfl⟩ := List.mem_map.1 hd
          exact (own t ht).2.1
        refine act_ext (by rw [putAll_defers]; exact I.defers) (by rw [putAll_size]; exact I.size) (fun k => ?_)
        rw [putAll_get (fun d => a.tmps.getD d undef) _ _ _ hd]
        by_cases h : k ∈ T.map (·.d)
        · rw [if_pos h]
        · rw [if_neg h]
          exact I.frame k (fun t ht e => h (List.mem_map.2 ⟨t, ht, e⟩))
      have hlp : listed.getD TP.i false = true := by
        have := hall TP.i (own TP memP).1
        rcases Nat.lt_or_ge TP.i listed.size with h' | h'
        · simp [h'] at this ⊢; exact this
        · have := I.inv.size; have := (own TP memP).1; omega
      have hfin := hend (fun d => a.tmps.getD d undef) w (I.post hlp) (fun k u hu => by
        have hu' := List.mem_of_getElem? hu
        have h1 := I.facts u hu' (by
          have := hall u.i (own u hu').1
          rcases Nat.lt_or_ge u.i listed.size with h' | h'
          · simp [h'] at this ⊢; exact this
          · have := I.inv.size; have := (own u hu').1; omega)
        unfold HOp.fact at h1
        have e : (u.s.map fun k => if k ∈ T.map (·.d) then a.tmps.getD k undef else a0.tmps.getD k undef) = u.s.map fun k => a.tmps.getD k undef := by
          apply List.map_congr_left
          intro k _
          by_cases h : k ∈ T.map (·.d)
          · rw [if_pos h]
          · rw [if_neg h]
            exact (I.frame k (fun t ht e => h (List.mem_map.2 ⟨t, ht, e⟩))).symm
        rw [e]
        exact h1)
      rw [← ha] at hfin
      rw [Nat.zero_add]
      have hseq' : Region.seqB .any l.toArray (l.drop n).length n listed = true := by rw [hlist, List.length_drop]; exact hseq
      have := wpAny_of_seq (md := .any) (Q' := Q) (l.drop n) n listed a w (fun j => by simp [List.getElem?_drop]) hseq' hfin
      rwa [List.length_drop] at this
    | succ f ih =>
      intro listed a w I hf
      have hex : ∃ j, j < n ∧ listed.getD j true = false := by
        cases hL : (List.range n).filter fun j => !listed.getD j true with
        | nil => unfold todo at hf; rw [hL] at hf; cases hf
        | cons j L =>
          have : j ∈ (List.range n).filter fun j => !listed.getD j true := by rw [hL]; exact List.mem_cons_self
          obtain ⟨h1, h2⟩ := List.mem_filter.1 this
          exact ⟨j, List.mem_range.1 h1, by simpa using h2⟩
      have hready : Region.ready .any l.toArray listed ≠ [] := by
        have hmin : ∀ m j, j ≤ m → j < n → listed.getD j true = false → ∃ i, i ∈ Region.ready .any l.toArray listed := by
          intro m
          induction m with
          | zero =>
            intro j hj hjn hjl
            have hj0 : j = 0 := by omega
            subst hj0
            obtain ⟨t, ht, hti⟩ := cover 0 hjn
            obtain ⟨_, _, o, ho, _, hb⟩ := own t ht
            rw [hti] at ho hb
            exact ⟨0, mem_ready.2 ⟨hjl, o, by simpa using ho, fun e he hbe => absurd (hb e he hbe) (by omega)⟩⟩
          | succ m ihm =>
            intro j hj hjn hjl
            obtain ⟨t, ht, hti⟩ := cover j hjn
            obtain ⟨_, _, o, ho, _, hb⟩ := own t ht
            rw [hti] at ho hb
            by_cases hall : ∀ e ∈ o.after, Region.binds .any e = true → listed.getD e.on false = true
            · exact ⟨j, mem_ready.2 ⟨hjl, o, by simpa using ho, hall⟩⟩
            · simp only [Classical.not_forall] at hall
              obtain ⟨e, he, hbe, hne⟩ := hall
              have hlt := hb e he hbe
              have hes : e.on < listed.size := by rw [I.inv.size]; simp; omega
              exact ihm e.on (by omega) (by omega) (getD_in hes (by simpa using hne))
        obtain ⟨j, hj, hjl⟩ := hex
        obtain ⟨i, hi⟩ := hmin j j (Nat.le_refl _) hj hjl
        intro h
        rw [h] at hi
        cases hi
      rw [show f + 1 + (l.length - n) = (f + (l.length - n)) + 1 by omega]
      refine ⟨fun h => absurd h hready, fun i hi => ?_⟩
      have hin : i < n := by
        rcases Nat.lt_or_ge i n with h | h
        · exact h
        · obtain ⟨j, hj, hjl⟩ := hex
          exact absurd hi (tail_waits hs hc hn' I.inv _ j rfl hj hjl i h)
      obtain ⟨t, ht, hti⟩ := cover i hin
      obtain ⟨_, htd, o, ho, hdst, _⟩ := own t ht
      obtain ⟨hil, oi, hoi, hafter⟩ := mem_ready.1 hi
      have hoo : oi = o := by rw [hti] at ho; exact Option.some.inj (hoi.symm.trans (by simpa using ho))
      subst hoo
      have hframe : ∀ k, (T.map (·.d)).contains k = false → a.tmps.getD k undef = a0.tmps.getD k undef := fun k hk => I.frame k (fun u hu e => by
          have : (T.map (·.d)).contains k = true := by simpa using ⟨u, hu, e⟩
          rw [this] at hk; cases hk)
      have hfacts : ∀ (k : Nat) (u : HOp), T[k]? = some u → Region.waitsFor .any l.toArray t.i u.i = true → u.p (u.s.map fun k => a.tmps.getD k undef) w := fun k u hu hw => by
        have hu' := List.mem_of_getElem? hu
        obtain ⟨oj, hoj, e, he, hb, hon⟩ := Region.waitsFor_spec hw
        have : oj = oi := by rw [hti] at hoj; exact Option.some.inj (hoj.symm.trans hoi)
        subst this
        have h1 := hafter e he hb
        rw [hon] at h1
        exact I.facts u hu' h1
      have step0 : ∀ (v : Value) (w' : World), (t.i ≠ TP.i → (listed.getD TP.i false = false → Below w0.heap.size w0 w') ∧ (listed.getD TP.i false = true → G w')) → (t.i = TP.i → G w') →
          (∀ u ∈ T, u ≠ t → listed.getD u.i false = true → ∀ vs, u.p vs w → u.p vs w') → t.p (t.s.map fun k => if t.d = k then v else a.tmps.getD k undef) w' → wpAny P .any l.toArray Q (f + (l.length - n)) (listed.setIfInBounds i true) (a.put (some t.d) v) w' := by
        intro v w' hph hG hsurv hp
        refine ih _ _ _ ⟨I.inv.set hi hin, I.defers, ?_, ?_, ?_, ?_, ?_⟩ ?_
        · rw [← I.size]; simp [Act.put]
        · intro k hk
          rw [put_get, if_neg (fun h => hk t ht h.1)]
          exact I.frame k hk
        · intro hl
          by_cases hip : t.i = TP.i
          · exfalso
            rw [← hip, hti] at hl
            have hlt : i < listed.size := by rw [I.inv.size]; omega
            simp [hlt] at hl
          · rw [getD_set_ne false (by rw [← hti]; exact hip)] at hl
            exact (hph hip).1 hl
        · intro hl
          by_cases hip : t.i = TP.i
          · exact hG hip
          · rw [getD_set_ne false (by rw [← hti]; exact hip)] at hl
            exact (hph hip).2 hl
        · intro u hu hul
          by_cases hui : t.i = u.i
          · unfold HOp.fact
            by_cases hut : u = t
            · subst hut
              have e : (u.s.map fun k => (a.put (some u.d) v).tmps.getD k undef) = u.s.map fun k => if u.d = k then v else a.tmps.getD k undef := by
                apply List.map_congr_left
                intro k _
                rw [put_get, I.size]
                by_cases hk : u.d = k
                · rw [if_pos ⟨hk, htd⟩, if_pos hk]
                · rw [if_neg (fun h => hk h.1), if_neg hk]
              rw [e]
              exact hp
            · exact absurd (hnodup t ht u hu hui).symm hut
          · unfold HOp.fact
            have hul2 : listed.getD u.i false = true := by rw [← getD_set_ne false (i := i) (j := u.i) (by rw [← hti]; exact hui)]; exact hul
            have h1 := hsurv u hu (fun e => hui (by rw [e])) hul2 _ (I.facts u hu hul2)
            have hnot : t.d ∉ u.s := by
              intro hin2
              have hw := (pair t ht u hu hui).2 hin2
              obtain ⟨ou, hou, e, he, hb, hon⟩ := Region.waitsFor_spec hw
              have := I.inv.closed u.i ou hou hul2 e he hb
              rw [hon, hti, getD_both hil] at this
              cases this
            have e : (u.s.map fun k => (a.put (some t.d) v).tmps.getD k undef) = u.s.map fun k => a.tmps.getD k undef := by
              apply List.map_congr_left
              intro k hk
              rw [put_get, if_neg (fun (h : t.d = k ∧ t.d < a.tmps.size) => hnot (by rw [h.1]; exact hk))]
            rw [e]
            exact h1
        · have := todo_set hin hil; omega
      have fin : ∀ (R : Exit → Act → World → Prop), (∀ e a' w', R e a' w' → e = .normal) → (∀ a' w', R .normal a' w' → wpAny P .any l.toArray Q (f + (l.length - n)) (listed.setIfInBounds i true) a' w') → wpList P l.toArray R [oi] a w → wpOp P l.toArray Q i (fun a' w' => wpAny P .any l.toArray Q (f + (l.length - n)) (listed.setIfInBounds i true) a' w') a w := by
        intro R hR step H
        unfold wpList at H
        unfold wpOp
        rw [hoi]
        simp only
        by_cases hwant : Region.wanted oi (yielded l.toArray a.tmps) = true
        · rw [if_pos hwant] at H
          rw [if_pos hwant]
          left
          rcases H with H | ⟨_, a1, w1, h1⟩
          · exact wp_both (fun a' w' h => step a' w' h) (fun e a' w' he h => absurd (hR _ _ _ h) he) H
          · exact absurd (hR _ _ _ h1) (by simp)
        · rw [if_neg hwant] at H
          rw [if_neg hwant]
          exact step _ _ H
      have prep : t.i = TP.i ∨ t ∈ TE → listed.getD TP.i false = false := by
        intro h
        rcases h with h | h
        · rw [h] at hti
          rw [hti]
          exact getD_both hil
        · cases hlp : listed.getD TP.i false with
          | false => rfl
          | true =>
            obtain ⟨hw, _⟩ := hE1 t h
            obtain ⟨ou, hou, e, he, hb, hon⟩ := Region.waitsFor_spec hw
            have := I.inv.closed TP.i ou hou hlp e he hb
            rw [hon, hti, getD_both hil] at this
            cases this
      by_cases htP : t = TP
      · subst htP
        have hpre := prep (.inl rfl)
        refine fin _ ?_ ?_ (hopP oi ho a w (I.pre hpre) hframe hfacts)
        · exact fun e a' w' h => h.1
        · rintro a' w' ⟨_, v, rfl, hp, hG, hS⟩
          refine step0 v w' (fun h => absurd rfl h) (fun _ => hG) (fun u hu hne _ => hS.mem u (rest u hu hne)) hp
      · have hipP : t.i ≠ TP.i := fun h => htP (hnodup t ht TP memP h)
        rcases split t ht with h | h | h
        · exact absurd h htP
        · have hpre := prep (.inr h)
          refine fin _ ?_ ?_ (hopE.mem t h oi ho a w (I.pre hpre) hframe hfacts)
          · exact fun e a' w' h => h.1
          · rintro a' w' ⟨_, v, rfl, hbel, hp⟩
            refine step0 v w' (fun _ => ⟨fun _ => (I.pre hpre).trans (hbel.mono (I.pre hpre).size), fun h => by rw [hpre] at h; cases h⟩) (fun h => absurd h hipP) (fun u hu hne hul => ?_) hp
            have huP : u ≠ TP := fun e => by rw [e, hpre] at hul; cases hul
            exact fun vs hv => hmono.mem u (rest u hu huP) vs w w' hbel hv
        · have hLw : L w := by
            cases hlp : listed.getD TP.i false with
            | false => exact hL1 w (I.pre hlp)
            | true => exact hL2 w (I.post hlp)
          refine fin _ ?_ ?_ (hopL.mem t h oi ho a w hLw hframe hfacts)
          · exact fun e a' w' h => h.1
          · rintro a' w' ⟨_, v, rfl, rfl, hp⟩
            exact step0 v _ (fun _ => ⟨I.pre, I.post⟩) (fun h => absurd h hipP) (fun u hu hne hul vs hv => hv) hp
  refine wp_region_any hm ?_
  have inv0 : HeadInv .any l.toArray n (Array.replicate l.toArray.size false) :=
    ⟨by simp, fun j oj _ hl => (by rw [getD_replicate_false] at hl; cases hl), fun t _ ht => getD_in (by simpa using ht) (getD_replicate_false _ _)⟩
  have I0 : MidInv l n TP.i T a0 w0 G (Array.replicate l.toArray.size false) a0 { w0 with drawn := w0.drawn + 1 } :=
    ⟨inv0, rfl, rfl, fun _ _ => rfl, fun _ => Still.below 1, fun hl => (by rw [getD_replicate_false] at hl; cases hl), fun t _ hl => (by rw [getD_replicate_false] at hl; cases hl)⟩
  have ht0 : todo (Array.replicate l.toArray.size false) n = n := by
    unfold todo
    rw [List.filter_eq_self.2 (fun j hj => by
      have hj' := List.mem_range.1 hj
      have : (Array.replicate l.toArray.size false).getD j true = false := getD_in (by simp; omega) (getD_replicate_false _ _)
      rw [this]; rfl), List.length_range]
  have := key n _ _ _ I0 ht0
  rwa [show n + (l.length - n) = l.toArray.size by simp; omega] at this
end
end Go.Dx
end

/- the text Free3 -/
section
/- A region that draws its order, whose operations that change the world follow one another (CH); the others (TL) leave the world as it is and may come at any time. No program in sight. -/
set_option linter.unusedVariables false
namespace Go.Dx
open Go.RowKit

structure ChInv (l : List Oper) (n : Nat) (CH TL T : List HOp) (a0 : Act) (G : Nat → List Value → World → Prop) (listed : Array Bool) (a : Act) (w : World) : Prop where
  inv : HeadInv .any l.toArray n listed
  defers : a.defers = a0.defers
  size : a.tmps.size = a0.tmps.size
  frame : ∀ k, (∀ t ∈ T, t.d ≠ k) → a.tmps.getD k undef = a0.tmps.getD k undef
  stage : ∃ j, j ≤ CH.length ∧ (∀ m c, CH[m]? = some c → (listed.getD c.i false = true ↔ m < j)) ∧ G j (CH.map fun c => a.tmps.getD c.d undef) w
  facts : ∀ t ∈ TL, listed.getD t.i false = true → t.fact a w

/-- each waits for the one before it -/
def linkOk (ops : Array Oper) : List Nat → Bool
  | i :: j :: l => Region.waitsFor .any ops j i && linkOk ops (j :: l)
  | _ => true
theorem linkOk_get {ops : Array Oper} : ∀ {L : List Nat}, linkOk ops L = true → ∀ m i j, L[m]? = some i → L[m + 1]? = some j → Region.waitsFor .any ops j i = true := by
  intro L
  induction L with
  | nil => intro _ m i j h; cases h
  | cons x L ih =>
    intro h m i j h1 h2
    cases L with
    | nil => cases m <;> simp at h2
    | cons y L =>
      simp only [linkOk, Bool.and_eq_true] at h
      cases m with
      | zero => cases h1; cases h2; exact h.1
      | succ m => exact ih h.2 m i j h1 h2

section
variable {P : Program}
theorem wp_region_chain {id : Nat} {Q : Exit → Act → World → Prop} {a0 : Act} {w0 : World} {l : List Oper} (n : Nat) (G : Nat → List Value → World → Prop) (CH TL : List HOp) (hm : P.follows .mixedOrders = true)
    (hB : (headOk l n ((CH ++ TL).map fun t => (t.i, t.d, t.s)) a0.tmps.size && linkOk l.toArray (CH.map (·.i)) && (TL.all fun t => CH.all fun c => t.i != c.i && t.d != c.d)) = true)
    (hG0 : G 0 (CH.map fun c => a0.tmps.getD c.d undef) { w0 with drawn := w0.drawn + 1 })
    (hmono : All (fun t : HOp => ∀ vs w w', t.p vs w → t.p vs w') TL)
    (hopC : ∀ m c, CH[m]? = some c → ∀ o, l[c.i]? = some o → ∀ (a : Act) (w : World), G m (CH.map fun c => a.tmps.getD c.d undef) w →
      (∀ k, ((CH ++ TL).map (·.d)).contains k = false → a.tmps.getD k undef = a0.tmps.getD k undef) →
      (∀ (k : Nat) (u : HOp), TL[k]? = some u → Region.waitsFor .any l.toArray c.i u.i = true → u.p (u.s.map fun k => a.tmps.getD k undef) w) →
      wpList P l.toArray (OneTurn c.d a fun v w' => G (m + 1) (CH.map fun e => if e.d = c.d then v else a.tmps.getD e.d undef) w') [o] a w)
    (hopL : All (fun t : HOp => ∀ o, l[t.i]? = some o → ∀ (a : Act) (w : World),
      (∀ k, ((CH ++ TL).map (·.d)).contains k = false → a.tmps.getD k undef = a0.tmps.getD k undef) →
      (∀ (k : Nat) (u : HOp), TL[k]? = some u → Region.waitsFor .any l.toArray t.i u.i = true → u.p (u.s.map fun k => a.tmps.getD k undef) w) →
      wpList P l.toArray (OneStill t.d a w fun v w' => t.p (t.s.map fun k => if t.d = k then v else a.tmps.getD k undef) w') [o] a w) TL)
    (hend : ∀ (g : Nat → Value) (w : World), G CH.length (CH.map fun c => g c.d) w → (∀ (k : Nat) (u : HOp), TL[k]? = some u → u.p (u.s.map fun k => if k ∈ (CH ++ TL).map (·.d) then g k else a0.tmps.getD k undef) w) →
      wpList P l.toArray Q (l.drop n) (putAll a0 (((CH ++ TL).map (·.d)).map fun d => (d, g d))) w) : (Code.region id l.toArray true).wp P Q a0 w0 := by
  obtain ⟨T, hTdef⟩ : ∃ T, CH ++ TL = T := ⟨_, rfl⟩
  have memC : ∀ t ∈ CH, t ∈ T := fun t ht => by rw [← hTdef]; exact List.mem_append_left _ ht
  have memL : ∀ t ∈ TL, t ∈ T := fun t ht => by rw [← hTdef]; exact List.mem_append_right _ ht
  have split : ∀ t ∈ T, t ∈ CH ∨ t ∈ TL := fun t ht => by rw [← hTdef] at ht; exact List.mem_append.1 ht
  rw [hTdef] at hB hopC hopL hend
  rw [Bool.and_eq_true, Bool.and_eq_true] at hB
  obtain ⟨⟨hB, hlink⟩, hdis⟩ := hB
  have hdis2 : ∀ t ∈ TL, ∀ c ∈ CH, t.i ≠ c.i ∧ t.d ≠ c.d := by
    intro t ht c hc
    have := List.all_eq_true.1 (List.all_eq_true.1 hdis t ht) c hc
    simpa using this
  have hlk : ∀ m c e, CH[m]? = some c → CH[m + 1]? = some e → Region.waitsFor .any l.toArray e.i c.i = true := fun m c e h1 h2 =>
    linkOk_get hlink m c.i e.i (by rw [List.getElem?_map, h1]; rfl) (by rw [List.getElem?_map, h2]; rfl)
  simp only [headOk, Bool.and_eq_true, decide_eq_true_eq] at hB
  obtain ⟨⟨⟨⟨⟨⟨⟨hnd, hn⟩, hs⟩, hc⟩, hseq⟩, hcov⟩, hT⟩, hpair⟩ := hB
  have hnodup : ∀ t ∈ T, ∀ u ∈ T, t.i = u.i → t = u := inj_nodup (·.i) T (by rw [List.map_map] at hnd; exact hnd)
  have hn' : n < l.toArray.size := by simpa using hn
  have cover : ∀ j, j < n → ∃ t ∈ T, t.i = j := by
    intro j hj
    have h := List.all_eq_true.1 hcov j (List.mem_range.2 hj)
    obtain ⟨x, hx, he⟩ := List.any_eq_true.1 h
    obtain ⟨t, ht, rfl⟩ := List.mem_map.1 hx
    exact ⟨t, ht, by simpa using he⟩
  have own : ∀ t ∈ T, t.i < n ∧ t.d < a0.tmps.size ∧ ∃ o, l[t.i]? = some o ∧ o.dst = some t.d ∧ ∀ e ∈ o.after, Region.binds .any e = true → e.on < t.i := by
    intro t ht
    have h := List.all_eq_true.1 hT _ (List.mem_map.2 ⟨t, ht, rfl⟩)
    simp only [Bool.and_eq_true, decide_eq_true_eq] at h
    obtain ⟨⟨h1, h2⟩, h3⟩ := h
    refine ⟨h1, h2, ?_⟩
    cases ho : l[t.i]? with
    | none => rw [ho] at h3; cases h3
    | some o =>
      rw [ho] at h3
      simp only [Bool.and_eq_true, beq_iff_eq] at h3
      refine ⟨o, rfl, h3.1, fun e he hb => ?_⟩
      have := Array.all_eq_true_iff_forall_mem.1 h3.2 e he
      simpa [hb] using this
  have pair : ∀ t ∈ T, ∀ u ∈ T, t.i ≠ u.i → t.d ≠ u.d ∧ (t.d ∈ u.s → Region.waitsFor .any l.toArray u.i t.i = true) := by
    intro t ht u hu hne
    have h := List.all_eq_true.1 (List.all_eq_true.1 hpair _ (List.mem_map.2 ⟨t, ht, rfl⟩)) _ (List.mem_map.2 ⟨u, hu, rfl⟩)
    simp only [Bool.or_eq_true, beq_iff_eq, hne, false_or, Bool.and_eq_true, bne_iff_ne, ne_eq, Bool.not_eq_true'] at h
    refine ⟨h.1, fun hin => ?_⟩
    rcases h.2 with h2 | h2
    · have : u.s.contains t.d = true := by simpa using hin
      rw [this] at h2; cases h2
    · exact h2
  have key : ∀ (f : Nat) (listed : Array Bool) (a : Act) (w : World), ChInv l n CH TL T a0 G listed a w → todo listed n = f → wpAny P .any l.toArray Q (f + (l.length - n)) listed a w := by
    intro f
    induction f with
    | zero =>
      intro listed a w I h0
      have hall : ∀ j, j < n → listed.getD j true = true := by
        intro j hj
        cases hb : listed.getD j true with
        | true => rfl
        | false =>
          have : j ∈ (List.range n).filter fun j => !listed.getD j true := List.mem_filter.2 ⟨List.mem_range.2 hj, by rw [hb]; rfl⟩
          unfold todo at h0
          rw [List.eq_nil_of_length_eq_zero h0] at this
          cases this
      have hlist : listed = (List.replicate n true ++ List.replicate (l.length - n) false).toArray := by
        have hsz := I.inv.size
        apply Array.ext
        · simp at hsz ⊢; omega
        · intro j h1 h2
          by_cases hj : j < n
          · have := hall j hj
            simp [Array.getD, h1] at this
            simp [this, List.getElem_append_left, hj]
          · have := I.inv.tail j (by omega) (by rw [← hsz]; exact h1)
            simp [Array.getD, h1] at this
            simp only [this, List.getElem_toArray]
            rw [List.getElem_append_right (by simp; omega)]
            simp
      have ha : a = putAll a0 ((T.map (·.d)).map fun d => (d, a.tmps.getD d undef)) := by
        have hd : ∀ d ∈ T.map (·.d), d < a0.tmps.size := by
          intro d hd
          obtain ⟨t, ht, rfl⟩ := List.mem_map.1 hd
          exact (own t ht).2.1
        refine act_ext (by rw [putAll_defers]; exact I.defers) (by rw [putAll_size]; exact I.size) (fun k => ?_)
        rw [putAll_get (fun d => a.tmps.getD d undef) _ _ _ hd]
        by_cases h : k ∈ T.map (·.d)
        · rw [if_pos h]
        · rw [if_neg h]
          exact I.frame k (fun t ht e => h (List.mem_map.2 ⟨t, ht, e⟩))
      have hls : ∀ t ∈ T, listed.getD t.i false = true := by
        intro t ht
        have := hall t.i (own t ht).1
        rcases Nat.lt_or_ge t.i listed.size with h' | h'
        · simp [h'] at this ⊢; exact this
        · have := I.inv.size; have := (own t ht).1; omega
      obtain ⟨j, hj, hjs, hG⟩ := I.stage
      have hjl : j = CH.length := by
        rcases Nat.lt_or_ge j CH.length with h | h
        · have h1 : CH[j]? = some CH[j] := by simp [h]
          have := (hjs j _ h1).1 (hls _ (memC _ (List.getElem_mem h)))
          omega
        · omega
      rw [hjl] at hG
      have hfin := hend (fun d => a.tmps.getD d undef) w hG (fun k u hu => by
        have hu' := List.mem_of_getElem? hu
        have h1 := I.facts u hu' (hls u (memL u hu'))
        unfold HOp.fact at h1
        have e : (u.s.map fun k => if k ∈ T.map (·.d) then a.tmps.getD k undef else a0.tmps.getD k undef) = u.s.map fun k => a.tmps.getD k undef := by
          apply List.map_congr_left
          intro k _
          by_cases h : k ∈ T.map (·.d)
          · rw [if_pos h]
          · rw [if_neg h]
            exact (I.frame k (fun t ht e => h (List.mem_map.2 ⟨t, ht, e⟩))).symm
        rw [e]
        exact h1)
      rw [← ha] at hfin
      rw [Nat.zero_add]
      have hseq' : Region.seqB .any l.toArray (l.drop n).length n listed = true := by rw [hlist, List.length_drop]; exact hseq
      have := wpAny_of_seq (md := .any) (Q' := Q) (l.drop n) n listed a w (fun j => by simp [List.getElem?_drop]) hseq' hfin
      rwa [List.length_drop] at this
    | succ f ih =>
      intro listed a w I hf
      have hex : ∃ j, j < n ∧ listed.getD j true = false := by
        cases hL : (List.range n).filter fun j => !listed.getD j true with
        | nil => unfold todo at hf; rw [hL] at hf; cases hf
        | cons j L =>
          have : j ∈ (List.range n).filter fun j => !listed.getD j true := by rw [hL]; exact List.mem_cons_self
          obtain ⟨h1, h2⟩ := List.mem_filter.1 this
          exact ⟨j, List.mem_range.1 h1, by simpa using h2⟩
      have hready : Region.ready .any l.toArray listed ≠ [] := by
        have hmin : ∀ m j, j ≤ m → j < n → listed.getD j true = false → ∃ i, i ∈ Region.ready .any l.toArray listed := by
          intro m
          induction m with
          | zero =>
            intro j hj hjn hjl
            have hj0 : j = 0 := by omega
            subst hj0
            obtain ⟨t, ht, hti⟩ := cover 0 hjn
            obtain ⟨_, _, o, ho, _, hb⟩ := own t ht
            rw [hti] at ho hb
            exact ⟨0, mem_ready.2 ⟨hjl, o, by simpa using ho, fun e he hbe => absurd (hb e he hbe) (by omega)⟩⟩
          | succ m ihm =>
            intro j hj hjn hjl
            obtain ⟨t, ht, hti⟩ := cover j hjn
            obtain ⟨_, _, o, ho, _, hb⟩ := own t ht
            rw [hti] at ho hb
            by_cases hall : ∀ e ∈ o.after, Region.binds .any e = true → listed.getD e.on false = true
            · exact ⟨j, mem_ready.2 ⟨hjl, o, by simpa using ho, hall⟩⟩
            · simp only [Classical.not_forall] at hall
              obtain ⟨e, he, hbe, hne⟩ := hall
              have hlt := hb e he hbe
              have hes : e.on < listed.size := by rw [I.inv.size]; simp; omega
              exact ihm e.on (by omega) (by omega) (getD_in hes (by simpa using hne))
        obtain ⟨j, hj, hjl⟩ := hex
        obtain ⟨i, hi⟩ := hmin j j (Nat.le_refl _) hj hjl
        intro h
        rw [h] at hi
        cases hi
      rw [show f + 1 + (l.length - n) = (f + (l.length - n)) + 1 by omega]
      refine ⟨fun h => absurd h hready, fun i hi => ?_⟩
      have hin : i < n := by
        rcases Nat.lt_or_ge i n with h | h
        · exact h
        · obtain ⟨j, hj, hjl⟩ := hex
          exact absurd hi (tail_waits hs hc hn' I.inv _ j rfl hj hjl i h)
      obtain ⟨t, ht, hti⟩ := cover i hin
      obtain ⟨_, htd, o, ho, hdst, _⟩ := own t ht
      obtain ⟨hil, oi, hoi, hafter⟩ := mem_ready.1 hi
      have hoo : oi = o := by rw [hti] at ho; exact Option.some.inj (hoi.symm.trans (by simpa using ho))
      subst hoo
      have hframe : ∀ k, (T.map (·.d)).contains k = false → a.tmps.getD k undef = a0.tmps.getD k undef := fun k hk => I.frame k (fun u hu e => by
          have : (T.map (·.d)).contains k = true := by simpa using ⟨u, hu, e⟩
          rw [this] at hk; cases hk)
      have hfacts : ∀ (k : Nat) (u : HOp), TL[k]? = some u → Region.waitsFor .any l.toArray t.i u.i = true → u.p (u.s.map fun k => a.tmps.getD k undef) w := fun k u hu hw => by
        have hu' := List.mem_of_getElem? hu
        obtain ⟨oj, hoj, e, he, hb, hon⟩ := Region.waitsFor_spec hw
        have : oj = oi := by rw [hti] at hoj; exact Option.some.inj (hoj.symm.trans hoi)
        subst this
        have h1 := hafter e he hb
        rw [hon] at h1
        exact I.facts u hu' h1
      have step0 : ∀ (v : Value) (w' : World), (∃ j, j ≤ CH.length ∧ (∀ m c, CH[m]? = some c → ((listed.setIfInBounds i true).getD c.i false = true ↔ m < j)) ∧ G j (CH.map fun c => (a.put (some t.d) v).tmps.getD c.d undef) w') →
          (t ∈ TL → t.p (t.s.map fun k => if t.d = k then v else a.tmps.getD k undef) w') → wpAny P .any l.toArray Q (f + (l.length - n)) (listed.setIfInBounds i true) (a.put (some t.d) v) w' := by
        intro v w' hst hp
        refine ih _ _ _ ⟨I.inv.set hi hin, I.defers, ?_, ?_, hst, ?_⟩ ?_
        · rw [← I.size]; simp [Act.put]
        · intro k hk
          rw [put_get, if_neg (fun h => hk t ht h.1)]
          exact I.frame k hk
        · intro u hu hul
          by_cases hui : t.i = u.i
          · unfold HOp.fact
            have hut : u = t := hnodup u (memL u hu) t ht hui.symm
            subst hut
            have e : (u.s.map fun k => (a.put (some u.d) v).tmps.getD k undef) = u.s.map fun k => if u.d = k then v else a.tmps.getD k undef := by
              apply List.map_congr_left
              intro k _
              rw [put_get, I.size]
              by_cases hk : u.d = k
              · rw [if_pos ⟨hk, htd⟩, if_pos hk]
              · rw [if_neg (fun h => hk h.1), if_neg hk]
            rw [e]
            exact hp hu
          · unfold HOp.fact
            have hul2 : listed.getD u.i false = true := by rw [← getD_set_ne false (i := i) (j := u.i) (by rw [← hti]; exact hui)]; exact hul
            have h1 := hmono.mem u hu _ w w' (I.facts u hu hul2)
            have hnot : t.d ∉ u.s := by
              intro hin2
              have hw := (pair t ht u (memL u hu) hui).2 hin2
              obtain ⟨ou, hou, e, he, hb, hon⟩ := Region.waitsFor_spec hw
              have := I.inv.closed u.i ou hou hul2 e he hb
              rw [hon, hti, getD_both hil] at this
              cases this
            have e : (u.s.map fun k => (a.put (some t.d) v).tmps.getD k undef) = u.s.map fun k => a.tmps.getD k undef := by
              apply List.map_congr_left
              intro k hk
              rw [put_get, if_neg (fun (h : t.d = k ∧ t.d < a.tmps.size) => hnot (by rw [h.1]; exact hk))]
            rw [e]
            exact h1
        · have := todo_set hin hil; omega
      have fin : ∀ (R : Exit → Act → World → Prop), (∀ e a' w', R e a' w' → e = .normal) → (∀ a' w', R .normal a' w' → wpAny P .any l.toArray Q (f + (l.length - n)) (listed.setIfInBounds i true) a' w') → wpList P l.toArray R [oi] a w → wpOp P l.toArray Q i (fun a' w' => wpAny P .any l.toArray Q (f + (l.length - n)) (listed.setIfInBounds i true) a' w') a w := by
        intro R hR step H
        unfold wpList at H
        unfold wpOp
        rw [hoi]
        simp only
        by_cases hwant : Region.wanted oi (yielded l.toArray a.tmps) = true
        · rw [if_pos hwant] at H
          rw [if_pos hwant]
          left
          rcases H with H | ⟨_, a1, w1, h1⟩
          · exact wp_both (fun a' w' h => step a' w' h) (fun e a' w' he h => absurd (hR _ _ _ h) he) H
          · exact absurd (hR _ _ _ h1) (by simp)
        · rw [if_neg hwant] at H
          rw [if_neg hwant]
          exact step _ _ H
      obtain ⟨j, hj, hjs, hG⟩ := I.stage
      rcases split t ht with h | h
      · obtain ⟨j0, hj0l, hj0⟩ := List.mem_iff_getElem.1 h
        have hg0 : CH[j0]? = some t := by rw [List.getElem?_eq_getElem hj0l, hj0]
        have hnl : listed.getD t.i false = false := by rw [hti]; exact getD_both hil
        have h1 : ¬ j0 < j := fun h => by rw [(hjs j0 t hg0).2 h] at hnl; cases hnl
        have h2 : j0 ≤ j := by
          cases j0 with
          | zero => omega
          | succ q =>
            have hq : CH[q]? = some CH[q] := by simp
            obtain ⟨oj, hoj, e, he, hb, hon⟩ := Region.waitsFor_spec (hlk q _ t hq hg0)
            have : oj = oi := by rw [hti] at hoj; exact Option.some.inj (hoj.symm.trans hoi)
            subst this
            have h3 := hafter e he hb
            rw [hon] at h3
            have := (hjs q _ hq).1 h3
            omega
        obtain rfl : j0 = j := by omega
        refine fin _ (fun e a' w' h => h.1) ?_ (hopC j0 t hg0 oi ho a w hG hframe hfacts)
        rintro a' w' ⟨_, v, rfl, hG'⟩
        refine step0 v w' ⟨j0 + 1, by omega, ?_, ?_⟩ (fun hL => absurd rfl (hdis2 t hL t h).1)
        · intro m c hc
          by_cases hci : c.i = i
          · have hct : c = t := hnodup c (memC c (List.mem_of_getElem? hc)) t ht (by rw [hci, hti])
            subst hct
            have hm0 : m = j0 := by
              rcases Nat.lt_trichotomy m j0 with h | h | h
              · have := (hjs m c hc).2 h
                rw [hnl] at this; cases this
              · exact h
              · exfalso
                have hnd2 : (CH.map (·.i)).Nodup := by
                  have h5 := hnd
                  rw [← hTdef, List.map_map, List.map_append] at h5
                  exact (List.nodup_append.1 h5).1
                have h6 : (CH.map (·.i))[m]? = some c.i := by rw [List.getElem?_map, hc]; rfl
                have h7 : (CH.map (·.i))[j0]? = some c.i := by rw [List.getElem?_map, hg0]; rfl
                obtain ⟨hm1, hm2⟩ := List.getElem?_eq_some_iff.1 h6
                have := (List.getElem?_inj hm1 hnd2).1 (h6.trans h7.symm)
                omega
            subst hm0
            have hlt : i < listed.size := by rw [I.inv.size]; simp; have := hn; omega
            rw [hci]
            simp [hlt]
          · rw [getD_set_ne false (fun e => hci e.symm), hjs m c hc]
            constructor
            · intro h; omega
            · intro h
              rcases Nat.lt_or_ge m j0 with h' | h'
              · exact h'
              · obtain rfl : m = j0 := by omega
                rw [hg0] at hc
                cases hc
                exact absurd hti hci
        · have e : (CH.map fun c => (a.put (some t.d) v).tmps.getD c.d undef) = CH.map fun e => if e.d = t.d then v else a.tmps.getD e.d undef := by
            apply List.map_congr_left
            intro c _
            rw [put_get, I.size]
            by_cases hk : t.d = c.d
            · rw [if_pos ⟨hk, htd⟩, if_pos hk.symm]
            · rw [if_neg (fun h => hk h.1), if_neg (fun h => hk h.symm)]
          rw [e]
          exact hG'
      · refine fin _ (fun e a' w' h => h.1) ?_ (hopL.mem t h oi ho a w hframe hfacts)
        rintro a' w' ⟨_, v, rfl, rfl, hp⟩
        refine step0 v _ ⟨j, hj, ?_, ?_⟩ (fun _ => hp)
        · intro m c hc
          rw [getD_set_ne false (by rw [← hti]; exact (hdis2 t h c (List.mem_of_getElem? hc)).1)]
          exact hjs m c hc
        · have e : (CH.map fun c => (a.put (some t.d) v).tmps.getD c.d undef) = CH.map fun c => a.tmps.getD c.d undef := by
            apply List.map_congr_left
            intro c hc
            rw [put_get, if_neg (fun hh => (hdis2 t h c hc).2 hh.1)]
          rw [e]
          exact hG
  refine wp_region_any hm ?_
  have inv0 : HeadInv .any l.toArray n (Array.replicate l.toArray.size false) :=
    ⟨by simp, fun j oj _ hl => (by rw [getD_replicate_false] at hl; cases hl), fun t _ ht => getD_in (by simpa using ht) (getD_replicate_false _ _)⟩
  have I0 : ChInv l n CH TL T a0 G (Array.replicate l.toArray.size false) a0 { w0 with drawn := w0.drawn + 1 } :=
    ⟨inv0, rfl, rfl, fun _ _ => rfl, ⟨0, Nat.zero_le _, fun m c _ => (by rw [getD_replicate_false]; simp), hG0⟩, fun t _ hl => (by rw [getD_replicate_false] at hl; cases hl)⟩
  have ht0 : todo (Array.replicate l.toArray.size false) n = n := by
    unfold todo
    rw [List.filter_eq_self.2 (fun j hj => by
      have hj' := List.mem_range.1 hj
      have : (Array.replicate l.toArray.size false).getD j true = false := getD_in (by simp; omega) (getD_replicate_false _ _)
      rw [this]; rfl), List.length_range]
  have := key n _ _ _ I0 ht0
  rwa [show n + (l.length - n) = l.toArray.size by simp; omega] at this
end
end Go.Dx
end

/- the text Free4 -/
section
/- A region that draws its order: some operations follow one another (CH) and may change what they own; the others (TL) may make memory, come at any time, and their facts outlast what the chain does (R). No program in sight. -/
set_option linter.unusedVariables false
namespace Go.Dx
open Go.RowKit

def headOk4 (l : List Oper) (n : Nat) (T : List (Nat × Nat × List Nat)) : Bool :=
  let ops := l.toArray
  decide ((T.map (·.1)).Nodup) && decide (n < l.length) && Region.sinkB .any ops n && Region.chainB .any ops n && Region.seqB .any ops (l.length - n) n ((List.replicate n true ++ List.replicate (l.length - n) false).toArray) &&
  (List.range n).all (fun j => T.any fun t => t.1 == j) &&
  T.all (fun t => decide (t.1 < n) && (match l[t.1]? with | some o => (o.after.all fun e => !Region.binds .any e || decide (e.on < t.1)) | none => false)) &&
  T.all (fun t => T.all fun u => t.1 == u.1 || (t.2.1 != u.2.1 && (!u.2.2.contains t.2.1 || Region.waitsFor .any ops u.1 t.1)))
theorem putAll_get4 (g : Nat → Value) : ∀ (L : List Nat) (a : Act) (k : Nat), (putAll a (L.map fun d => (d, g d))).tmps.getD k undef = if k ∈ L ∧ k < a.tmps.size then g k else a.tmps.getD k undef := by
  intro L
  induction L with
  | nil => intro a k; simp [putAll]
  | cons d L ih =>
    intro a k
    have hz : (a.put (some d) (g d)).tmps.size = a.tmps.size := by simp [Act.put]
    rw [List.map_cons, putAll, ih, put_get, hz]
    by_cases h0 : k < a.tmps.size
    · by_cases h1 : k ∈ L
      · rw [if_pos ⟨h1, h0⟩, if_pos ⟨List.mem_cons_of_mem _ h1, h0⟩]
      · rw [if_neg (fun h => h1 h.1)]
        by_cases h2 : d = k
        · subst h2; rw [if_pos ⟨rfl, h0⟩, if_pos ⟨List.mem_cons_self, h0⟩]
        · rw [if_neg (fun h => h2 h.1), if_neg (fun h => by rcases List.mem_cons.1 h.1 with h | h; exact h2 h.symm; exact h1 h)]
    · rw [if_neg (fun h => h0 h.2), if_neg (fun h => h0 (by omega)), if_neg (fun h => h0 h.2)]
section
variable {P : Program}
/-- one operation of the chain is done -/
def OneTurn4 (c : HOp) (a : Act) (R : Value → World → Prop) (e : Exit) (a' : Act) (w' : World) : Prop := e = .normal ∧ ∃ v, a' = (if c.s = [] then a.put (some c.d) v else a) ∧ R v w'
theorem put_out (a : Act) (d : Nat) (v : Value) (h : a.tmps.size ≤ d) : a.put (some d) v = a := by
  refine act_ext rfl (by simp [Act.put]) (fun k => ?_)
  rw [put_get, if_neg (fun hh => by omega)]
/-- A chain operation without a slot (a store) is given a slot beyond the frame and 's' not []. -/
theorem wp_region_chain4 {id : Nat} {Q : Exit → Act → World → Prop} {a0 : Act} {w0 : World} {l : List Oper} (n : Nat) (R4 : World → World → Prop) (G : Nat → List Value → World → Prop) (CH TL : List HOp) (hm : P.follows .mixedOrders = true)
    (hB : ((TL.all fun t => decide (t.d < a0.tmps.size)) && (CH.all fun c => if c.s = [] then decide (c.d < a0.tmps.size) else decide (a0.tmps.size ≤ c.d)) && headOk4 l n ((CH ++ TL).map fun t => (t.i, t.d, if TL.any (fun u => u.i == t.i) then t.s else [])) && linkOk l.toArray (CH.map (·.i)) && (TL.all fun t => CH.all fun c => t.i != c.i && t.d != c.d)) = true)
    (hG0 : G 0 (CH.map fun c => a0.tmps.getD c.d undef) { w0 with drawn := w0.drawn + 1 })
    (hR : ∀ w w', Below w.heap.size w w' → R4 w w')
    (hGm : ∀ j vs w w', Below w.heap.size w w' → G j vs w → G j vs w')
    (hmono : All (fun t : HOp => ∀ vs w w', R4 w w' → t.p vs w → t.p vs w') TL)
    (hopC : ∀ m c, CH[m]? = some c → ∀ o, l[c.i]? = some o → ∀ (a : Act) (w : World), G m (CH.map fun c => a.tmps.getD c.d undef) w →
      (∀ k, ((CH ++ TL).map (·.d)).contains k = false → a.tmps.getD k undef = a0.tmps.getD k undef) →
      (∀ (k : Nat) (u : HOp), TL[k]? = some u → Region.waitsFor .any l.toArray c.i u.i = true → u.p (u.s.map fun k => a.tmps.getD k undef) w) →
      wpList P l.toArray (OneTurn4 c a fun v w' => R4 w w' ∧ G (m + 1) (CH.map fun e => if e.d = c.d then (if c.s = [] then v else undef) else a.tmps.getD e.d undef) w') [o] a w)
    (hopL : All (fun t : HOp => ∀ o, l[t.i]? = some o → ∀ (a : Act) (w : World),
      (∀ k, ((CH ++ TL).map (·.d)).contains k = false → a.tmps.getD k undef = a0.tmps.getD k undef) →
      (∀ (k : Nat) (u : HOp), TL[k]? = some u → Region.waitsFor .any l.toArray t.i u.i = true → u.p (u.s.map fun k => a.tmps.getD k undef) w) →
      (∃ j, (∀ m c, CH[m]? = some c → Region.waitsFor .any l.toArray t.i c.i = true → m < j) ∧ j ≤ CH.length ∧ G j (CH.map fun c => a.tmps.getD c.d undef) w) →
      wpList P l.toArray (OneDone t.d a w fun v w' => t.p (t.s.map fun k => if t.d = k then v else a.tmps.getD k undef) w') [o] a w) TL)
    (hend : ∀ (g : Nat → Value) (w : World), G CH.length (CH.map fun c => g c.d) w → (∀ (k : Nat) (u : HOp), TL[k]? = some u → u.p (u.s.map fun k => if k ∈ (CH ++ TL).map (·.d) then g k else a0.tmps.getD k undef) w) →
      wpList P l.toArray Q (l.drop n) (putAll a0 (((CH ++ TL).map (·.d)).map fun d => (d, g d))) w) : (Code.region id l.toArray true).wp P Q a0 w0 := by
  obtain ⟨T, hTdef⟩ : ∃ T, CH ++ TL = T := ⟨_, rfl⟩
  have memC : ∀ t ∈ CH, t ∈ T := fun t ht => by rw [← hTdef]; exact List.mem_append_left _ ht
  have memL : ∀ t ∈ TL, t ∈ T := fun t ht => by rw [← hTdef]; exact List.mem_append_right _ ht
  have split : ∀ t ∈ T, t ∈ CH ∨ t ∈ TL := fun t ht => by rw [← hTdef] at ht; exact List.mem_append.1 ht
  rw [hTdef] at hB hopC hopL hend
  rw [Bool.and_eq_true, Bool.and_eq_true] at hB
  obtain ⟨⟨hB, hlink⟩, hdis⟩ := hB
  rw [Bool.and_eq_true, Bool.and_eq_true] at hB
  obtain ⟨⟨hTLd, hCHd⟩, hB⟩ := hB
  have htl : ∀ t ∈ TL, t.d < a0.tmps.size := fun t ht => by simpa using List.all_eq_true.1 hTLd t ht
  have hch : ∀ c ∈ CH, c.s = [] → c.d < a0.tmps.size := fun c hc hs => by have := List.all_eq_true.1 hCHd c hc; simpa [hs] using this
  have hch2 : ∀ c ∈ CH, c.s ≠ [] → a0.tmps.size ≤ c.d := fun c hc hs => by have := List.all_eq_true.1 hCHd c hc; simpa [hs] using this
  have hdis2 : ∀ t ∈ TL, ∀ c ∈ CH, t.i ≠ c.i ∧ t.d ≠ c.d := by
    intro t ht c hc
    have := List.all_eq_true.1 (List.all_eq_true.1 hdis t ht) c hc
    simpa using this
  have hlk : ∀ m c e, CH[m]? = some c → CH[m + 1]? = some e → Region.waitsFor .any l.toArray e.i c.i = true := fun m c e h1 h2 =>
    linkOk_get hlink m c.i e.i (by rw [List.getElem?_map, h1]; rfl) (by rw [List.getElem?_map, h2]; rfl)
  simp only [headOk4, Bool.and_eq_true, decide_eq_true_eq] at hB
  obtain ⟨⟨⟨⟨⟨⟨⟨hnd, hn⟩, hs⟩, hc⟩, hseq⟩, hcov⟩, hT⟩, hpair⟩ := hB
  have hnodup : ∀ t ∈ T, ∀ u ∈ T, t.i = u.i → t = u := inj_nodup (·.i) T (by rw [List.map_map] at hnd; exact hnd)
  have hn' : n < l.toArray.size := by simpa using hn
  have cover : ∀ j, j < n → ∃ t ∈ T, t.i = j := by
    intro j hj
    have h := List.all_eq_true.1 hcov j (List.mem_range.2 hj)
    obtain ⟨x, hx, he⟩ := List.any_eq_true.1 h
    obtain ⟨t, ht, rfl⟩ := List.mem_map.1 hx
    exact ⟨t, ht, by simpa using he⟩
  have own : ∀ t ∈ T, t.i < n ∧ ∃ o, l[t.i]? = some o ∧ ∀ e ∈ o.after, Region.binds .any e = true → e.on < t.i := by
    intro t ht
    have h := List.all_eq_true.1 hT _ (List.mem_map.2 ⟨t, ht, rfl⟩)
    simp only [Bool.and_eq_true, decide_eq_true_eq] at h
    obtain ⟨h1, h3⟩ := h
    refine ⟨h1, ?_⟩
    cases ho : l[t.i]? with
    | none => rw [ho] at h3; cases h3
    | some o =>
      rw [ho] at h3
      refine ⟨o, rfl, fun e he hb => ?_⟩
      have := Array.all_eq_true_iff_forall_mem.1 h3 e he
      simpa [hb] using this
  have pair : ∀ t ∈ T, ∀ u ∈ T, t.i ≠ u.i → t.d ≠ u.d ∧ (u ∈ TL → t.d ∈ u.s → Region.waitsFor .any l.toArray u.i t.i = true) := by
    intro t ht u hu hne
    have h := List.all_eq_true.1 (List.all_eq_true.1 hpair _ (List.mem_map.2 ⟨t, ht, rfl⟩)) _ (List.mem_map.2 ⟨u, hu, rfl⟩)
    simp only [Bool.or_eq_true, beq_iff_eq, hne, false_or, Bool.and_eq_true, bne_iff_ne, ne_eq, Bool.not_eq_true'] at h
    refine ⟨h.1, fun huL hin => ?_⟩
    have hany : (TL.any fun v => v.i == u.i) = true := List.any_eq_true.2 ⟨u, huL, by simp⟩
    rw [hany, if_pos rfl] at h
    rcases h.2 with h2 | h2
    · have : u.s.contains t.d = true := by simpa using hin
      rw [this] at h2; cases h2
    · exact h2
  have key : ∀ (f : Nat) (listed : Array Bool) (a : Act) (w : World), ChInv l n CH TL T a0 G listed a w → todo listed n = f → wpAny P .any l.toArray Q (f + (l.length - n)) listed a w := by
    intro f
    induction f with
    | zero =>
      intro listed a w I h0
      have hall : ∀ j, j < n → listed.getD j true = true := by
        intro j hj
        cases hb : listed.getD j true with
        | true => rfl
        | false =>
          have : j ∈ (List.range n).filter fun j => !listed.getD j true := List.mem_filter.2 ⟨List.mem_range.2 hj, by rw [hb]; rfl⟩
          unfold todo at h0
          rw [List.eq_nil_of_length_eq_zero h0] at this
          cases this
      have hlist : listed = (List.replicate n true ++ List.replicate (l.length - n) false).toArray := by
        have hsz := I.inv.size
        apply Array.ext
        · simp at hsz ⊢; omega
        · intro j h1 h2
          by_cases hj : j < n
          · have := hall j hj
            simp [Array.getD, h1] at this
            simp [this, List.getElem_append_left, hj]
          · have := I.inv.tail j (by omega) (by rw [← hsz]; exact h1)
            simp [Array.getD, h1] at this
            simp only [this, List.getElem_toArray]
            rw [List.getElem_append_right (by simp; omega)]
            simp
      have ha : a = putAll a0 ((T.map (·.d)).map fun d => (d, a.tmps.getD d undef)) := by
        refine act_ext (by rw [putAll_defers]; exact I.defers) (by rw [putAll_size]; exact I.size) (fun k => ?_)
        rw [putAll_get4 (fun d => a.tmps.getD d undef)]
        by_cases h0 : k < a0.tmps.size
        · by_cases h : k ∈ T.map (·.d)
          · rw [if_pos ⟨h, h0⟩]
          · rw [if_neg (fun hh => h hh.1)]
            exact I.frame k (fun t ht e => h (List.mem_map.2 ⟨t, ht, e⟩))
        · rw [if_neg (fun hh => h0 hh.2)]
          have h1 := I.size
          have hk : ¬ k < a.tmps.size := by omega
          simp [Array.getD, hk, h0]
      have hls : ∀ t ∈ T, listed.getD t.i false = true := by
        intro t ht
        have := hall t.i (own t ht).1
        rcases Nat.lt_or_ge t.i listed.size with h' | h'
        · simp [h'] at this ⊢; exact this
        · have := I.inv.size; have := (own t ht).1; omega
      obtain ⟨j, hj, hjs, hG⟩ := I.stage
      have hjl : j = CH.length := by
        rcases Nat.lt_or_ge j CH.length with h | h
        · have h1 : CH[j]? = some CH[j] := by simp [h]
          have := (hjs j _ h1).1 (hls _ (memC _ (List.getElem_mem h)))
          omega
        · omega
      rw [hjl] at hG
      have hfin := hend (fun d => a.tmps.getD d undef) w hG (fun k u hu => by
        have hu' := List.mem_of_getElem? hu
        have h1 := I.facts u hu' (hls u (memL u hu'))
        unfold HOp.fact at h1
        have e : (u.s.map fun k => if k ∈ T.map (·.d) then a.tmps.getD k undef else a0.tmps.getD k undef) = u.s.map fun k => a.tmps.getD k undef := by
          apply List.map_congr_left
          intro k _
          by_cases h : k ∈ T.map (·.d)
          · rw [if_pos h]
          · rw [if_neg h]
            exact (I.frame k (fun t ht e => h (List.mem_map.2 ⟨t, ht, e⟩))).symm
        rw [e]
        exact h1)
      rw [← ha] at hfin
      rw [Nat.zero_add]
      have hseq' : Region.seqB .any l.toArray (l.drop n).length n listed = true := by rw [hlist, List.length_drop]; exact hseq
      have := wpAny_of_seq (md := .any) (Q' := Q) (l.drop n) n listed a w (fun j => by simp [List.getElem?_drop]) hseq' hfin
      rwa [List.length_drop] at this
    | succ f ih =>
      intro listed a w I hf
      have hex : ∃ j, j < n ∧ listed.getD j true = false := by
        cases hL : (List.range n).filter fun j => !listed.getD j true with
        | nil => unfold todo at hf; rw [hL] at hf; cases hf
        | cons j L =>
          have : j ∈ (List.range n).filter fun j => !listed.getD j true := by rw [hL]; exact List.mem_cons_self
          obtain ⟨h1, h2⟩ := List.mem_filter.1 this
          exact ⟨j, List.mem_range.1 h1, by simpa using h2⟩
      have hready : Region.ready .any l.toArray listed ≠ [] := by
        have hmin : ∀ m j, j ≤ m → j < n → listed.getD j true = false → ∃ i, i ∈ Region.ready .any l.toArray listed := by
          intro m
          induction m with
          | zero =>
            intro j hj hjn hjl
            have hj0 : j = 0 := by omega
            subst hj0
            obtain ⟨t, ht, hti⟩ := cover 0 hjn
            obtain ⟨_, o, ho, hb⟩ := own t ht
            rw [hti] at ho hb
            exact ⟨0, mem_ready.2 ⟨hjl, o, by simpa using ho, fun e he hbe => absurd (hb e he hbe) (by omega)⟩⟩
          | succ m ihm =>
            intro j hj hjn hjl
            obtain ⟨t, ht, hti⟩ := cover j hjn
            obtain ⟨_, o, ho, hb⟩ := own t ht
            rw [hti] at ho hb
            by_cases hall : ∀ e ∈ o.after, Region.binds .any e = true → listed.getD e.on false = true
            · exact ⟨j, mem_ready.2 ⟨hjl, o, by simpa using ho, hall⟩⟩
            · simp only [Classical.not_forall] at hall
              obtain ⟨e, he, hbe, hne⟩ := hall
              have hlt := hb e he hbe
              have hes : e.on < listed.size := by rw [I.inv.size]; simp; omega
              exact ihm e.on (by omega) (by omega) (getD_in hes (by simpa using hne))
        obtain ⟨j, hj, hjl⟩ := hex
        obtain ⟨i, hi⟩ := hmin j j (Nat.le_refl _) hj hjl
        intro h
        rw [h] at hi
        cases hi
      rw [show f + 1 + (l.length - n) = (f + (l.length - n)) + 1 by omega]
      refine ⟨fun h => absurd h hready, fun i hi => ?_⟩
      have hin : i < n := by
        rcases Nat.lt_or_ge i n with h | h
        · exact h
        · obtain ⟨j, hj, hjl⟩ := hex
          exact absurd hi (tail_waits hs hc hn' I.inv _ j rfl hj hjl i h)
      obtain ⟨t, ht, hti⟩ := cover i hin
      obtain ⟨_, o, ho, _⟩ := own t ht
      obtain ⟨hil, oi, hoi, hafter⟩ := mem_ready.1 hi
      have hoo : oi = o := by rw [hti] at ho; exact Option.some.inj (hoi.symm.trans (by simpa using ho))
      subst hoo
      have hframe : ∀ k, (T.map (·.d)).contains k = false → a.tmps.getD k undef = a0.tmps.getD k undef := fun k hk => I.frame k (fun u hu e => by
          have : (T.map (·.d)).contains k = true := by simpa using ⟨u, hu, e⟩
          rw [this] at hk; cases hk)
      have hfacts : ∀ (k : Nat) (u : HOp), TL[k]? = some u → Region.waitsFor .any l.toArray t.i u.i = true → u.p (u.s.map fun k => a.tmps.getD k undef) w := fun k u hu hw => by
        have hu' := List.mem_of_getElem? hu
        obtain ⟨oj, hoj, e, he, hb, hon⟩ := Region.waitsFor_spec hw
        have : oj = oi := by rw [hti] at hoj; exact Option.some.inj (hoj.symm.trans hoi)
        subst this
        have h1 := hafter e he hb
        rw [hon] at h1
        exact I.facts u hu' h1
      have step0 : ∀ (v : Value) (w' : World), R4 w w' → (∃ j, j ≤ CH.length ∧ (∀ m c, CH[m]? = some c → ((listed.setIfInBounds i true).getD c.i false = true ↔ m < j)) ∧ G j (CH.map fun c => (a.put (some t.d) v).tmps.getD c.d undef) w') →
          (t ∈ TL → t.p (t.s.map fun k => if t.d = k then v else a.tmps.getD k undef) w') → wpAny P .any l.toArray Q (f + (l.length - n)) (listed.setIfInBounds i true) (a.put (some t.d) v) w' := by
        intro v w' hrr hst hp
        refine ih _ _ _ ⟨I.inv.set hi hin, I.defers, ?_, ?_, hst, ?_⟩ ?_
        · rw [← I.size]; simp [Act.put]
        · intro k hk
          rw [put_get, if_neg (fun h => hk t ht h.1)]
          exact I.frame k hk
        · intro u hu hul
          by_cases hui : t.i = u.i
          · unfold HOp.fact
            have hut : u = t := hnodup u (memL u hu) t ht hui.symm
            subst hut
            have e : (u.s.map fun k => (a.put (some u.d) v).tmps.getD k undef) = u.s.map fun k => if u.d = k then v else a.tmps.getD k undef := by
              apply List.map_congr_left
              intro k _
              rw [put_get, I.size]
              by_cases hk : u.d = k
              · rw [if_pos ⟨hk, htl _ hu⟩, if_pos hk]
              · rw [if_neg (fun h => hk h.1), if_neg hk]
            rw [e]
            exact hp hu
          · unfold HOp.fact
            have hul2 : listed.getD u.i false = true := by rw [← getD_set_ne false (i := i) (j := u.i) (by rw [← hti]; exact hui)]; exact hul
            have h1 := hmono.mem u hu _ w w' hrr (I.facts u hu hul2)
            have hnot : t.d ∉ u.s := by
              intro hin2
              have hw := (pair t ht u (memL u hu) hui).2 hu hin2
              obtain ⟨ou, hou, e, he, hb, hon⟩ := Region.waitsFor_spec hw
              have := I.inv.closed u.i ou hou hul2 e he hb
              rw [hon, hti, getD_both hil] at this
              cases this
            have e : (u.s.map fun k => (a.put (some t.d) v).tmps.getD k undef) = u.s.map fun k => a.tmps.getD k undef := by
              apply List.map_congr_left
              intro k hk
              rw [put_get, if_neg (fun (h : t.d = k ∧ t.d < a.tmps.size) => hnot (by rw [h.1]; exact hk))]
            rw [e]
            exact h1
        · have := todo_set hin hil; omega
      have fin : ∀ (R : Exit → Act → World → Prop), (∀ e a' w', R e a' w' → e = .normal) → (∀ a' w', R .normal a' w' → wpAny P .any l.toArray Q (f + (l.length - n)) (listed.setIfInBounds i true) a' w') → wpList P l.toArray R [oi] a w → wpOp P l.toArray Q i (fun a' w' => wpAny P .any l.toArray Q (f + (l.length - n)) (listed.setIfInBounds i true) a' w') a w := by
        intro R hR step H
        unfold wpList at H
        unfold wpOp
        rw [hoi]
        simp only
        by_cases hwant : Region.wanted oi (yielded l.toArray a.tmps) = true
        · rw [if_pos hwant] at H
          rw [if_pos hwant]
          left
          rcases H with H | ⟨_, a1, w1, h1⟩
          · exact wp_both (fun a' w' h => step a' w' h) (fun e a' w' he h => absurd (hR _ _ _ h) he) H
          · exact absurd (hR _ _ _ h1) (by simp)
        · rw [if_neg hwant] at H
          rw [if_neg hwant]
          exact step _ _ H
      obtain ⟨j, hj, hjs, hG⟩ := I.stage
      rcases split t ht with h | h
      · obtain ⟨j0, hj0l, hj0⟩ := List.mem_iff_getElem.1 h
        have hg0 : CH[j0]? = some t := by rw [List.getElem?_eq_getElem hj0l, hj0]
        have hnl : listed.getD t.i false = false := by rw [hti]; exact getD_both hil
        have h1 : ¬ j0 < j := fun h => by rw [(hjs j0 t hg0).2 h] at hnl; cases hnl
        have h2 : j0 ≤ j := by
          cases j0 with
          | zero => omega
          | succ q =>
            have hq : CH[q]? = some CH[q] := by simp
            obtain ⟨oj, hoj, e, he, hb, hon⟩ := Region.waitsFor_spec (hlk q _ t hq hg0)
            have : oj = oi := by rw [hti] at hoj; exact Option.some.inj (hoj.symm.trans hoi)
            subst this
            have h3 := hafter e he hb
            rw [hon] at h3
            have := (hjs q _ hq).1 h3
            omega
        obtain rfl : j0 = j := by omega
        refine fin _ (fun e a' w' h => h.1) ?_ (hopC j0 t hg0 oi ho a w hG hframe hfacts)
        rintro a' w' ⟨_, v, ha', hrr, hG'⟩
        obtain rfl : a' = a.put (some t.d) v := by
          rw [ha']
          by_cases hs0 : t.s = []
          · rw [if_pos hs0]
          · rw [if_neg hs0, put_out a t.d v (by rw [I.size]; exact hch2 t h hs0)]
        refine step0 v w' hrr ⟨j0 + 1, by omega, ?_, ?_⟩ (fun hL => absurd rfl (hdis2 t hL t h).1)
        · intro m c hc
          by_cases hci : c.i = i
          · have hct : c = t := hnodup c (memC c (List.mem_of_getElem? hc)) t ht (by rw [hci, hti])
            subst hct
            have hm0 : m = j0 := by
              rcases Nat.lt_trichotomy m j0 with h | h | h
              · have := (hjs m c hc).2 h
                rw [hnl] at this; cases this
              · exact h
              · exfalso
                have hnd2 : (CH.map (·.i)).Nodup := by
                  have h5 := hnd
                  rw [← hTdef, List.map_map, List.map_append] at h5
                  exact (List.nodup_append.1 h5).1
                have h6 : (CH.map (·.i))[m]? = some c.i := by rw [List.getElem?_map, hc]; rfl
                have h7 : (CH.map (·.i))[j0]? = some c.i := by rw [List.getElem?_map, hg0]; rfl
                obtain ⟨hm1, hm2⟩ := List.getElem?_eq_some_iff.1 h6
                have := (List.getElem?_inj hm1 hnd2).1 (h6.trans h7.symm)
                omega
            subst hm0
            have hlt : i < listed.size := by rw [I.inv.size]; simp; have := hn; omega
            rw [hci]
            simp [hlt]
          · rw [getD_set_ne false (fun e => hci e.symm), hjs m c hc]
            constructor
            · intro h; omega
            · intro h
              rcases Nat.lt_or_ge m j0 with h' | h'
              · exact h'
              · obtain rfl : m = j0 := by omega
                rw [hg0] at hc
                cases hc
                exact absurd hti hci
        · have e : (CH.map fun c => (a.put (some t.d) v).tmps.getD c.d undef) = CH.map fun e => if e.d = t.d then (if t.s = [] then v else undef) else a.tmps.getD e.d undef := by
            apply List.map_congr_left
            intro c _
            rw [put_get, I.size]
            by_cases hk : t.d = c.d
            · by_cases hs0 : t.s = []
              · rw [if_pos ⟨hk, hch t h hs0⟩, if_pos hk.symm, if_pos hs0]
              · have h2 := hch2 t h hs0
                rw [if_neg (fun hh => by omega), if_pos hk.symm, if_neg hs0]
                have h1 := I.size
                have hk : ¬ c.d < a.tmps.size := by omega
                simp [Array.getD, hk]
            · rw [if_neg (fun h => hk h.1), if_neg (fun h => hk h.symm)]
          rw [e]
          exact hG'
      · refine fin _ (fun e a' w' h => h.1) ?_ (hopL.mem t h oi ho a w hframe hfacts ⟨j, ?_, hj, hG⟩)
        rotate_left
        · intro m c hc hw
          obtain ⟨oj, hoj, e, he, hb, hon⟩ := Region.waitsFor_spec hw
          have : oj = oi := by rw [hti] at hoj; exact Option.some.inj (hoj.symm.trans hoi)
          subst this
          have h3 := hafter e he hb
          rw [hon] at h3
          exact (hjs m c hc).1 h3
        rintro a' w' ⟨_, v, rfl, hbl, hp⟩
        refine step0 v _ (hR _ _ hbl) ⟨j, hj, ?_, ?_⟩ (fun _ => hp)
        · intro m c hc
          rw [getD_set_ne false (by rw [← hti]; exact (hdis2 t h c (List.mem_of_getElem? hc)).1)]
          exact hjs m c hc
        · have e : (CH.map fun c => (a.put (some t.d) v).tmps.getD c.d undef) = CH.map fun c => a.tmps.getD c.d undef := by
            apply List.map_congr_left
            intro c hc
            rw [put_get, if_neg (fun hh => (hdis2 t h c hc).2 hh.1)]
          rw [e]
          exact hGm _ _ _ _ hbl hG
  refine wp_region_any hm ?_
  have inv0 : HeadInv .any l.toArray n (Array.replicate l.toArray.size false) :=
    ⟨by simp, fun j oj _ hl => (by rw [getD_replicate_false] at hl; cases hl), fun t _ ht => getD_in (by simpa using ht) (getD_replicate_false _ _)⟩
  have I0 : ChInv l n CH TL T a0 G (Array.replicate l.toArray.size false) a0 { w0 with drawn := w0.drawn + 1 } :=
    ⟨inv0, rfl, rfl, fun _ _ => rfl, ⟨0, Nat.zero_le _, fun m c _ => (by rw [getD_replicate_false]; simp), hG0⟩, fun t _ hl => (by rw [getD_replicate_false] at hl; cases hl)⟩
  have ht0 : todo (Array.replicate l.toArray.size false) n = n := by
    unfold todo
    rw [List.filter_eq_self.2 (fun j hj => by
      have hj' := List.mem_range.1 hj
      have : (Array.replicate l.toArray.size false).getD j true = false := getD_in (by simp; omega) (getD_replicate_false _ _)
      rw [this]; rfl), List.length_range]
  have := key n _ _ _ I0 ht0
  rwa [show n + (l.length - n) = l.toArray.size by simp; omega] at this
end
end Go.Dx
end

/- the text S6 -/
section
/- Chapter 03: the values of the tree. -/
namespace Go.Proofs.YtblgmjnkllkhbaaDoor
open Go.RowKit Go.Dx
theorem shold {p : Prop} (h : Hid p) : p := h.out
theorem hold_update {P : Program} {w : World} {ops : Array Oper} {rest : List Oper} {act : Act} {Q : Exit → Act → World → Prop} {dst : Option Tmp} {t ty : TypeId} {x y z : Operand} {pos : String} {after : Array Edge} {g : Option (Nat × Bool)}
    (h : Hid (wpList P ops Q ({ dst := dst, op := .mapUpdate t x y z, type := ty, pos := pos, after := after, guard := g } :: rest) act w)) : wpList P ops Q ({ dst := dst, op := .mapUpdate t x y z, type := ty, pos := pos, after := after, guard := g } :: rest) act w := h
theorem pairK : PairKey Tryd.prog 28 := by
  obtain ⟨i, hi, _, hz, _⟩ := info_parts info_int
  exact ⟨⟨3, i, Tryd.underlying28, hi, Tryd.underlying3, by kernel_rfl, hz⟩⟩
def gT (s : ByteArray) (l k : Int) : List UInt8 := treeL s.data.toList l.toNat k
/-- what lies there when the closure 'at' is called -/
structure NCtx (s : ByteArray) (b Gm Gs Ga : Nat) (w : World) : Prop where
  laid : Laid w
  mm : MMap w b (gT s)
  xm : Box w Gm 73 [.map (some b)]
  xs : Box w Gs 9 [.string s]
  xa : Box w Ga 45 [.func (.func 44) #[] #[.pointer (some ⟨Gm, 0, none⟩), .pointer (some ⟨Gs, 0, none⟩), .pointer (some ⟨Ga, 0, none⟩)]]
theorem box_ne {w : World} {G b : Nat} {t : TypeId} {cs : List Value} {g : Int → Int → List UInt8} (x : Box w G t cs) (m : MMap w b g) : G ≠ b := by
  rintro rfl
  obtain ⟨es, c, hb, _⟩ := m.ex
  unfold Box at x
  rw [hb] at x
  cases x
theorem NCtx.below {s : ByteArray} {b Gm Gs Ga : Nat} {w w' : World} (h : NCtx s b Gm Gs Ga w) (hb : Below w.heap.size w w') : NCtx s b Gm Gs Ga w' :=
  ⟨h.laid.below hb, h.mm.below hb h.mm.lt, h.xm.under hb, h.xs.under hb, h.xa.under hb⟩
theorem laid_grown {w w' : World} {b : Nat} {g : Int → Int → List UInt8} (h : Laid w) (m : MMap w b g) (hg : w.grownBy w' (some b)) : Laid w' := by
  refine ⟨fun j u hj => ?_⟩
  have h1 := h.b j u hj
  have hlt := World.block_lt_of_cell? w _ h1
  refine (World.cell?_of_block (hg.block _ hlt ?_)).trans h1
  intro e
  obtain ⟨es, c, hb, _⟩ := m.ex
  injection e with e
  rw [← e] at hb
  simp [World.cell?, hb] at h1
theorem NCtx.grown {s : ByteArray} {b Gm Gs Ga : Nat} {w w' : World} (h : NCtx s b Gm Gs Ga w) (hg : w.grownBy w' (some b)) (m : MMap w' b (gT s)) : NCtx s b Gm Gs Ga w' :=
  ⟨laid_grown h.laid h.mm hg, m, h.xm.grown hg (fun e => box_ne h.xm h.mm (Option.some.inj e)), h.xs.grown hg (fun e => box_ne h.xs h.mm (Option.some.inj e)), h.xa.grown hg (fun e => box_ne h.xa h.mm (Option.some.inj e))⟩
theorem grown_below {w w' : World} {r : Option Nat} (h : Below w.heap.size w w') : w.grownBy w' r := ⟨h.os, h.tape, h.output, h.size, fun k hk _ => h.block k hk⟩
theorem grown_trans {w w' w'' : World} {r : Option Nat} (h : w.grownBy w' r) (k : w'.grownBy w'' r) : w.grownBy w'' r :=
  ⟨k.os.trans h.os, k.tape.trans h.tape, k.output.trans h.output, Nat.le_trans h.size k.size, fun i hi hr => (k.block i (Nat.lt_of_lt_of_le hi h.size) hr).trans (h.block i hi hr)⟩
theorem NCtx.mono {s : ByteArray} {b Gm Gs Ga B : Nat} {w0 w w' : World} (h0 : NCtx s b Gm Gs Ga w0) (h : NCtx s b Gm Gs Ga w) (hb : Below B w w') (hB : w0.heap.size ≤ B) : NCtx s b Gm Gs Ga w' :=
  ⟨⟨fun j u hj => by rw [hb.cell (Nat.lt_of_lt_of_le (World.block_lt_of_cell? w0 _ (h0.laid.b j u hj)) hB)]; exact h.laid.b j u hj⟩,
    h.mm.below hb (Nat.lt_of_lt_of_le h0.mm.lt hB), h.xm.below hb (Nat.lt_of_lt_of_le h0.xm.lt hB), h.xs.below hb (Nat.lt_of_lt_of_le h0.xs.lt hB), h.xa.below hb (Nat.lt_of_lt_of_le h0.xa.lt hB)⟩
theorem grown_then {w w' w'' : World} {r : Option Nat} {B : Nat} (h : w.grownBy w' r) (k : Below B w' w'') (hB : w.heap.size ≤ B) : w.grownBy w'' r :=
  ⟨k.os.trans h.os, k.tape.trans h.tape, k.output.trans h.output, Nat.le_trans h.size k.size, fun i hi hr => (k.block i (by omega)).trans (h.block i hi hr)⟩
theorem below_of_row {w w' : World} {g : Nat} (h : w.grownBy w' (some g)) (hg : g ≤ w.heap.size) : Below g w w' := (Below.refl g w).grown h hg (fun k hk => by cases hk; exact Nat.le_refl _)
structure GA (s : ByteArray) (b Gm Gs Ga G6 G7 G10 : Nat) (k : Int) (Z Tl Tr D : List UInt8) (w : World) (j : Nat) (vs : List Value) (w' : World) : Prop where
  ctx : NCtx s b Gm Gs Ga w'
  x6 : Box w' G6 3 [.int .i64 k]
  x7 : Box w' G7 23 (Z.map B8)
  x10 : Box w' G10 23 (Z.map B8)
  hg : w.grownBy w' (some b)
  hz : G10 < w'.heap.size
  v1 : 1 ≤ j → vs.getD 0 undef = .agg (Tl.map B8).toArray
  v2 : 2 ≤ j → vs.getD 1 undef = .agg (Tr.map B8).toArray
  v3 : 3 ≤ j → vs.getD 2 undef = .agg (D.map B8).toArray
theorem GA.below {s : ByteArray} {b Gm Gs Ga G6 G7 G10 : Nat} {k : Int} {Z Tl Tr D : List UInt8} {w : World} (j : Nat) (vs : List Value) (w' w'' : World) (hb : Below w'.heap.size w' w'') (h : GA s b Gm Gs Ga G6 G7 G10 k Z Tl Tr D w j vs w') : GA s b Gm Gs Ga G6 G7 G10 k Z Tl Tr D w j vs w'' :=
  ⟨h.ctx.below hb, h.x6.under hb, h.x7.under hb, h.x10.under hb, grown_trans h.hg (grown_below hb), Nat.lt_of_lt_of_le h.hz hb.size, h.v1, h.v2, h.v3⟩
theorem two_pow6 {n : Nat} (h : n ≤ 6) : (2 : Int) ^ (6 - n) ≤ 64 := by
  rcases (by omega : n = 0 ∨ n = 1 ∨ n = 2 ∨ n = 3 ∨ n = 4 ∨ n = 5 ∨ n = 6) with rfl | rfl | rfl | rfl | rfl | rfl | rfl <;> decide
theorem two_pow6_next {m n : Nat} (h : n ≤ 6) (e : m + 1 = n) : (2 : Int) ^ (6 - m) = 2 * 2 ^ (6 - n) := by
  rw [show 6 - m = (6 - n) + 1 by omega, Int.pow_succ, Int.mul_comm]
theorem size_func2 : (Tryd.prog.info? 45).map (·.size) = some 1 := by kernel_rfl
set_option maxRecDepth 100000 in
set_option maxHeartbeats 2000000 in
theorem sg_at (s : ByteArray) (hs : s.size ≤ 1000) (b Gm Gs Ga : Nat) : ∀ (n : Nat), n ≤ 6 → ∀ (l k : Int), Hid (l = (n : Int)) → 0 ≤ k → k < 2 ^ (6 - n) → ∀ {D : List UInt8}, treeL s.data.toList n k = D → ∀ (w : World), NCtx s b Gm Gs Ga w →
    Calls Tryd.prog 44 #[.int .i64 l, .int .i64 k, .pointer (some ⟨Gm, 0, none⟩), .pointer (some ⟨Gs, 0, none⟩), .pointer (some ⟨Ga, 0, none⟩)] w fun e w' => e = .returned (.agg (D.map B8).toArray) ∧ NCtx s b Gm Gs Ga w' ∧ w.grownBy w' (some b) := by
  obtain ⟨Z, hZ⟩ : ∃ Z, Hid (zero16 = Z) := ⟨_, rfl⟩
  have h16 := zero_16
  rw [hZ.out] at h16
  have hZl : Hid (Z.length = 16) := hide (by rw [← hZ.out]; rfl)
  intro n
  induction n using Nat.strongRecOn with
  | ind n IH =>
  intro hn l k HL0 hk0 hk1 D hD w hC
  have hDl : D.length = 16 := by rw [← hD]; exact treeL_len _ _ _
  have HDl := hide hDl
  have hk64 : k ≤ 64 := by have := two_pow6 hn; omega
  have hgT : Hid (gT s l k = D) := hide (by unfold gT; rw [HL0.out, Int.toNat_natCast]; exact hD)
  have HD := hide hD
  have IHH := hide IH
  have HK1 := hide hk1
  have hzD : Hid ((Tryd.prog.info? 23).map (·.size) = some (D.map B8).length) := hide (by rw [List.length_map, hDl]; exact size_dig')
  clear hDl hD IH hk1
  have hl0 : 0 ≤ l ∧ l ≤ 6 := by have := HL0.out; omega
  go_enter Tryd.func44, Tryd.ntmps44
  have hC0 := hC
  have hCC := hide hC
  obtain ⟨w1, G6, G7, hw1, e1, e2, x6, x7, b1, l1, l2⟩ := allocs2 w [.int .i64 k] (Z.map B8) 3 23
  have hC1 := hC.below b1
  have qm := hC1.xm.at_ (j := 0) rfl
  have q6 := x6.at_ (j := 0) rfl
  rw [hw1, e1] at q6
  rw [hw1] at qm
  have hmm := hC1.mm
  rw [hw1] at hmm
  have HMM := hide hmm
  clear hmm
  have hzz : ∀ w, (zeroValue 23).run Tryd.prog w = .ok (.agg (Z.map B8).toArray) w := h16
  go_wp2_with (with_reducible refine look_pair pairK rfl _ _ 73 23 rfl Tryd.underlying73 (.agg (Z.map B8).toArray) hzz b (gT s) rfl HMM.out l k rfl ?_; intro v okv hv; refine shold ?_)
  refine hide ?_
  clear q6 qm HMM
  rw [← e2, ← hw1, ← e1]
  have l0 : w.heap.size ≤ G6 := Nat.le_of_eq e1.symm
  have hg1 : w.grownBy w1 (some b) := grown_below b1
  clear hw1 e1 e2 hzz
  obtain ⟨V, rfl, hVl, hVD⟩ : ∃ V, v = .agg (V.map B8).toArray ∧ Hid (V.length = 16) ∧ (okv = true → V = D) := by
    rcases hv with ⟨rfl, rfl⟩ | ⟨rfl, rfl⟩
    · exact ⟨D, by rw [hgT.out], HDl, fun _ => rfl⟩
    · exact ⟨Z, rfl, hZl, fun h => by cases h⟩
  have hzV : Hid ((Tryd.prog.info? 23).map (·.size) = some (V.map B8).length) := hide (by rw [List.length_map, hVl.out]; exact size_dig')
  have HVD := hide hVD
  have hC := hC1
  have hg := hg1
  have hz1 := b1.size
  clear hv hVD hC0 hC1 hg1
  cases okv
  · clear HVD
    go_wp2_with (with_reducible refine hold_store ?_)
    refine hide ?_
    refine store_all 23 _ _ 23 w1.heap.size (Z.map B8) (V.map B8) (.agg (V.map B8).toArray) hzV.out (Box.new w1 _ _) (by rfl) (by rfl) rfl (by rw [List.length_map, hVl.out, List.length_map, hZl.out]) (one_map _ (fun _ => rfl) _) ?_
    intro w2 x8 hgr hsz'
    have hnew : Below w1.heap.size w1 w2 := (sblo w1 _).grown hgr (by simp) (fun k hk => by cases hk; exact Nat.le_refl _)
    have hC := hC.below hnew
    have hg := grown_trans hg (grown_below hnew)
    have x6 := x6.under hnew
    have x7 := x7.under hnew
    have hltx8 := x8.lt
    clear hgr hsz' hnew
    generalize w1.heap.size = G8 at *
    by_cases hn0 : n = 0
    · have hl00 : l = 0 := by rw [HL0.out, hn0]; rfl
      have d0 : (l == 0) = true := by rw [hl00]; rfl
      have d1 : decide (l = 0) = true := decide_eq_true hl00
      subst hn0
      clear hl00
      have HDL : Hid (leafD (fun c : Nat => advL k c 0 3 (startL s.data.toList k c)) = D) := hide HD.out
      go_wp2_with fail
      obtain ⟨w3, G10, hw3, e10, x10, b10, l10⟩ := allocs1 w2 (Z.map B8) 23
      have hC := hC.below b10
      have hg := grown_trans hg (grown_below b10)
      have x6 := x6.under b10
      have x7 := x7.under b10
      have hz3 := b10.size
      rw [← hw3, ← e10]
      have l8 : G7 < G10 := by omega
      clear hw3 e10 b10 x8
      refine (sg_leaf1 s hs k ⟨hk0, by omega⟩ G6 Gs (fun c : Nat => advL k c 0 3 (startL s.data.toList k c)) (fun c => rfl) (fun c => advL_len _ _ _ _ (startL_len _ _ _)) HDL.out _ hC.laid x6 hC.xs).mono ?_
      rintro e w4 ⟨rfl, h4⟩
      have hC := hC.below h4
      have hg := grown_trans hg (grown_below h4)
      have x6 := x6.under h4
      have x7 := x7.under h4
      have x10 := x10.under h4
      have hz4 := h4.size
      clear h4
      go_wp2_with (with_reducible refine hold_store ?_)
      refine hide ?_
      refine store_all 23 _ _ 23 G10 (Z.map B8) (D.map B8) (.agg (D.map B8).toArray) hzD.out x10 (by rfl) (by rfl) rfl (by rw [List.length_map, HDl.out, List.length_map, hZl.out]) (one_map _ (fun _ => rfl) _) ?_
      intro w5 x10b hgr hsz'
      have h5 := below_of_row hgr (Nat.le_of_lt x10.lt)
      have hC := NCtx.mono hCC.out hC h5 (by omega)
      have hg := grown_then hg h5 (by omega)
      have x6 := x6.below h5 (by omega)
      have x7 := x7.below h5 (by omega)
      have x10 := x10b
      clear hgr hsz' h5 x10b
      have hmm := hide hC.mm
      have HGV : Hid (Value.agg (D.map B8).toArray = .agg ((gT s l k).map B8).toArray) := hide (by rw [hgT.out])
      have qm := hC.xm.at_ (j := 0) rfl
      have q6 := x6.at_ (j := 0) rfl
      go_wp2_with (first
        | (with_reducible refine load_box 43 23 _ 23 G10 0 (D.map B8) (D.map B8) isAgg_dig hzD.out x10 rfl (fun j u hj => by rw [Nat.zero_add]; exact hj) ?_)
        | (with_reducible refine hold_update ?_))
      refine hide ?_
      refine put_pair pairK rfl _ _ _ 73 23 rfl Tryd.underlying73 b (gT s) (by rfl) hmm.out l k (by rfl) (by rw [hgT.out]; rfl) ?_
      intro w6 hm6 hg6 hsz6
      have x7 := x7.grown hg6 (fun e => box_ne x7 hmm.out (Option.some.inj e))
      have x10 := x10.grown hg6 (fun e => box_ne x10 hmm.out (Option.some.inj e))
      have hC := hC.grown hg6 hm6
      have hg := grown_trans hg hg6
      clear qm q6 hmm hm6 hg6 hsz6 x6
      go_wp2_with (first
        | (with_reducible refine load_box 44 23 _ 23 G10 0 (D.map B8) (D.map B8) isAgg_dig hzD.out x10 rfl (fun j u hj => by rw [Nat.zero_add]; exact hj) ?_)
        | (with_reducible refine hold_store ?_))
      refine hide ?_
      refine store_all 23 _ _ 23 G7 (Z.map B8) (D.map B8) (.agg (D.map B8).toArray) hzD.out x7 (by rfl) (by rfl) rfl (by rw [List.length_map, HDl.out, List.length_map, hZl.out]) (one_map _ (fun _ => rfl) _) ?_
      intro w7 x9 hgr hsz'
      have h9 := below_of_row hgr (Nat.le_of_lt x7.lt)
      have hC9 := NCtx.mono hCC.out hC h9 (by omega)
      have hg9 := grown_then hg h9 (by omega)
      clear hgr hsz' h9 x7
      go_wp2_with fail
      exact bodyPost_ret (run_results_cell rfl rfl isAgg_dig hzD.out x9) rfl ⟨rfl, hC9, hg9⟩

    · have hl00 : ¬ l = 0 := by have := HL0.out; omega
      have d0 : (l == 0) = false := by simpa using hl00
      have d1 : decide (l = 0) = false := decide_eq_false hl00
      obtain ⟨m, rfl⟩ : ∃ m, n = m + 1 := ⟨n - 1, by omega⟩
      obtain ⟨Tl, HTl⟩ : ∃ T, Hid (treeL s.data.toList (m + 1 - 1) (2 * k) = T) := ⟨_, rfl⟩
      obtain ⟨Tr, HTr⟩ : ∃ T, Hid (treeL s.data.toList (m + 1 - 1) (2 * k + 1) = T) := ⟨_, rfl⟩
      have hTll : Hid (Tl.length = 16) := hide (by rw [← HTl.out]; exact treeL_len _ _ _)
      have hTrl : Hid (Tr.length = 16) := hide (by rw [← HTr.out]; exact treeL_len _ _ _)
      have HTD : Hid (nodeL Tl Tr = D) := hide (by rw [← HTl.out, ← HTr.out, ← HD.out]; rfl)
      go_wp2_with fail
      obtain ⟨w3, G10, hw3, e10, x10, b10, l10⟩ := allocs1 w2 (Z.map B8) 23
      have hC := hC.below b10
      have hg := grown_trans hg (grown_below b10)
      have x6 := x6.under b10
      have x7 := x7.under b10
      have hz3 := b10.size
      rw [← hw3, ← e10]
      have l8 : G7 < G10 := by omega
      clear hw3 e10 b10 x8
      generalize m + 1 = n at *
      refine wp_region_chain4 14 (fun _ _ => True) (GA s b Gm Gs Ga G6 G7 G10 k Z Tl Tr D w) [⟨5, 30, [], fun _ _ => True⟩, ⟨12, 37, [], fun _ _ => True⟩, ⟨13, 38, [], fun _ _ => True⟩] [⟨0, 25, [25], fun vs _ => vs = [.func (.func 44) #[] #[.pointer (some ⟨Gm, 0, none⟩), .pointer (some ⟨Gs, 0, none⟩), .pointer (some ⟨Ga, 0, none⟩)]]⟩, ⟨1, 26, [26], fun vs _ => vs = [.int .i64 l]⟩, ⟨2, 27, [27], fun vs _ => vs = [.int .i64 (l - 1)]⟩, ⟨3, 28, [28], fun vs _ => vs = [.int .i64 k]⟩, ⟨4, 29, [29], fun vs _ => vs = [.int .i64 (2 * k)]⟩, ⟨6, 31, [31], fun vs _ => vs = [.func (.func 44) #[] #[.pointer (some ⟨Gm, 0, none⟩), .pointer (some ⟨Gs, 0, none⟩), .pointer (some ⟨Ga, 0, none⟩)]]⟩, ⟨7, 32, [32], fun vs _ => vs = [.int .i64 l]⟩, ⟨8, 33, [33], fun vs _ => vs = [.int .i64 (l - 1)]⟩, ⟨9, 34, [34], fun vs _ => vs = [.int .i64 k]⟩, ⟨10, 35, [35], fun vs _ => vs = [.int .i64 (2 * k)]⟩, ⟨11, 36, [36], fun vs _ => vs = [.int .i64 (2 * k + 1)]⟩] (by kernel_rfl) (by kernel_rfl) ?_ (fun _ _ _ => trivial) GA.below ?_ ?_ ?_ ?_
      · exact ⟨⟨⟨hC.laid.b⟩, ⟨hC.mm.ex⟩, hC.xm, hC.xs, hC.xa⟩, x6, x7, x10, ⟨hg.os, hg.tape, hg.output, hg.size, hg.block⟩, l10, fun h => by omega, fun h => by omega, fun h => by omega⟩
      · simp only [All]
        refine ⟨(fun _ _ _ _ h => h), (fun _ _ _ _ h => h), (fun _ _ _ _ h => h), (fun _ _ _ _ h => h), (fun _ _ _ _ h => h), (fun _ _ _ _ h => h), (fun _ _ _ _ h => h), (fun _ _ _ _ h => h), (fun _ _ _ _ h => h), (fun _ _ _ _ h => h), (fun _ _ _ _ h => h), trivial⟩
      · intro m c hc o ho a w' hG hfr hdep
        rcases m with _ | _ | _ | m
        · cases hc
          obtain rfl := Option.some.inj ho
          obtain ⟨hC, x6, x7, x10, hg, hz, v1, v2, v3⟩ := hG
          have g25 : a.tmps.getD 25 undef = .func (.func 44) #[] #[.pointer (some ⟨Gm, 0, none⟩), .pointer (some ⟨Gs, 0, none⟩), .pointer (some ⟨Ga, 0, none⟩)] := by have h := hdep 0 _ rfl (by kernel_rfl); simpa using h
          have g25' : a.tmps[25]?.getD undef = .func (.func 44) #[] #[.pointer (some ⟨Gm, 0, none⟩), .pointer (some ⟨Gs, 0, none⟩), .pointer (some ⟨Ga, 0, none⟩)] := by simpa using g25
          have g27 : a.tmps.getD 27 undef = .int .i64 (l - 1) := by have h := hdep 2 _ rfl (by kernel_rfl); simpa using h
          have g27' : a.tmps[27]?.getD undef = .int .i64 (l - 1) := by simpa using g27
          have g29 : a.tmps.getD 29 undef = .int .i64 (2 * k) := by have h := hdep 4 _ rfl (by kernel_rfl); simpa using h
          have g29' : a.tmps[29]?.getD undef = .int .i64 (2 * k) := by simpa using g29
          clear hfr hdep
          go_wp2_with fail
          refine (IHH.out (n - 1) (by omega) (by omega) (l - 1) (2 * k) (hide (by have := HL0.out; omega)) (by omega) (by have := HK1.out; have := two_pow6_next hn (by omega : (n - 1) + 1 = n); omega) HTl.out w' hC).mono ?_
          rintro e w2' ⟨rfl, hC2, hg2⟩
          have y6 := x6.grown hg2 (fun e => box_ne x6 hC.mm (Option.some.inj e))
          have y7 := x7.grown hg2 (fun e => box_ne x7 hC.mm (Option.some.inj e))
          have y10 := x10.grown hg2 (fun e => box_ne x10 hC.mm (Option.some.inj e))
          have hgz := grown_trans hg hg2
          have hz2 := hg2.size
          go_wp2_with fail
          exact ⟨rfl, _, rfl, ⟨hC2, y6, y7, y10, hgz, by omega, fun _ => rfl, fun h => by omega, fun h => by omega⟩⟩
        · cases hc
          obtain rfl := Option.some.inj ho
          obtain ⟨hC, x6, x7, x10, hg, hz, v1, v2, v3⟩ := hG
          have g31 : a.tmps.getD 31 undef = .func (.func 44) #[] #[.pointer (some ⟨Gm, 0, none⟩), .pointer (some ⟨Gs, 0, none⟩), .pointer (some ⟨Ga, 0, none⟩)] := by have h := hdep 5 _ rfl (by kernel_rfl); simpa using h
          have g31' : a.tmps[31]?.getD undef = .func (.func 44) #[] #[.pointer (some ⟨Gm, 0, none⟩), .pointer (some ⟨Gs, 0, none⟩), .pointer (some ⟨Ga, 0, none⟩)] := by simpa using g31
          have g33 : a.tmps.getD 33 undef = .int .i64 (l - 1) := by have h := hdep 7 _ rfl (by kernel_rfl); simpa using h
          have g33' : a.tmps[33]?.getD undef = .int .i64 (l - 1) := by simpa using g33
          have g36 : a.tmps.getD 36 undef = .int .i64 (2 * k + 1) := by have h := hdep 10 _ rfl (by kernel_rfl); simpa using h
          have g36' : a.tmps[36]?.getD undef = .int .i64 (2 * k + 1) := by simpa using g36
          have g30 : a.tmps.getD 30 undef = .agg (Tl.map B8).toArray := v1 (by omega)
          clear hfr hdep
          go_wp2_with fail
          refine (IHH.out (n - 1) (by omega) (by omega) (l - 1) (2 * k + 1) (hide (by have := HL0.out; omega)) (by omega) (by have := HK1.out; have := two_pow6_next hn (by omega : (n - 1) + 1 = n); omega) HTr.out w' hC).mono ?_
          rintro e w2' ⟨rfl, hC2, hg2⟩
          have y6 := x6.grown hg2 (fun e => box_ne x6 hC.mm (Option.some.inj e))
          have y7 := x7.grown hg2 (fun e => box_ne x7 hC.mm (Option.some.inj e))
          have y10 := x10.grown hg2 (fun e => box_ne x10 hC.mm (Option.some.inj e))
          have hgz := grown_trans hg hg2
          have hz2 := hg2.size
          go_wp2_with fail
          exact ⟨rfl, _, rfl, ⟨hC2, y6, y7, y10, hgz, by omega, fun _ => by simpa using g30, fun _ => rfl, fun h => by omega⟩⟩
        · cases hc
          obtain rfl := Option.some.inj ho
          obtain ⟨hC, x6, x7, x10, hg, hz, v1, v2, v3⟩ := hG
          have g30 : a.tmps.getD 30 undef = .agg (Tl.map B8).toArray := v1 (by omega)
          have g37 : a.tmps.getD 37 undef = .agg (Tr.map B8).toArray := v2 (by omega)
          have g30' : a.tmps[30]?.getD undef = .agg (Tl.map B8).toArray := by simpa using g30
          have g37' : a.tmps[37]?.getD undef = .agg (Tr.map B8).toArray := by simpa using g37
          clear hfr hdep
          go_wp2_with fail
          refine (sg_node Tl Tr hTll.out hTrl.out HTD.out w' hC.laid).mono ?_
          rintro e w2' ⟨rfl, h2⟩
          have hz2 := h2.size
          go_wp2_with fail
          exact ⟨rfl, _, rfl, ⟨hC.below h2, x6.under h2, x7.under h2, x10.under h2, grown_trans hg (grown_below h2), by omega, fun _ => rfl, fun _ => rfl, fun _ => rfl⟩⟩
        · cases hc
      · simp only [All]
        refine ⟨?_, ?_, ?_, ?_, ?_, ?_, ?_, ?_, ?_, ?_, ?_, trivial⟩
        · intro o ho a' w' hfr hdep hst
          obtain rfl := Option.some.inj ho
          have g4 : a'.tmps[4]?.getD undef = .pointer (some ⟨Ga, 0, none⟩) := by have h := hfr 4 (by kernel_rfl); simpa using h
          obtain ⟨j, _, _, hG⟩ := hst
          clear ho hfr hdep
          have hcl := hG.ctx.xa.at_ (j := 0) rfl
          go_wp2_with fail
          exact ⟨rfl, _, rfl, Below.refl _ _, rfl⟩
        · intro o ho a' w' hfr hdep hst
          obtain rfl := Option.some.inj ho
          have g0 : a'.tmps[0]?.getD undef = .int .i64 l := by have h := hfr 0 (by kernel_rfl); simpa using h
          clear ho hfr hdep hst
          go_wp2_with fail
          exact ⟨rfl, _, rfl, Below.refl _ _, rfl⟩
        · intro o ho a' w' hfr hdep hst
          obtain rfl := Option.some.inj ho
          have g26 : a'.tmps[26]?.getD undef = .int .i64 l := by have h := hdep 1 _ rfl (by kernel_rfl); simpa using h
          clear ho hfr hdep hst
          go_wp2_with fail
          exact ⟨rfl, _, rfl, Below.refl _ _, rfl⟩
        · intro o ho a' w' hfr hdep hst
          obtain rfl := Option.some.inj ho
          have g6 : a'.tmps[6]?.getD undef = .pointer (some ⟨G6, 0, none⟩) := by have h := hfr 6 (by kernel_rfl); simpa using h
          obtain ⟨j, _, _, hG⟩ := hst
          clear ho hfr hdep
          have hcl := hG.x6.at_ (j := 0) rfl
          go_wp2_with fail
          exact ⟨rfl, _, rfl, Below.refl _ _, rfl⟩
        · intro o ho a' w' hfr hdep hst
          obtain rfl := Option.some.inj ho
          have g28 : a'.tmps[28]?.getD undef = .int .i64 k := by have h := hdep 3 _ rfl (by kernel_rfl); simpa using h
          clear ho hfr hdep hst
          go_wp2_with fail
          exact ⟨rfl, _, rfl, Below.refl _ _, rfl⟩
        · intro o ho a' w' hfr hdep hst
          obtain rfl := Option.some.inj ho
          have g4 : a'.tmps[4]?.getD undef = .pointer (some ⟨Ga, 0, none⟩) := by have h := hfr 4 (by kernel_rfl); simpa using h
          obtain ⟨j, _, _, hG⟩ := hst
          clear ho hfr hdep
          have hcl := hG.ctx.xa.at_ (j := 0) rfl
          go_wp2_with fail
          exact ⟨rfl, _, rfl, Below.refl _ _, rfl⟩
        · intro o ho a' w' hfr hdep hst
          obtain rfl := Option.some.inj ho
          have g0 : a'.tmps[0]?.getD undef = .int .i64 l := by have h := hfr 0 (by kernel_rfl); simpa using h
          clear ho hfr hdep hst
          go_wp2_with fail
          exact ⟨rfl, _, rfl, Below.refl _ _, rfl⟩
        · intro o ho a' w' hfr hdep hst
          obtain rfl := Option.some.inj ho
          have g32 : a'.tmps[32]?.getD undef = .int .i64 l := by have h := hdep 6 _ rfl (by kernel_rfl); simpa using h
          clear ho hfr hdep hst
          go_wp2_with fail
          exact ⟨rfl, _, rfl, Below.refl _ _, rfl⟩
        · intro o ho a' w' hfr hdep hst
          obtain rfl := Option.some.inj ho
          have g6 : a'.tmps[6]?.getD undef = .pointer (some ⟨G6, 0, none⟩) := by have h := hfr 6 (by kernel_rfl); simpa using h
          obtain ⟨j, _, _, hG⟩ := hst
          clear ho hfr hdep
          have hcl := hG.x6.at_ (j := 0) rfl
          go_wp2_with fail
          exact ⟨rfl, _, rfl, Below.refl _ _, rfl⟩
        · intro o ho a' w' hfr hdep hst
          obtain rfl := Option.some.inj ho
          have g34 : a'.tmps[34]?.getD undef = .int .i64 k := by have h := hdep 8 _ rfl (by kernel_rfl); simpa using h
          clear ho hfr hdep hst
          go_wp2_with fail
          exact ⟨rfl, _, rfl, Below.refl _ _, rfl⟩
        · intro o ho a' w' hfr hdep hst
          obtain rfl := Option.some.inj ho
          have g35 : a'.tmps[35]?.getD undef = .int .i64 (2 * k) := by have h := hdep 9 _ rfl (by kernel_rfl); simpa using h
          clear ho hfr hdep hst
          go_wp2_with fail
          exact ⟨rfl, _, rfl, Below.refl _ _, rfl⟩
      · intro gg w4 hG hp
        obtain ⟨hC, x6, x7, x10, hg, hz, v1, v2, v3⟩ := hG
        have p38 : gg 38 = .agg (D.map B8).toArray := v3 (by decide)
        clear hp v1 v2 v3
        simp only [List.drop_succ_cons, List.drop_zero, List.map_cons, List.map_nil, putAll, Act.put, List.setIfInBounds_toArray, List.set_cons_succ, List.set_cons_zero, List.cons_append, List.nil_append, p38]
        clear p38
        refine store_all 23 _ _ 23 G10 (Z.map B8) (D.map B8) (.agg (D.map B8).toArray) hzD.out x10 (by rfl) (by rfl) rfl (by rw [List.length_map, HDl.out, List.length_map, hZl.out]) (one_map _ (fun _ => rfl) _) ?_
        intro w5 x10b hgr hsz'
        have h5 := below_of_row hgr (Nat.le_of_lt x10.lt)
        have hC := NCtx.mono hCC.out hC h5 (by omega)
        have hg := grown_then hg h5 (by omega)
        have x6 := x6.below h5 (by omega)
        have x7 := x7.below h5 (by omega)
        have x10 := x10b
        clear hgr hsz' h5 x10b
        have hmm := hide hC.mm
        have HGV : Hid (Value.agg (D.map B8).toArray = .agg ((gT s l k).map B8).toArray) := hide (by rw [hgT.out])
        have qm := hC.xm.at_ (j := 0) rfl
        have q6 := x6.at_ (j := 0) rfl
        go_wp2_with (first
          | (with_reducible refine load_box 43 23 _ 23 G10 0 (D.map B8) (D.map B8) isAgg_dig hzD.out x10 rfl (fun j u hj => by rw [Nat.zero_add]; exact hj) ?_)
          | (with_reducible refine hold_update ?_))
        refine hide ?_
        refine put_pair pairK rfl _ _ _ 73 23 rfl Tryd.underlying73 b (gT s) (by rfl) hmm.out l k (by rfl) (by rw [hgT.out]; rfl) ?_
        intro w6 hm6 hg6 hsz6
        have x7 := x7.grown hg6 (fun e => box_ne x7 hmm.out (Option.some.inj e))
        have x10 := x10.grown hg6 (fun e => box_ne x10 hmm.out (Option.some.inj e))
        have hC := hC.grown hg6 hm6
        have hg := grown_trans hg hg6
        clear qm q6 hmm hm6 hg6 hsz6 x6
        go_wp2_with (first
          | (with_reducible refine load_box 44 23 _ 23 G10 0 (D.map B8) (D.map B8) isAgg_dig hzD.out x10 rfl (fun j u hj => by rw [Nat.zero_add]; exact hj) ?_)
          | (with_reducible refine hold_store ?_))
        refine hide ?_
        refine store_all 23 _ _ 23 G7 (Z.map B8) (D.map B8) (.agg (D.map B8).toArray) hzD.out x7 (by rfl) (by rfl) rfl (by rw [List.length_map, HDl.out, List.length_map, hZl.out]) (one_map _ (fun _ => rfl) _) ?_
        intro w7 x9 hgr hsz'
        have h9 := below_of_row hgr (Nat.le_of_lt x7.lt)
        have hC9 := NCtx.mono hCC.out hC h9 (by omega)
        have hg9 := grown_then hg h9 (by omega)
        clear hgr hsz' h9 x7
        go_wp2_with fail
        exact bodyPost_ret (run_results_cell rfl rfl isAgg_dig hzD.out x9) rfl ⟨rfl, hC9, hg9⟩
        


  · have hVD := HVD.out rfl
    subst hVD
    go_wp2_with (with_reducible refine hold_store ?_)
    refine hide ?_
    refine store_all 23 _ _ 23 w1.heap.size (Z.map B8) (V.map B8) (.agg (V.map B8).toArray) hzV.out (Box.new w1 _ _) (by rfl) (by rfl) rfl (by rw [List.length_map, hVl.out, List.length_map, hZl.out]) (one_map _ (fun _ => rfl) _) ?_
    intro w2 x8 hgr hsz'
    have hnew : Below w1.heap.size w1 w2 := (sblo w1 _).grown hgr (by simp) (fun k hk => by cases hk; exact Nat.le_refl _)
    have hC := hC.below hnew
    have hg := grown_trans hg (grown_below hnew)
    have x6 := x6.under hnew
    have x7 := x7.under hnew
    have hltx8 := x8.lt
    clear hgr hsz' hnew
    generalize w1.heap.size = G8 at *
    go_wp2_with (first
      | (with_reducible refine load_box 20 23 _ 23 G8 0 (V.map B8) (V.map B8) isAgg_dig hzV.out x8 rfl (fun j u hj => by rw [Nat.zero_add]; exact hj) ?_)
      | (with_reducible refine hold_store ?_))
    refine hide ?_
    refine store_all 23 _ _ 23 G7 (Z.map B8) (V.map B8) (.agg (V.map B8).toArray) hzV.out x7 (by rfl) (by rfl) rfl (by rw [List.length_map, hVl.out, List.length_map, hZl.out]) (one_map _ (fun _ => rfl) _) ?_
    intro w3 x9 hgr hsz'
    have h9 := below_of_row hgr (Nat.le_of_lt x7.lt)
    have hC9 := NCtx.mono hCC.out hC h9 (by omega)
    have hg9 := grown_then hg h9 (by omega)
    clear hgr hsz' h9 x7
    go_wp2_with fail
    exact bodyPost_ret (run_results_cell rfl rfl isAgg_dig hzV.out x9) rfl ⟨rfl, hC9, hg9⟩

end Go.Proofs.YtblgmjnkllkhbaaDoor
end

/- the text S7 -/
section
/- Chapter 03: nodes, Public. -/
namespace Go.Proofs.YtblgmjnkllkhbaaDoor
open Go.RowKit Go.Dx
theorem run_res_cell2 {P : Program} {w : World} {fn : Func} {tmps : Array Value} {t t2 : Tmp} {ty e : TypeId} {g : Nat} {cs : List Value} {v2 : Value} (hr : fn.results = #[.cell t ty, .tmp t2]) (ht : tmps.getD t undef = .pointer (some ⟨g, 0, none⟩)) (h2 : tmps.getD t2 undef = v2) (hag : IsAgg P ty) (hsz : (P.info? ty).map (·.size) = some cs.length)
    (hb : Box w g e cs) : (results fn tmps).run P w = .ok (.tuple #[.agg cs.toArray, v2]) w := by
  have hl := run_loadVar_box (P := P) (off := 0) hag hsz hb (fun j u hj => by rw [Nat.zero_add]; exact hj)
  have ht2 : tmps[t]?.getD undef = .pointer (some ⟨g, 0, none⟩) := by rw [← ht]; simp
  have ht3 : tmps[t2]?.getD undef = v2 := by rw [← h2]; simp
  simp only [results, hr]
  simp [ht2, ht3, asAddr, hl]
def atV (Gm Gs Ga : Nat) : Value := .func (.func 44) #[] #[.pointer (some ⟨Gm, 0, none⟩), .pointer (some ⟨Gs, 0, none⟩), .pointer (some ⟨Ga, 0, none⟩)]
set_option maxRecDepth 100000 in
set_option maxHeartbeats 2000000 in
theorem sg_nodes (s : ByteArray) (w : World) (hL : Laid w) :
    Calls Tryd.prog 22 #[.string s] w fun e w' => ∃ b Gm Gs Ga, e = .returned (.func (.func 44) #[] #[.pointer (some ⟨Gm, 0, none⟩), .pointer (some ⟨Gs, 0, none⟩), .pointer (some ⟨Ga, 0, none⟩)]) ∧ NCtx s b Gm Gs Ga w' ∧ w.heap.size ≤ b ∧ Below w.heap.size w w' := by
  have hL := hide hL
  go_enter Tryd.func22, Tryd.ntmps22
  have hmm := @run_makeMap Tryd.prog
  go_wp2_with (with_reducible refine hold_store ?_)
  refine hide ?_
  have xs := ((Box.new w 9 #[.string s]).alloc (.map #[] 0)).alloc (.cells #[.map none] 73)
  have m0 : MMap ((w.alloc (.cells #[.string s] 9)).alloc (.map #[] 0)) (w.heap.size + 1) (gT s) := by have h := MMap.new (w.alloc (.cells #[.string s] 9)) (gT s); simpa using h
  have m0 := m0.below (sblo _ (.cells #[.map none] 73)) m0.lt
  have xm := Box.new ((w.alloc (.cells #[.string s] 9)).alloc (.map #[] 0)) 73 #[.map none]
  have xm := box_eq (g' := w.heap.size + 1 + 1) xm (by simp)
  have b0 : Below w.heap.size w (((w.alloc (.cells #[.string s] 9)).alloc (.map #[] 0)).alloc (.cells #[.map none] 73)) := blo3 (blo3 (sblo w _) (Nat.le_refl _) _) (Nat.le_refl _) _
  have z0 : (((w.alloc (.cells #[.string s] 9)).alloc (.map #[] 0)).alloc (.cells #[.map none] 73)).heap.size = w.heap.size + 3 := by simp
  generalize ((w.alloc (.cells #[.string s] 9)).alloc (.map #[] 0)).alloc (.cells #[.map none] 73) = w1 at *
  refine store_all 73 _ _ 73 (w.heap.size + 1 + 1) [.map none] [.map (some (w.heap.size + 1))] (.map (some (w.heap.size + 1))) (by kernel_rfl) xm (by rfl) (by rfl) rfl rfl (by intro u hu; simp at hu; subst hu; rfl) ?_
  intro w2 xm hgr hsz2
  have xs := xs.grown hgr (fun e => by have := Option.some.inj e; omega)
  have m0 := m0.grown hgr (fun e => by have := Option.some.inj e; omega)
  have b0 := b0.grown hgr (by omega) (fun k hk => by cases hk; omega)
  clear hgr
  go_wp2_with (with_reducible refine hold_store ?_)
  refine hide ?_
  have hGa : w2.heap.size = w.heap.size + 3 := by omega
  have xa := Box.new w2 45 #[.nilFunc]
  have xm := xm.alloc (.cells #[.nilFunc] 45)
  have xs := xs.alloc (.cells #[.nilFunc] 45)
  have m0 := m0.below (sblo w2 (.cells #[.nilFunc] 45)) m0.lt
  have b0 := blo3 b0 (Nat.le_refl _) (.cells #[.nilFunc] 45)
  have xa := box_eq xa hGa
  refine store_all 45 _ _ 45 (w.heap.size + 3) [.nilFunc] [.func (.func 44) #[] #[.pointer (some ⟨w.heap.size + 1 + 1, 0, none⟩), .pointer (some ⟨w.heap.size, 0, none⟩), .pointer (some ⟨w.heap.size + 3, 0, none⟩)]] (.func (.func 44) #[] #[.pointer (some ⟨w.heap.size + 1 + 1, 0, none⟩), .pointer (some ⟨w.heap.size, 0, none⟩), .pointer (some ⟨w.heap.size + 3, 0, none⟩)]) (by kernel_rfl) xa (by rfl) (by rfl) rfl rfl (by intro u hu; simp at hu; subst hu; rfl) ?_
  intro w3 xa hgr hsz3
  have xs := xs.grown hgr (fun e => by have := Option.some.inj e; omega)
  have xm := xm.grown hgr (fun e => by have := Option.some.inj e; omega)
  have m0 := m0.grown hgr (fun e => by have := Option.some.inj e; omega)
  have b0 := b0.grown hgr (by simp; omega) (fun k hk => by cases hk; omega)
  have qa := xa.at_ (j := 0) rfl
  clear hgr
  go_wp2_with fail
  go_ret
  exact ⟨w.heap.size + 1, w.heap.size + 1 + 1, w.heap.size, w.heap.size + 3, rfl, ⟨hL.out.below b0, m0, xm, xs, xa⟩, by omega, b0⟩
set_option maxRecDepth 100000 in
set_option maxHeartbeats 2000000 in
theorem sg_Public (s : ByteArray) (h : Int) (h32 : s.size = 32) (h0 : 0 ≤ h) (h6 : h ≤ 6) {D : List UInt8} (hD : treeL s.data.toList h.toNat 0 = D) (w : World) (hL : Laid w) :
    Calls Tryd.prog 12 #[.string s, .int .i64 h] w fun e w' => e = .returned (.tuple #[.agg (D.map B8).toArray, .int .i64 0]) ∧ Below w.heap.size w w' := by
  obtain ⟨Z, hZ⟩ : ∃ Z, Hid (zero16 = Z) := ⟨_, rfl⟩
  have h16 := zero_16
  rw [hZ.out] at h16
  have hZl : Hid (Z.length = 16) := hide (by rw [← hZ.out]; rfl)
  have hL := hide hL
  have hDl : D.length = 16 := by rw [← hD]; exact treeL_len _ _ _
  have HDl := hide hDl
  have HD := hide hD
  have hzD : Hid ((Tryd.prog.info? 23).map (·.size) = some (D.map B8).length) := hide (by rw [List.length_map, hDl]; exact size_dig')
  clear hDl hD
  have hs' : (s.size : Int) = 32 := by omega
  have hval := sg_valid h
  rw [decide_eq_true h0, decide_eq_true h6] at hval
  have hval := hide hval
  have HS := hide h32
  clear h32
  go_enter Tryd.func12, Tryd.ntmps12
  go_wp2_with fail
  obtain ⟨w1, G1, hw1, e1, x1, b1, l1⟩ := allocs1 w (Z.map B8) 23
  rw [← hw1, ← e1]
  have l0 : w.heap.size ≤ G1 := Nat.le_of_eq e1.symm
  clear hw1 e1
  refine (hval.out _).mono ?_
  rintro e w1' ⟨rfl, rfl⟩
  go_wp2_with fail
  refine (sg_nodes s _ (hL.out.below b1)).mono ?_
  rintro e w2 ⟨b, Gm, Gs, Ga, rfl, hC, hbz, h2⟩
  have x1 := x1.under h2
  have b2 := b1.trans (h2.mono b1.size)
  have hz2 := b1.size
  clear h2 b1
  have hp : (0 : Int) < 2 ^ (6 - h.toNat) := Int.pow_pos (by decide)
  go_wp2_with fail
  refine (sg_at s (by have := HS.out; omega) b Gm Gs Ga h.toNat (by omega) h 0 (hide (by omega)) (by omega) hp HD.out _ hC).mono ?_
  rintro e w3 ⟨rfl, hC3, hg3⟩
  have x1 := x1.grown hg3 (fun e => by have := Option.some.inj e; omega)
  have b3 := b2.grown hg3 b2.size (fun k hk => by cases hk; omega)
  clear hg3 b2 hC hC3
  go_wp2_with (with_reducible refine hold_store ?_)
  refine hide ?_
  refine store_all 23 _ _ 23 G1 (Z.map B8) (D.map B8) (.agg (D.map B8).toArray) hzD.out x1 (by rfl) (by rfl) rfl (by rw [List.length_map, HDl.out, List.length_map, hZl.out]) (one_map _ (fun _ => rfl) _) ?_
  intro w4 x9 hgr hsz'
  have b4 := b3.grown hgr b3.size (fun k hk => by cases hk; omega)
  go_wp2_with fail
  exact bodyPost_ret (run_res_cell2 rfl rfl rfl isAgg_dig hzD.out x9) rfl ⟨rfl, b4⟩
set_option maxRecDepth 100000 in
set_option maxHeartbeats 2000000 in
theorem sg_Public_bad (s : ByteArray) (h : Int) (hb : ¬ (s.size = 32 ∧ 0 ≤ h ∧ h ≤ 6)) (hs : s.size ≤ 9223372036854775807) (w : World) :
    Calls Tryd.prog 12 #[.string s, .int .i64 h] w fun e w' => e = .returned (.tuple #[.agg (zero16.map B8).toArray, .int .i64 1]) ∧ Below w.heap.size w w' := by
  obtain ⟨Z, hZ⟩ : ∃ Z, Hid (zero16 = Z) := ⟨_, rfl⟩
  have h16 := zero_16
  rw [hZ.out] at h16 ⊢
  have hZl : Hid (Z.length = 16) := hide (by rw [← hZ.out]; rfl)
  have hzZ : Hid ((Tryd.prog.info? 23).map (·.size) = some (Z.map B8).length) := hide (by rw [List.length_map, hZl.out]; exact size_dig')
  have hbz : ∀ W : World, (Instr.build 23 #[]).run Tryd.prog W = .ok (.agg (Z.map B8).toArray) W := by rw [← hZ.out]; exact build_z16
  have hbz := hide hbz
  have x1 := Box.new w 23 (Z.map B8).toArray
  have b1 := sblo w (.cells (Z.map B8).toArray 23)
  have hval := sg_valid h
  obtain ⟨vb, hvb⟩ : ∃ vb, Hid ((decide (0 ≤ h) && decide (h ≤ 6)) = vb) := ⟨_, rfl⟩
  rw [hvb.out] at hval
  have hval := hide hval
  have fin : ∀ (Q : Exit → Act → World → Prop), True := fun _ => trivial
  go_enter Tryd.func12, Tryd.ntmps12
  by_cases h32 : s.size = 32
  · have hvf : vb = false := by
      rw [← hvb.out]
      by_cases h0 : 0 ≤ h
      · have h6 : ¬ h ≤ 6 := fun h6 => hb ⟨h32, h0, h6⟩
        simp [h6]
      · simp [h0]
    have hs' : (s.size : Int) = 32 := by omega
    clear hb
    subst hvf
    go_wp2_with fail
    refine (hval.out _).mono ?_
    rintro e w1' ⟨rfl, rfl⟩
    have hbz' := hbz.out
    go_wp2_with (with_reducible refine hold_store ?_)
    refine hide ?_
    refine store_all 23 _ _ 23 w.heap.size (Z.map B8) (Z.map B8) (.agg (Z.map B8).toArray) hzZ.out x1 (by rfl) (by rfl) rfl rfl (one_map _ (fun _ => rfl) _) ?_
    intro w4 x9 hgr hsz'
    have b4 := b1.grown hgr b1.size (fun k hk => by cases hk; exact Nat.le_refl _)
    go_wp2_with fail
    exact bodyPost_ret (run_res_cell2 rfl rfl rfl isAgg_dig hzZ.out x9) rfl ⟨rfl, b4⟩
  · have d0 : ((s.size : Int) == 32) = false := by simp; omega
    have d1 : ((s.size : Int) != 32) = true := by simp [bne, d0]
    have d2 : decide ((s.size : Int) = 32) = false := decide_eq_false (by omega)
    have d3 : ¬ (s.size : Int) = 32 := by omega
    have hbz' := hbz.out
    clear hb
    go_wp2_with (with_reducible refine hold_store ?_)
    refine hide ?_
    refine store_all 23 _ _ 23 w.heap.size (Z.map B8) (Z.map B8) (.agg (Z.map B8).toArray) hzZ.out x1 (by rfl) (by rfl) rfl rfl (one_map _ (fun _ => rfl) _) ?_
    intro w4 x9 hgr hsz'
    have b4 := b1.grown hgr b1.size (fun k hk => by cases hk; exact Nat.le_refl _)
    go_wp2_with fail
    exact bodyPost_ret (run_res_cell2 rfl rfl rfl isAgg_dig hzZ.out x9) rfl ⟨rfl, b4⟩
end Go.Proofs.YtblgmjnkllkhbaaDoor
end

/- the text S8 -/
section
/- Chapter 03: Sign. -/
namespace Go.Proofs.YtblgmjnkllkhbaaDoor
open Go.RowKit Go.Dx
/-- the value of the tree beside the way, at level l -/
def sib (i : Int) (l : Nat) : Int := if (i / 2 ^ l) % 2 = 0 then i / 2 ^ l + 1 else i / 2 ^ l - 1
def chainsL (s : List UInt8) (i : Int) (D : List UInt8) : List UInt8 := catL (fun c => advL i c 0 (dgs D c) (startL s i c)) 68
def pathL (s : List UInt8) (i : Int) (h : Nat) : List UInt8 := catL (fun l => treeL s l (sib i l)) h
/-- the signature -/
def signL (s : List UInt8) (h : Nat) (i : Int) (m : ByteArray) : List UInt8 := encInt i ++ chainsL s i (msgD (treeL s h 0) i m) ++ pathL s i h
/-- a builder lies beside the map -/
theorem builder_grown {T e : TypeId} {B b0 b : Nat} {bs : List Value} {w w' : World} {g : Int → Int → List UInt8} (h : Lib.IsBuilder T e B b0 bs w) (hg : w.grownBy w' (some b)) (m : MMap w b g) : Lib.IsBuilder T e B b0 bs w' := by
  obtain ⟨es, cl, hb, _⟩ := m.ex
  have ne : ∀ {k : Nat} {cs : Array Value} {t : TypeId} {f : Nat × Nat}, w.heap[k]? = some (.cells cs t f) → w'.heap[k]? = some (.cells cs t f) := fun {k cs t f} hk =>
    (hg.block k (Array.getElem?_eq_some_iff.1 hk).1 (fun e => by have e := Option.some.inj e; subst e; rw [hk] at hb; cases hb)).trans hk
  have k : ∀ p, Lib.BuilderAt T e B b0 p bs w → Lib.BuilderAt T e B b0 p bs w' := by
    rintro p ⟨hB, v, hh, ⟨o1, o2⟩, hn⟩
    refine ⟨hB, v, ne hh, ⟨o1, ?_⟩, hn⟩
    rcases o2 with o2 | ⟨q, cap, cur, hv, hq, hh2, h3⟩
    · exact .inl o2
    · exact .inr ⟨q, cap, cur, hv, hq, ne hh2, h3⟩
  exact h.imp (k _) (k _)
theorem own_ex {w : World} {B : Nat} {e : TypeId} {a : Option Addr} {n c : Nat} {cs : List Value} (h : Own w B e 1 a n c cs) (hn : 0 < n) : ∃ g, a = some ⟨g, 0, none⟩ ∧ B ≤ g := by
  rcases h.2 with ⟨_, h0⟩ | ⟨g, cap, cur, hv, hg, _⟩
  · omega
  · injection hv with h1; exact ⟨g, h1, hg⟩
theorem sib_bits {q : Int} (h0 : 0 ≤ q) (h1 : q < 64) : bits .xor .i64 q 1 = if q % 2 = 0 then q + 1 else q - 1 := by
  have h : ∀ n : Fin 64, bits .xor .i64 (n.val : Int) 1 = if ((n.val : Nat) : Int) % 2 = 0 then (n.val : Int) + 1 else (n.val : Int) - 1 := by decide
  have h2 := h ⟨q.toNat, by omega⟩
  simp only [Int.toNat_of_nonneg h0] at h2
  exact h2
set_option maxRecDepth 100000 in
theorem sib_in {i : Int} {H l : Nat} (h0 : 0 ≤ i) (h1 : i < 64) (hH : H ≤ 6) (hl : l < H) (hi : i < 2 ^ H) : 0 ≤ sib i l ∧ sib i l < 2 ^ (6 - l) := by
  have h : ∀ H l : Fin 7, l.val < H.val → ∀ n : Fin 64, ((n.val : Nat) : Int) < 2 ^ H.val → 0 ≤ sib (n.val : Int) l.val ∧ sib (n.val : Int) l.val < 2 ^ (6 - l.val) := by decide +kernel
  have h2 := h ⟨H, by omega⟩ ⟨l, by omega⟩ hl ⟨i.toNat, by omega⟩
  simp only [Int.toNat_of_nonneg h0] at h2
  exact h2 hi
set_option maxRecDepth 100000 in
set_option maxHeartbeats 4000000 in
theorem sg_Sign (s : ByteArray) (h i : Int) (m : ByteArray) (h32 : s.size = 32) (h0 : 0 ≤ h) (h6 : h ≤ 6) (hi0 : 0 ≤ i) (hi1 : i < 2 ^ h.toNat) (hm : m.size ≤ 10000) {R : List UInt8} (hR : signL s.data.toList h.toNat i m = R) (w : World) (hL : Laid w) :
    Calls Tryd.prog 14 #[.string s, .int .i64 h, .int .i64 i, .string m] w fun e w' => e = .returned (.tuple #[.string ⟨R.toArray⟩, .int .i64 0]) ∧ Below w.heap.size w w' := by
  obtain ⟨Z, hZ⟩ : ∃ Z, Hid (zero16 = Z) := ⟨_, rfl⟩
  have h16 := zero_16
  rw [hZ.out] at h16
  have hZl : Hid (Z.length = 16) := hide (by rw [← hZ.out]; rfl)
  have hL := hide hL
  obtain ⟨H, rfl⟩ : ∃ H : Nat, h = (H : Int) := ⟨h.toNat, by omega⟩
  rw [Int.toNat_natCast] at hi1 hR
  have hH : H ≤ 6 := by omega
  have hp2 : (2 : Int) ^ H ≤ 64 := by rcases (by omega : H = 0 ∨ H = 1 ∨ H = 2 ∨ H = 3 ∨ H = 4 ∨ H = 5 ∨ H = 6) with rfl | rfl | rfl | rfl | rfl | rfl | rfl <;> decide
  have hi64 : i < 64 := by omega
  have hw2 : wrap64 ((2 : Int) ^ H) = 2 ^ H := by
    have hp1 : (0 : Int) < 2 ^ H := Int.pow_pos (by decide)
    generalize (2 : Int) ^ H = p at *
    unfold wrap64
    omega
  have d3 : decide (wrap64 ((2 : Int) ^ H) ≤ i) = false := by rw [hw2]; exact decide_eq_false (by omega)
  clear hp2 hw2
  have hs' : (s.size : Int) = 32 := by omega
  have hm' : (m.size : Int) ≤ 1048576 := by omega
  have hval := sg_valid (H : Int)
  rw [decide_eq_true h0, decide_eq_true h6] at hval
  have hval := hide hval
  have HS := hide h32
  have HI := hide hi1
  have d1 : decide (i < 0) = false := decide_eq_false (by omega)
  have d2 : decide ((1048576 : Int) < m.size) = false := decide_eq_false (by omega)
  obtain ⟨T, HT⟩ : ∃ T, Hid (treeL s.data.toList H 0 = T) := ⟨_, rfl⟩
  have hTl : Hid (T.length = 16) := hide (by rw [← HT.out]; exact treeL_len _ _ _)
  obtain ⟨D, HD⟩ : ∃ D, Hid (msgD T i m = D) := ⟨_, rfl⟩
  have hDl : Hid (D.length = 16) := hide (by rw [← HD.out]; exact List.length_take.trans (by rw [sha_len]; rfl))
  obtain ⟨E, HE⟩ : ∃ E, Hid (encInt i = E) := ⟨_, rfl⟩
  have hEl : Hid (E.length ≤ 9) := hide (by rw [← HE.out]; exact encInt_le i)
  have hEp : Hid (0 < E.length) := hide (by rw [← HE.out]; have := encInt_pos i; omega)
  obtain ⟨f, Hf⟩ : ∃ f : Nat → List UInt8, Hid (∀ c : Nat, f c = advL i c 0 (dgs D c) (startL s.data.toList i c)) := ⟨_, fun _ => rfl⟩
  have hfl : ∀ c, (f c).length = 16 := fun c => by rw [Hf.out]; exact advL_len _ _ _ _ (startL_len _ _ _)
  obtain ⟨p, Hp⟩ : ∃ p : Nat → List UInt8, Hid (∀ l : Nat, p l = treeL s.data.toList l (sib i l)) := ⟨_, fun _ => rfl⟩
  have hpl : ∀ c, (p c).length = 16 := fun c => by rw [Hp.out]; exact treeL_len _ _ _
  have HR : Hid (R = E ++ catL f 68 ++ catL p H) := hide (by
    rw [← hR]; unfold signL chainsL pathL
    rw [HE.out, HT.out, HD.out, show f = fun c : Nat => advL i c 0 (dgs D c) (startL s.data.toList i c) from funext Hf.out, show p = fun l : Nat => treeL s.data.toList l (sib i l) from funext Hp.out])
  have hcf := hide (catL_len hfl)
  have hcp := hide (catL_len hpl)
  have hfl := hide hfl
  have hpl := hide hpl
  clear h32 hi1 h0 h6 hR
  go_enter Tryd.func14, Tryd.ntmps14
  go_wp2_with fail
  refine (hval.out _).mono ?_
  rintro e w1' ⟨rfl, hq⟩
  rw [hq]
  clear hq
  go_wp2_with fail
  refine (sg_nodes s _ hL.out).mono ?_
  rintro e w2 ⟨b, Gm, Gs, Ga, rfl, hC, hbz, b2⟩
  have hCC := hide hC
  clear d1 d2 d3 hs' hm'
  go_wp2_with fail
  obtain ⟨w3, G11, hw3, e11, x11, b3, l3⟩ := allocs1 w2 [.pointer none, .slice none 0 0] 54
  have hB0 : Lib.IsBuilder 54 5 G11 G11 (([] : List UInt8).map B8) w3 := .inl ⟨Nat.le_refl _, .slice none 0 0, x11, World.ownsRow_nil _ _ _ _, by simp [Value.ownBlock]⟩
  have hC := hC.below b3
  have hz2 := b2.size
  have b3 := b2.trans (b3.mono b2.size)
  rw [← hw3, ← e11]
  have l0 : w2.heap.size ≤ G11 := Nat.le_of_eq e11.symm
  clear hw3 e11 x11 b2
  have HW := wire_Int i (by omega) (by omega) w3
  rw [HE.out] at HW
  refine HW.mono ?_
  rintro e w4 ⟨a4, c4, rfl, o4, h4⟩
  obtain ⟨g4, rfl, hg4⟩ := own_ex o4 hEp.out
  have hB4 := builder_below hB0 h4
  have hC := hC.below h4
  have b4 := b3.trans (h4.mono b3.size)
  have hz4 := h4.size
  clear h4 b3 hB0 HW
  go_wp2_with fail
  refine (sb_Write G11 G11 _ E g4 0 c4 _ hB4 (by omega) o4.sl (by have := hEl.out; simp; omega) (by omega)).mono ?_
  rintro e w5 ⟨rfl, hB5, h5, hk5⟩
  have hC := NCtx.mono hCC.out hC h5 l0
  have b5 := b4.trans (h5.mono (by omega))
  have hz5 := h5.size
  clear hk5 h5 b4 hB4 o4
  have hpp : (0 : Int) < 2 ^ (6 - H) := Int.pow_pos (by decide)
  go_wp2_with fail
  refine (sg_at s (by have := HS.out; omega) b Gm Gs Ga H (by omega) H 0 (hide rfl) (by omega) hpp HT.out _ hC).mono ?_
  rintro e w6 ⟨rfl, hC6, hg6⟩
  have hB6 := builder_grown (.inr hB5) hg6 hC.mm
  have b6 := b5.grown hg6 b5.size (fun k hk => by cases hk; omega)
  have hz6 := hg6.size
  clear hg6 b5 hB5 hC hpp
  go_wp2_with fail
  refine (sg_Digest T hTl.out i (by omega) (by omega) m hm HD.out _ hC6.laid).mono ?_
  rintro e w7 ⟨rfl, h7⟩
  have hC7 := hC6.below h7
  have hB7 := builder_below hB6 h7
  have b7 := b6.trans (h7.mono b6.size)
  have hz7 := h7.size
  clear h7 b6 hB6 hC6
  go_wp2_with fail
  refine (sg_Digits D hDl.out _).mono ?_
  rintro e w8 ⟨bd, rfl, x8, hbd, h8⟩
  have hC8 := hC7.below h8
  have hB8 : Lib.IsBuilder 54 5 G11 G11 (E.map B8) w8 := builder_below hB7 h8
  have b8 := b7.trans (h8.mono b7.size)
  have hz8 := h8.size
  have hdb : bd ≠ G11 := by have := builder_lt hB7; omega
  clear h8 b7 hB7 hC7 hbd
  have l5 : w.heap.size ≤ G11 := by omega
  clear hz2 hz4 hz5 hz6 hz7 hz8
  go_wp2_with fail
  go_loopg [52] 68 (fun gh v w' => ∃ c : Nat, c ≤ 68 ∧ gh = 68 - c ∧ v = .int .i64 (c : Int) ∧ Lib.IsBuilder 54 5 G11 G11 ((E ++ catL f c).map B8) w' ∧ NCtx s b Gm Gs Ga w' ∧ Box w' bd 43 (((List.range 68).map fun j => (dgs D j : Int)).map I64) ∧ Below w.heap.size w w')
  case atStart => exact ⟨0, by omega, by omega, rfl, by rw [catL, List.append_nil]; exact hB8, hC8, x8, b8⟩
  case round =>
    clear hB8 hC8 x8 b8
    obtain ⟨c, hc, hg, rfl, hB, hC, x8, bb⟩ := hrel
    have HG := hide hg
    clear hg
    have hlB := builder_lt hB
    by_cases hlt : c < 68
    · have d0 : decide ((c : Int) < 68) = true := decide_eq_true (by omega)
      have q8 : wr.cell? ⟨bd, c, none⟩ = some (.int .i64 (dgs D c : Int)) := x8.at_ (by rw [List.getElem?_map, List.getElem?_map, List.getElem?_range hlt]; rfl)
      obtain ⟨S0, HS0⟩ : ∃ S, Hid (startL s.data.toList i c = S) := ⟨_, rfl⟩
      have hS0l : S0.length = 16 := by rw [← HS0.out]; exact startL_len _ _ _
      obtain ⟨V, HV⟩ : ∃ V, Hid (f c = V) := ⟨_, rfl⟩
      have hVl : Hid (V.length = 16) := hide (by rw [← HV.out]; exact hfl.out _)
      have hzV : Hid ((Tryd.prog.info? 23).map (·.size) = some (V.map B8).length) := hide (by rw [List.length_map, hVl.out]; exact size_dig')
      have hdg := dgs_le D c
      have HAV : advL i c 0 (dgs D c) S0 = V := by rw [← HV.out, Hf.out, HS0.out]
      have HAV := hide HAV
      obtain ⟨dg, hdgE⟩ : ∃ dg, Hid (dgs D c = dg) := ⟨_, rfl⟩
      rw [hdgE.out] at q8 hdg HAV
      go_wp2_with fail
      refine (sg_start s (by have := HS.out; omega) i c ⟨hi0, by omega⟩ (by omega) HS0.out _ hC.laid).mono ?_
      rintro e w9 ⟨rfl, h9⟩
      have hB9 := builder_below hB h9
      have hC9 := hC.below h9
      have x9 := x8.under h9
      have b9 := bb.trans (h9.mono bb.size)
      clear h9 hB hC x8 bb q8
      go_wp2_with fail
      refine (sg_adv i c 0 dg ⟨hi0, by omega⟩ (by omega) dg (by omega) (by omega) (by omega) S0 hS0l HAV.out _ hC9.laid).mono ?_
      rintro e w10 ⟨rfl, h10⟩
      have hB10 := builder_below hB9 h10
      have hC10 := hC9.below h10
      have x10 := x9.under h10
      have b10 := b9.trans (h10.mono b9.size)
      clear h10 hB9 hC9 x9 b9
      go_wp2_with (with_reducible refine hold_store ?_)
      refine hide ?_
      refine store_all 23 _ _ 23 w10.heap.size (Z.map B8) (V.map B8) (.agg (V.map B8).toArray) hzV.out (Box.new w10 _ _) (by rfl) (by rfl) rfl (by rw [List.length_map, hVl.out, List.length_map, hZl.out]) (one_map _ (fun _ => rfl) _) ?_
      intro w11 x5 hgr hsz'
      have h11 : Below w10.heap.size w10 w11 := (sblo w10 _).grown hgr (by simp) (fun k hk => by cases hk; exact Nat.le_refl _)
      have hB11 := builder_below hB10 h11
      have hC11 := hC10.below h11
      have hlB2 := builder_lt hB10
      have b11 := b10.trans (h11.mono b10.size)
      have x11 := x10.under h11
      generalize w10.heap.size = G5 at *
      clear hgr hsz' h11 hB10 hC10 b10
      clear x10
      have s5 := x5.dig hVl.out
      have hlb := builder_lt hB11
      go_wp2_with (first
        | (with_reducible refine cut_var 65 23 5 16 _ none none Tryd.underlying23 size_u8 G5 0 rfl 0 16 (.inl ⟨rfl, rfl⟩) (.inl ⟨rfl, rfl⟩) (by omega) (by omega) (by omega) ?_))
      refine (sb_Write_n G11 G11 _ V 16 hVl.out G5 0 _ _ hB11 (by omega) s5 (by rw [List.length_map, List.length_append, hcf.out]; have := hEl.out; omega) (by omega)).mono ?_
      rintro e w12 ⟨rfl, hB12, h12, hk12⟩
      have hC12 := NCtx.mono hCC.out hC11 h12 l0
      have b12 := b11.trans (h12.mono l5)
      have x12 := hk12 _ _ _ hdb (by decide) x11
      clear hk12 h12 hB11 hC11 b11 s5 x5
      clear x11
      go_wp2_with fail
      go_roundg (68 - (c + 1))
      case measure => have := HG.out; omega
      case rel => exact ⟨c + 1, by omega, rfl, by go_num, by rw [catL, ← List.append_assoc, List.map_append, HV.out]; exact .inr hB12, hC12, x12, b12⟩
    · obtain rfl : c = 68 := by omega
      have d0 : decide ((68 : Int) < 68) = false := by decide
      clear x8 hdb
      obtain ⟨C, HC⟩ : ∃ C, Hid (E ++ catL f 68 = C) := ⟨_, rfl⟩
      have hCl : Hid (C.length ≤ 1097) := hide (by rw [← HC.out, List.length_append, hcf.out]; have := hEl.out; omega)
      rw [HC.out] at hB
      go_wp2_with fail
      go_loopg [69] H (fun gh v w' => ∃ l : Nat, l ≤ H ∧ gh = H - l ∧ v = .int .i64 (l : Int) ∧ Lib.IsBuilder 54 5 G11 G11 ((C ++ catL p l).map B8) w' ∧ NCtx s b Gm Gs Ga w' ∧ Below w.heap.size w w')
      case atStart => exact ⟨0, by omega, by omega, rfl, by rw [catL, List.append_nil]; exact hB, hC, bb⟩
      case round =>
        clear hB hC bb hlB d0
        obtain ⟨l, hl, hg, rfl, hB, hC, bb⟩ := hrel
        have HG2 := hide hg
        clear hg
        have hlB := builder_lt hB
        by_cases hlt2 : l < H
        · have d0 : decide ((l : Int) < (H : Int)) = true := decide_eq_true (by omega)
          have d0' : decide (l < H) = true := decide_eq_true hlt2
          have hq0 : 0 ≤ i / 2 ^ l := Int.ediv_nonneg hi0 (Int.le_of_lt (Int.pow_pos (by decide)))
          have hq1 : i / 2 ^ l < 64 := Int.lt_of_le_of_lt (Int.ediv_le_self _ hi0) hi64
          have hx : bits .xor .i64 (i / 2 ^ l) 1 = sib i l := sib_bits hq0 hq1
          have hsb := sib_in hi0 hi64 hH hlt2 HI.out
          have hsb := hide hsb
          clear hq0 hq1
          obtain ⟨V, HV⟩ : ∃ V, Hid (p l = V) := ⟨_, rfl⟩
          have hVl : Hid (V.length = 16) := hide (by rw [← HV.out]; exact hpl.out _)
          have hzV : Hid ((Tryd.prog.info? 23).map (·.size) = some (V.map B8).length) := hide (by rw [List.length_map, hVl.out]; exact size_dig')
          have HTV : Hid (treeL s.data.toList l (sib i l) = V) := hide (by rw [← HV.out, Hp.out])
          go_wp2_with fail
          refine (sg_at s (by have := HS.out; omega) b Gm Gs Ga l (by omega) l (sib i l) (hide rfl) hsb.out.1 hsb.out.2 HTV.out _ hC).mono ?_
          rintro e w10 ⟨rfl, hC10, hg10⟩
          have hB10 := builder_grown hB hg10 hC.mm
          have b10 := bb.grown hg10 bb.size (fun k hk => by cases hk; omega)
          have hz10 := hg10.size
          clear hg10 hB hC bb
          go_wp2_with (with_reducible refine hold_store ?_)
          refine hide ?_
          refine store_all 23 _ _ 23 w10.heap.size (Z.map B8) (V.map B8) (.agg (V.map B8).toArray) hzV.out (Box.new w10 _ _) (by rfl) (by rfl) rfl (by rw [List.length_map, hVl.out, List.length_map, hZl.out]) (one_map _ (fun _ => rfl) _) ?_
          intro w11 x5 hgr hsz'
          have h11 : Below w10.heap.size w10 w11 := (sblo w10 _).grown hgr (by simp) (fun k hk => by cases hk; exact Nat.le_refl _)
          have hB11 := builder_below hB10 h11
          have hC11 := hC10.below h11
          have hlB2 := builder_lt hB10
          have b11 := b10.trans (h11.mono b10.size)
          generalize w10.heap.size = G5 at *
          clear hgr hsz' h11 hB10 hC10 b10
          have s5 := x5.dig hVl.out
          have hlb := builder_lt hB11
          go_wp2_with (first
            | (with_reducible refine cut_var 79 23 5 16 _ none none Tryd.underlying23 size_u8 G5 0 rfl 0 16 (.inl ⟨rfl, rfl⟩) (.inl ⟨rfl, rfl⟩) (by omega) (by omega) (by omega) ?_))
          refine (sb_Write_n G11 G11 _ V 16 hVl.out G5 0 _ _ hB11 (by omega) s5 (by rw [List.length_map, List.length_append, hcp.out]; have := hCl.out; omega) (by omega)).mono ?_
          rintro e w12 ⟨rfl, hB12, h12, hk12⟩
          have hC12 := NCtx.mono hCC.out hC11 h12 l0
          have b12 := b11.trans (h12.mono l5)
          clear hk12 h12 hB11 hC11 b11 s5 x5
          go_wp2_with fail
          go_roundg (H - (l + 1))
          case measure => have := HG2.out; omega
          case rel => exact ⟨l + 1, by omega, rfl, by go_num, by rw [catL, ← List.append_assoc, List.map_append, HV.out]; exact .inr hB12, hC12, b12⟩
        · obtain rfl : l = H := by omega
          have d0 : decide ((l : Int) < (l : Int)) = false := decide_eq_false (by omega)
          have HR2 : Hid (R = C ++ catL p l) := hide (by rw [HR.out, HC.out])
          rw [← HR2.out] at hB
          go_wp2_with fail
          refine (Tryd.Builder_String_any G11 G11 R _ hB (by omega)).mono ?_
          rintro e w13 ⟨rfl, h13⟩
          go_wp2_with fail
          go_ret2
          exact ⟨rfl, bb.trans (h13.mono l5)⟩
end Go.Proofs.YtblgmjnkllkhbaaDoor
end

/- the text S9 -/
section
/- Chapter 03: Verify's closures. -/
namespace Go.Proofs.YtblgmjnkllkhbaaDoor
open Go.RowKit Go.Dx
/-- digest c of the signature's body -/
def valL (l : List UInt8) (c : Nat) : List UInt8 := (l.drop (c * 16)).take 16
theorem valL_len {l : List UInt8} {c : Nat} (h : (c + 1) * 16 ≤ l.length) : (valL l c).length = 16 := by unfold valL; rw [List.length_take, List.length_drop]; omega
set_option maxRecDepth 100000 in
set_option maxHeartbeats 2000000 in
theorem sg_value (l : List UInt8) (c : Nat) (hc : (c + 1) * 16 ≤ l.length) (a : Option Addr) (n cp : Nat) (Gr : Nat) {D : List UInt8} (hD : valL l c = D) (hm : l.length ≤ 1000000) (w : World)
    (xr : Box w Gr 52 [.slice a n cp]) (hs : Sl w 1 a n cp (l.map B8)) :
    Calls Tryd.prog 37 #[.int .i64 (c : Int), .pointer (some ⟨Gr, 0, none⟩)] w fun e w' => e = .returned (.agg (D.map B8).toArray) ∧ Below w.heap.size w w' := by
  obtain ⟨Z, hZ⟩ : ∃ Z, Hid (zero16 = Z) := ⟨_, rfl⟩
  have h16 := zero_16
  rw [hZ.out] at h16
  have hZl : Hid (Z.length = 16) := hide (by rw [← hZ.out]; rfl)
  obtain rfl := hs.n_eq
  have hDl : D.length = 16 := by rw [← hD]; exact valL_len hc
  have HDl := hide hDl
  have HD : Hid (((l.drop (c * 16)).take ((c + 1) * 16 - c * 16)) = D) := hide (by rw [← hD, show (c + 1) * 16 - c * 16 = 16 by omega]; rfl)
  have hzD : Hid ((Tryd.prog.info? 23).map (·.size) = some (D.map B8).length) := hide (by rw [List.length_map, hDl]; exact size_dig')
  clear hDl hD
  go_enter Tryd.func37, Tryd.ntmps37
  obtain ⟨w1, G1, hw1, e1, x1, b1, l1⟩ := allocs1 w (Z.map B8) 23
  have xr := xr.under b1
  have hs1 := hs.below b1
  have qr := xr.at_ (j := 0) rfl
  rw [hw1] at qr hs1
  have HCUT : Hid (∀ {a3 : Option Addr} {m c3 : Nat}, Sl (w.alloc (.cells (Z.map B8).toArray 23)) 1 a3 m c3 (((l.drop (c * 16)).take ((c + 1) * 16 - c * 16)).map B8) → ∃ b o, a3 = some ⟨b, o, none⟩ ∧ ∀ j u, (D.map B8)[j]? = some u → (w.alloc (.cells (Z.map B8).toArray 23)).cell? ((⟨b, o, none⟩ : Addr).add j) = some u) := by
    intro a3 m c3 h
    rw [HD.out] at h
    obtain ⟨b, o, rfl, _, hc⟩ := h.ex (by rw [List.length_map, HDl.out]; decide)
    exact ⟨b, o, rfl, h.cell _ rfl⟩
  go_wp2_with (first
    | (with_reducible refine cut_b 10 _ _ _ _ _ _ l rfl hs1 _ _ _ _ (c * 16) ((c + 1) * 16) rfl rfl (by go_num) (by go_num) (by omega) (by omega) ?_; intro a3 hs3 hp3; obtain ⟨b3, o3, rfl, hc3⟩ := HCUT.out hs3; have HC3 := hide hc3; clear hc3)
    | (with_reducible refine arr_dig 11 _ _ _ _ rfl (by omega) ?_)
    | (with_reducible refine load_dig 12 _ _ rfl (D.map B8) (by rw [List.length_map]; exact HDl.out) HC3.out ?_)
    | (with_reducible refine hold_store ?_))
  refine hide ?_
  rw [← hw1, ← e1]
  have l0 : w.heap.size ≤ G1 := Nat.le_of_eq e1.symm
  refine store_all 23 _ _ 23 G1 (Z.map B8) (D.map B8) (.agg (D.map B8).toArray) hzD.out x1 (by rfl) (by rfl) rfl (by rw [List.length_map, HDl.out, List.length_map, hZl.out]) (one_map _ (fun _ => rfl) _) ?_
  intro w6 x9 hgr hsz'
  clear e1
  go_wp2_with fail
  refine bodyPost_ret (run_results_cell rfl rfl isAgg_dig hzD.out x9) rfl ⟨rfl, ?_⟩
  exact b1.grown hgr b1.size (fun k hk => by cases hk; omega)
set_option maxRecDepth 100000 in
set_option maxHeartbeats 2000000 in
theorem sg_chain2 (l M : List UInt8) (hl : 68 * 16 ≤ l.length) (hm : l.length ≤ 1000000) (i : Int) (hi : 0 ≤ i ∧ i ≤ 9223372036854775807) (a : Option Addr) (n cp : Nat) (Gi Gd Gv Gr bd : Nat) (c : Nat) (hc : c < 68) {D : List UInt8} (hD : advL i c (dgs M c) (3 - dgs M c) (valL l c) = D) (w : World) (hL : Laid w) (xi : Box w Gi 3 [.int .i64 i]) (xd : Box w Gd 25 [.slice (some ⟨bd, 0, none⟩) 68 68]) (x8 : Box w bd 43 (((List.range 68).map fun j => (dgs M j : Int)).map I64)) (xv : Box w Gv 69 [.func (.func 37) #[] #[.pointer (some ⟨Gr, 0, none⟩)]]) (xr : Box w Gr 52 [.slice a n cp]) (hs : Sl w 1 a n cp (l.map B8)) :
    Calls Tryd.prog 39 #[.int .i64 (c : Int), .pointer (some ⟨Gi, 0, none⟩), .pointer (some ⟨Gd, 0, none⟩), .pointer (some ⟨Gv, 0, none⟩)] w fun e w' => e = .returned (.agg (D.map B8).toArray) ∧ Below w.heap.size w w' := by
  obtain ⟨Z, hZ⟩ : ∃ Z, Hid (zero16 = Z) := ⟨_, rfl⟩
  have h16 := zero_16
  rw [hZ.out] at h16
  have hZl : Hid (Z.length = 16) := hide (by rw [← hZ.out]; rfl)
  have hL := hide hL
  obtain ⟨V, HV⟩ : ∃ V, Hid (valL l c = V) := ⟨_, rfl⟩
  have hVl : Hid (V.length = 16) := hide (by rw [← HV.out]; exact valL_len (by omega))
  have hdg := dgs_le M c
  obtain ⟨dg, hdgE⟩ : ∃ dg, Hid (dgs M c = dg) := ⟨_, rfl⟩
  rw [hdgE.out] at hdg
  have HD : Hid (advL i c dg (3 - dg) V = D) := hide (by rw [← HV.out, ← hdgE.out]; exact hD)
  have hDl : D.length = 16 := by rw [← HD.out]; exact advL_len _ _ _ _ hVl.out
  have HDl := hide hDl
  have Q8 : Hid ((((List.range 68).map fun j => (dgs M j : Int)).map I64)[c]? = some (.int .i64 (dg : Int))) := hide (by rw [List.getElem?_map, List.getElem?_map, List.getElem?_range hc, ← hdgE.out]; rfl)
  have hzD : Hid ((Tryd.prog.info? 23).map (·.size) = some (D.map B8).length) := hide (by rw [List.length_map, hDl]; exact size_dig')
  clear hDl hD
  go_enter Tryd.func39, Tryd.ntmps39
  go_wp2_with fail
  obtain ⟨w1, G1, hw1, e1, x1, b1, l1⟩ := allocs1 w (Z.map B8) 23
  have hL1 := hide (hL.out.below b1)
  have xi := xi.under b1
  have xd := xd.under b1
  have x8 := x8.under b1
  have xv := xv.under b1
  have xr := xr.under b1
  have hs := hs.below b1
  rw [← hw1, ← e1]
  have l0 : w.heap.size ≤ G1 := Nat.le_of_eq e1.symm
  clear hw1 e1
  refine wp_region_free 10 [⟨0, 6, [6], fun vs _ => vs = [.int .i64 i]⟩, ⟨1, 7, [7], fun vs _ => vs = [.int .i64 (c : Int)]⟩, ⟨2, 8, [8], fun vs _ => vs = [.slice (some ⟨bd, 0, none⟩) 68 68]⟩, ⟨3, 9, [9], fun vs _ => vs = [.int .i64 (c : Int)]⟩, ⟨4, 10, [10], fun vs _ => vs = [.pointer (some ⟨bd, c, none⟩)]⟩, ⟨5, 11, [11], fun vs _ => vs = [.int .i64 (dg : Int)]⟩, ⟨6, 12, [12], fun vs _ => vs = [.func (.func 37) #[] #[.pointer (some ⟨Gr, 0, none⟩)]]⟩, ⟨7, 13, [13], fun vs _ => vs = [.int .i64 (c : Int)]⟩, ⟨8, 14, [14], fun vs _ => vs = [.agg (V.map B8).toArray]⟩, ⟨9, 15, [15], fun vs _ => vs = [.agg (D.map B8).toArray]⟩] (by kernel_rfl) (by kernel_rfl) ?_ ?_ ?_
  · simp only [All]
    refine ⟨fun _ _ _ _ h => h, fun _ _ _ _ h => h, fun _ _ _ _ h => h, fun _ _ _ _ h => h, fun _ _ _ _ h => h, fun _ _ _ _ h => h, fun _ _ _ _ h => h, fun _ _ _ _ h => h, fun _ _ _ _ h => h, fun _ _ _ _ h => h, trivial⟩
  · simp only [All]
    refine ⟨?_, ?_, ?_, ?_, ?_, ?_, ?_, ?_, ?_, ?_, trivial⟩
    · intro o ho a' w' hb hfr hdep
      obtain rfl := Option.some.inj ho
      have g1 : a'.tmps[1]?.getD undef = .pointer (some ⟨Gi, 0, none⟩) := by have h := hfr 1 (by kernel_rfl); simpa using h
      clear ho hfr hdep
      have hcl := (xi.under hb).at_ (j := 0) rfl
      go_wp2_with fail
      exact ⟨rfl, _, rfl, Below.refl _ _, rfl⟩
    · intro o ho a' w' hb hfr hdep
      obtain rfl := Option.some.inj ho
      have g0 : a'.tmps[0]?.getD undef = .int .i64 (c : Int) := by have h := hfr 0 (by kernel_rfl); simpa using h
      clear ho hfr hdep
      go_wp2_with fail
      exact ⟨rfl, _, rfl, Below.refl _ _, rfl⟩
    · intro o ho a' w' hb hfr hdep
      obtain rfl := Option.some.inj ho
      have g2 : a'.tmps[2]?.getD undef = .pointer (some ⟨Gd, 0, none⟩) := by have h := hfr 2 (by kernel_rfl); simpa using h
      clear ho hfr hdep
      have hcl := (xd.under hb).at_ (j := 0) rfl
      go_wp2_with fail
      exact ⟨rfl, _, rfl, Below.refl _ _, rfl⟩
    · intro o ho a' w' hb hfr hdep
      obtain rfl := Option.some.inj ho
      have g0 : a'.tmps[0]?.getD undef = .int .i64 (c : Int) := by have h := hfr 0 (by kernel_rfl); simpa using h
      clear ho hfr hdep
      go_wp2_with fail
      exact ⟨rfl, _, rfl, Below.refl _ _, rfl⟩
    · intro o ho a' w' hb hfr hdep
      obtain rfl := Option.some.inj ho
      have g8 : a'.tmps[8]?.getD undef = .slice (some ⟨bd, 0, none⟩) 68 68 := by have h := hdep 2 _ rfl (by kernel_rfl); simpa using h
      have g9 : a'.tmps[9]?.getD undef = .int .i64 (c : Int) := by have h := hdep 3 _ rfl (by kernel_rfl); simpa using h
      clear ho hfr hdep
      go_wp2_with fail
      exact ⟨rfl, _, rfl, Below.refl _ _, rfl⟩
    · intro o ho a' w' hb hfr hdep
      obtain rfl := Option.some.inj ho
      have g10 : a'.tmps[10]?.getD undef = .pointer (some ⟨bd, c, none⟩) := by have h := hdep 4 _ rfl (by kernel_rfl); simpa using h
      clear ho hfr hdep
      have hcl := (x8.under hb).at_ Q8.out
      go_wp2_with fail
      exact ⟨rfl, _, rfl, Below.refl _ _, rfl⟩
    · intro o ho a' w' hb hfr hdep
      obtain rfl := Option.some.inj ho
      have g3 : a'.tmps[3]?.getD undef = .pointer (some ⟨Gv, 0, none⟩) := by have h := hfr 3 (by kernel_rfl); simpa using h
      clear ho hfr hdep
      have hcl := (xv.under hb).at_ (j := 0) rfl
      go_wp2_with fail
      exact ⟨rfl, _, rfl, Below.refl _ _, rfl⟩
    · intro o ho a' w' hb hfr hdep
      obtain rfl := Option.some.inj ho
      have g0 : a'.tmps[0]?.getD undef = .int .i64 (c : Int) := by have h := hfr 0 (by kernel_rfl); simpa using h
      clear ho hfr hdep
      go_wp2_with fail
      exact ⟨rfl, _, rfl, Below.refl _ _, rfl⟩
    · intro o ho a' w' hb hfr hdep
      obtain rfl := Option.some.inj ho
      have g12 : a'.tmps[12]?.getD undef = .func (.func 37) #[] #[.pointer (some ⟨Gr, 0, none⟩)] := by have h := hdep 6 _ rfl (by kernel_rfl); simpa using h
      have g13 : a'.tmps[13]?.getD undef = .int .i64 (c : Int) := by have h := hdep 7 _ rfl (by kernel_rfl); simpa using h
      clear ho hfr hdep
      go_wp2_with fail
      refine (sg_value l c (by omega) a n cp Gr HV.out hm _ (xr.under hb) (hs.below hb)).mono ?_
      rintro e w2 ⟨rfl, h2⟩
      go_wp2_with fail
      exact ⟨rfl, _, rfl, h2, rfl⟩
    · intro o ho a' w' hb hfr hdep
      obtain rfl := Option.some.inj ho
      have g6 : a'.tmps[6]?.getD undef = .int .i64 i := by have h := hdep 0 _ rfl (by kernel_rfl); simpa using h
      have g7 : a'.tmps[7]?.getD undef = .int .i64 (c : Int) := by have h := hdep 1 _ rfl (by kernel_rfl); simpa using h
      have g11 : a'.tmps[11]?.getD undef = .int .i64 (dg : Int) := by have h := hdep 5 _ rfl (by kernel_rfl); simpa using h
      have g14 : a'.tmps[14]?.getD undef = .agg (V.map B8).toArray := by have h := hdep 8 _ rfl (by kernel_rfl); simpa using h
      clear ho hfr hdep
      go_wp2_with fail
      refine (sg_adv i c dg 3 hi (by omega) (3 - dg) (by omega) (by omega) (by omega) V hVl.out HD.out _ (hL1.out.below hb)).mono ?_
      rintro e w2 ⟨rfl, h2⟩
      go_wp2_with fail
      exact ⟨rfl, _, rfl, h2, rfl⟩
  · intro g w2 hb hp
    have p15 := hp 9 _ rfl
    clear hp
    simp at p15
    simp only [List.drop_succ_cons, List.drop_zero, List.map_cons, List.map_nil, putAll, Act.put, List.setIfInBounds_toArray, List.set_cons_succ, List.set_cons_zero, List.cons_append, List.nil_append, p15]
    refine store_all 23 _ _ 23 G1 (Z.map B8) (D.map B8) (.agg (D.map B8).toArray) hzD.out (x1.under hb) (by rfl) (by rfl) rfl (by rw [List.length_map, HDl.out, List.length_map, hZl.out]) (one_map _ (fun _ => rfl) _) ?_
    intro w3 x9 hgr hsz'
    go_wp2_with fail
    refine bodyPost_ret (run_results_cell rfl rfl isAgg_dig hzD.out x9) rfl ⟨rfl, ?_⟩
    exact (b1.trans (hb.mono b1.size)).grown hgr (Nat.le_trans b1.size hb.size) (fun k hk => by cases hk; omega)
set_option maxRecDepth 100000 in
set_option maxHeartbeats 2000000 in
theorem sg_leaf2 (l M : List UInt8) (hl : 68 * 16 ≤ l.length) (hm : l.length ≤ 1000000) (i : Int) (hi : 0 ≤ i ∧ i ≤ 9223372036854775807) (a : Option Addr) (n cp : Nat) (Gi Gd Gv Gr bd : Nat) (f : Nat → List UInt8) (hf : ∀ c : Nat, c < 68 → f c = advL i c (dgs M c) (3 - dgs M c) (valL l c)) (hfl : ∀ c, (f c).length = 16) {D : List UInt8} (hD : leafD f = D) (w : World) (hL : Laid w) (xi : Box w Gi 3 [.int .i64 i]) (xd : Box w Gd 25 [.slice (some ⟨bd, 0, none⟩) 68 68]) (x8 : Box w bd 43 (((List.range 68).map fun j => (dgs M j : Int)).map I64)) (xv : Box w Gv 69 [.func (.func 37) #[] #[.pointer (some ⟨Gr, 0, none⟩)]]) (xr : Box w Gr 52 [.slice a n cp]) (hs : Sl w 1 a n cp (l.map B8)) :
    Calls Tryd.prog 38 #[.func (.func 39) #[] #[.pointer (some ⟨Gi, 0, none⟩), .pointer (some ⟨Gd, 0, none⟩), .pointer (some ⟨Gv, 0, none⟩)]] w fun e w' => e = .returned (.agg (D.map B8).toArray) ∧ Below w.heap.size w w' := by
  obtain ⟨Z, hZ⟩ : ∃ Z, Hid (zero16 = Z) := ⟨_, rfl⟩
  have h16 := zero_16
  rw [hZ.out] at h16
  have hZl : Hid (Z.length = 16) := hide (by rw [← hZ.out]; rfl)
  have hL := hide hL
  obtain ⟨R, HR⟩ : ∃ R, Hid (ofD 3 [catL f 68] = R) := ⟨_, rfl⟩
  have hRl : R.length = 16 := by rw [← HR.out]; exact ofD_len _ _
  have HRl := hide hRl
  have HD : Hid (ofD 1 [R] = D) := hide (by rw [← HR.out]; exact hD)
  have hDl : D.length = 16 := by rw [← HD.out]; exact ofD_len _ _
  have HDl := hide hDl
  have HFL := hide hfl
  have HF := hide hf
  have hcl := hide (catL_len hfl)
  have hzD : Hid ((Tryd.prog.info? 23).map (·.size) = some (D.map B8).length) := hide (by rw [List.length_map, hDl]; exact size_dig')
  have hzR : Hid ((Tryd.prog.info? 23).map (·.size) = some (R.map B8).length) := hide (by rw [List.length_map, hRl]; exact size_dig')
  clear hDl hD hRl hfl hf
  go_enter Tryd.func38, Tryd.ntmps38
  go_wp2_with fail
  obtain ⟨w1, G1, G2, hw1, e1, e2, x1, x2, b1, l1, l2⟩ := allocs2 w (Z.map B8) [.pointer none, .slice none 0 0] 23 54
  have hB0 : Lib.IsBuilder 54 5 G2 G2 (([] : List UInt8).map B8) w1 := .inl ⟨Nat.le_refl _, .slice none 0 0, x2, World.ownsRow_nil _ _ _ _, by simp [Value.ownBlock]⟩
  rw [← e2, ← hw1, ← e1]
  have l0 : w.heap.size ≤ G1 := Nat.le_of_eq e1.symm
  have li := xi.lt
  have xi := xi.under b1
  have ld := xd.lt
  have xd := xd.under b1
  have l8 := x8.lt
  have x8 := x8.under b1
  have lv := xv.lt
  have xv := xv.under b1
  have lr := xr.lt
  have xr := xr.under b1
  clear hw1 e1 e2 x2
  go_loopg [7] 68 (fun gh v w' => ∃ k' : Nat, k' ≤ 68 ∧ gh = 68 - k' ∧ v = .int .i64 (k' : Int) ∧ Lib.IsBuilder 54 5 G2 G2 ((catL f k').map B8) w' ∧ Below G2 w1 w')
  case atStart => exact ⟨0, by omega, by omega, rfl, hB0, Below.refl _ _⟩
  case round =>
    clear hB0
    obtain ⟨k', hk', hg, rfl, hB, b⟩ := hrel
    have HG := hide hg
    clear hg
    have x1 := x1.below b l1
    have hbw := b1.trans (b.mono (by omega))
    have xi := xi.below b (by omega)
    have xd := xd.below b (by omega)
    have x8 := x8.below b (by omega)
    have xv := xv.below b (by omega)
    have xr := xr.below b (by omega)
    have hs := hs.below hbw
    by_cases hlt : k' < 68
    · have hL2 : Hid (Laid wr) := hide (hL.out.below hbw)
      obtain ⟨V, HV⟩ : ∃ V, Hid (f k' = V) := ⟨_, rfl⟩
      have hVl : Hid (V.length = 16) := hide (by rw [← HV.out]; exact HFL.out _)
      have hzV : Hid ((Tryd.prog.info? 23).map (·.size) = some (V.map B8).length) := hide (by rw [List.length_map, hVl.out]; exact size_dig')
      have d0 : decide ((k' : Int) < 68) = true := decide_eq_true (by omega)
      go_wp2_with fail
      refine (sg_chain2 l M hl hm i hi a n cp Gi Gd Gv Gr bd k' hlt (D := V) (by rw [← HV.out, HF.out k' hlt]) _ hL2.out xi xd x8 xv xr hs).mono ?_
      rintro e w2 ⟨rfl, h2⟩
      have hz2 := h2.size
      have hB2 : Lib.IsBuilder 54 5 G2 G2 ((catL f k').map B8) w2 := builder_below hB h2
      have b2 := b.trans (h2.mono (by have := b.size; omega))
      clear h2 hB b
      go_wp2_with (with_reducible refine hold_store ?_)
      refine hide ?_
      refine store_all 23 _ _ 23 w2.heap.size (Z.map B8) (V.map B8) (.agg (V.map B8).toArray) hzV.out (Box.new w2 _ _) (by rfl) (by rfl) rfl (by rw [List.length_map, hVl.out, List.length_map, hZl.out]) (one_map _ (fun _ => rfl) _) ?_
      intro w3 x5 hgr hsz'
      have h3 : Below w2.heap.size w2 w3 := (sblo w2 _).grown hgr (by simp) (fun k hk => by cases hk; exact Nat.le_refl _)
      have hB3 := builder_below hB2 h3
      have hG2 : G2 < w2.heap.size := builder_lt hB2
      have b3 := b2.trans (h3.mono (by omega))
      generalize w2.heap.size = G5 at *
      clear hgr hsz' h3 hB2 b2
      have s5 := x5.dig hVl.out
      have hml : ((catL f k').map B8).length = k' * 16 := by rw [List.length_map]; exact hcl.out k'
      go_wp2_with (first
        | (with_reducible refine cut_var 13 23 5 16 _ none none Tryd.underlying23 size_u8 G5 0 rfl 0 16 (.inl ⟨rfl, rfl⟩) (.inl ⟨rfl, rfl⟩) (by omega) (by omega) (by omega) ?_))
      refine (sb_Write_n G2 G2 _ V 16 hVl.out G5 0 _ _ hB3 (by omega) s5 (by rw [hml]; omega) (by have := builder_lt hB3; omega)).mono ?_
      rintro e w4 ⟨rfl, hB4, h4, hk4⟩
      have b4 := b3.trans h4
      clear hk4 h4 hB3 b3 s5 x5
      go_wp2_with fail
      go_roundg (68 - (k' + 1))
      case measure => have := HG.out; omega
      case rel => exact ⟨k' + 1, by omega, rfl, by go_num, by rw [catL, List.map_append, HV.out]; exact .inr hB4, b4⟩
    · obtain rfl : k' = 68 := by omega
      have hL2 : Hid (Laid wr) := hide (hL.out.below hbw)
      obtain ⟨C, hC⟩ : ∃ C, Hid (catL f 68 = C) := ⟨_, rfl⟩
      have hCl : C.length = 1088 := by rw [← hC.out, hcl.out]
      rw [hC.out] at hB
      have HR2 : Hid (ofD 3 [C] = R) := hide (by rw [← hC.out]; exact HR.out)
      have hsz3 : Hid (∀ s ∈ [byB C], s.size ≤ 10000) := hide (by intro s hs; simp at hs; subst hs; rw [byB_size]; omega)
      have hsz1 : Hid (∀ s ∈ [byB R], s.size ≤ 10000) := hide (by intro s hs; simp at hs; subst hs; rw [byB_size, HRl.out]; omega)
      have d0 : decide ((68 : Int) < 68) = false := by decide
      clear hCl
      go_wp2_with fail
      refine (Tryd.Builder_String_any G2 G2 C _ hB (by have := builder_lt hB; omega)).mono ?_
      rintro e w2 ⟨rfl, h2⟩
      have x1 := x1.below h2 l1
      have b2 := b1.trans ((b.trans h2).mono (by omega))
      clear h2 b hbw hB
      go_wp2_with fail
      have s3 : Sl (w2.alloc (.cells #[.string (byB C)] 9)) 1 (some ⟨w2.heap.size, 0, none⟩) 1 1 ([byB C].map Value.string) := Sl.fresh w2 9 1 1 ([byB C].map Value.string) rfl (by decide)
      have x1 := x1.alloc (.cells #[.string (byB C)] 9)
      have b3 := blo3 b2 (Nat.le_refl _) (.cells #[.string (byB C)] 9)
      refine (of_at HR2.out (by simp) hsz3.out (hL.out.below b3) s3).mono ?_
      rintro e w4 ⟨rfl, h4⟩
      have x1 := x1.under h4
      have b4 := b3.trans (h4.mono b3.size)
      clear h4 b3 b2 s3
      go_wp2_with (with_reducible refine hold_store ?_)
      refine hide ?_
      refine store_all 23 _ _ 23 w4.heap.size (Z.map B8) (R.map B8) (.agg (R.map B8).toArray) hzR.out (Box.new w4 _ _) (by rfl) (by rfl) rfl (by rw [List.length_map, HRl.out, List.length_map, hZl.out]) (one_map _ (fun _ => rfl) _) ?_
      intro w5 x5 hgr hsz'
      have h5 : Below w4.heap.size w4 w5 := (sblo w4 _).grown hgr (by simp) (fun k hk => by cases hk; exact Nat.le_refl _)
      have x1 := x1.under h5
      have b5 := b4.trans (h5.mono b4.size)
      generalize w4.heap.size = G5 at *
      clear hgr hsz' h5 b4
      have s5 := x5.dig HRl.out
      go_wp2_with (first
        | (with_reducible refine cut_var 19 23 5 16 _ none none Tryd.underlying23 size_u8 G5 0 rfl 0 16 (.inl ⟨rfl, rfl⟩) (.inl ⟨rfl, rfl⟩) (by omega) (by omega) (by omega) ?_)
        | (with_reducible refine to_str 20 _ _ _ _ R rfl s5 ?_))
      have s6 : Sl (w5.alloc (.cells #[.string (byB R)] 9)) 1 (some ⟨w5.heap.size, 0, none⟩) 1 1 ([byB R].map Value.string) := Sl.fresh w5 9 1 1 ([byB R].map Value.string) rfl (by decide)
      have x1 := x1.alloc (.cells #[.string (byB R)] 9)
      have b6 := blo3 b5 (Nat.le_refl _) (.cells #[.string (byB R)] 9)
      refine (of_at HD.out (by simp) hsz1.out (hL.out.below b6) s6).mono ?_
      rintro e w7 ⟨rfl, h7⟩
      have x1 := x1.under h7
      have b7 := b6.trans (h7.mono b6.size)
      clear h7 b6 b5 s6 s5 x5
      go_wp2_with (with_reducible refine hold_store ?_)
      refine hide ?_
      refine store_all 23 _ _ 23 G1 (Z.map B8) (D.map B8) (.agg (D.map B8).toArray) hzD.out x1 (by rfl) (by rfl) rfl (by rw [List.length_map, HDl.out, List.length_map, hZl.out]) (one_map _ (fun _ => rfl) _) ?_
      intro w8 x9 hgr hsz'
      go_wp2_with fail
      refine bodyPost_ret (run_results_cell rfl rfl isAgg_dig hzD.out x9) rfl ⟨rfl, ?_⟩
      exact b7.grown hgr b7.size (fun k hk => by cases hk; omega)
end Go.Proofs.YtblgmjnkllkhbaaDoor
end
