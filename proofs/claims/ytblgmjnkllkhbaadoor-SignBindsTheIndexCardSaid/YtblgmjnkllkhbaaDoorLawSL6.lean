/- The contracts of the functions that the law reaches, joined into one text. -/
import Derived.Test.YtblgmjnkllkhbaaDoorBaseSBaseE
set_option linter.unusedVariables false
set_option linter.unusedSimpArgs false

/- the text S15 -/
section
/- Chapter 03: the reference's ints, advance. -/
namespace Go.Proofs.YtblgmjnkllkhbaaDoor
open Go.RowKit Go.Dx
set_option maxRecDepth 100000 in
theorem rg_ints (l : List Int) (hl : ∀ x ∈ l, -9223372036854775808 ≤ x ∧ x ≤ 9223372036854775807) (hn : l.length ≤ 10) {r : List UInt8} (hr : encInts l = r) (a : Option Addr) (n c : Nat) (w : World) (hs : Sl w 1 a n c (l.map I64)) :
    Calls Tryd.prog 50 #[.slice a n c] w fun e w' => e = .returned (.string ⟨r.toArray⟩) ∧ Below w.heap.size w w' := by
  subst hr
  have hle := encInts_le l
  have HW := hide (ref_Ints l hl (by omega) (by omega) a n c w hs)
  generalize encInts l = E at *
  go_enter Tryd.func50, Tryd.ntmps50
  go_wp2_with fail
  refine HW.out.mono ?_
  rintro e w1 ⟨a1, c1, rfl, o1, h1⟩
  go_wp2_with (with_reducible refine to_str 5 _ _ _ _ E rfl o1.sl ?_)
  go_ret
  exact ⟨rfl, h1⟩
set_option maxRecDepth 100000 in
set_option maxHeartbeats 2000000 in
theorem ref_advance (i k f : Int) (hi : 0 ≤ i ∧ i ≤ 9223372036854775807) (hk : 0 ≤ k ∧ k ≤ 1000) (n : Nat) (hf : 0 ≤ f) (hn : f + n ≤ 1000) (v0 : List UInt8) (hv0 : v0.length = 16) {D : List UInt8} (hD : advL i k f n v0 = D) (w : World) (hL : LaidR w) :
    Calls Tryd.prog 32 #[.int .i64 i, .int .i64 k, .int .i64 f, .int .i64 (f + n), .agg (v0.map B8).toArray] w fun e w' => e = .returned (.agg (D.map B8).toArray) ∧ Below w.heap.size w w' := by
  obtain ⟨Z, hZ⟩ : ∃ Z, Hid (zero16 = Z) := ⟨_, rfl⟩
  have h16 := zero_16
  rw [hZ.out] at h16
  have hZl : Hid (Z.length = 16) := hide (by rw [← hZ.out]; rfl)
  have hL := hide hL
  have hDl : D.length = 16 := by rw [← hD]; exact advL_len _ _ _ _ hv0
  have HDl := hide hDl
  have HD := hide hD
  have hv0 := hide hv0
  obtain ⟨z, hz⟩ : ∃ z, Hid (z = f + n) := ⟨_, rfl⟩
  rw [← hz.out]
  have hzr : 0 ≤ z ∧ z ≤ 1000 := by have := hz.out; omega
  have hzD : Hid ((Tryd.prog.info? 23).map (·.size) = some (D.map B8).length) := hide (by rw [List.length_map, hDl]; exact size_dig')
  clear hDl hD
  go_enter Tryd.func32, Tryd.ntmps32
  go_wp2_with fail
  obtain ⟨w1, G1, G2, hw1, e1, e2, x1, x2, b1, l1, l2⟩ := allocs2 w (v0.map B8) (Z.map B8) 23 23
  rw [← e2, ← hw1, ← e1]
  have l0 : w.heap.size ≤ G1 := Nat.le_of_eq e1.symm
  clear hw1 e1 e2
  go_loopg [11] n (fun gh at_ w' => ∃ (t : Nat) (x : Int) (v : List UInt8), t ≤ n ∧ gh = n - t ∧ Hid (x = f + t) ∧ at_ = .int .i64 x ∧ Hid (v = advL i k f t v0) ∧ Hid (v.length = 16) ∧ Box w' G1 23 (v.map B8) ∧ Box w' G2 23 (Z.map B8) ∧ Below w.heap.size w w')
  case atStart => exact ⟨0, f, v0, by omega, by omega, hide (by simp), rfl, hide rfl, hv0, x1, x2, b1⟩
  case round =>
    clear x1 x2 b1
    obtain ⟨t, x, v, ht, hg, HX, rfl, HVV, hv, x1, x2, b⟩ := hrel
    have HG := hide hg
    clear hg
    by_cases hlt : t < n
    · have hxx := HX.out
      have hzz := hz.out
      have d0 : decide (x < z) = true := decide_eq_true (by omega)
      have hx0 : 0 ≤ x ∧ x ≤ 1000 := by omega
      clear hxx hzz
      have HB3 : Hid (∀ y ∈ [i, k, x], -9223372036854775808 ≤ y ∧ y ≤ 9223372036854775807) := hide (bounded3 hi hk hx0)
      have hle := encInts_le [i, k, x]
      obtain ⟨E, hE⟩ : ∃ E, Hid (encInts [i, k, x] = E) := ⟨_, rfl⟩
      rw [hE.out] at hle
      obtain ⟨v2, HV2⟩ : ∃ v2, Hid (ofD 5 [E, v] = v2) := ⟨_, rfl⟩
      have hv2 : Hid (v2.length = 16) := hide (by rw [← HV2.out]; exact ofD_len _ _)
      have hE2 : ofD 5 [encInts [i, k, x], v] = v2 := by rw [hE.out]; exact HV2.out
      have HSZ : Hid (∀ s ∈ [byB E, byB v], s.size ≤ 10000) := hide (by
        have := hv.out
        have h9 : E.length ≤ 36 := hle
        intro s hs; simp at hs; rcases hs with rfl | rfl <;> rw [byB_size] <;> omega)
      have hL3 : Hid (LaidR wr) := hide (hL.out.below b)
      have hzv : Hid ((Tryd.prog.info? 23).map (·.size) = some (v.map B8).length) := hide (by rw [List.length_map, hv.out]; exact size_dig')
      have hzv2 : Hid ((Tryd.prog.info? 23).map (·.size) = some (v2.map B8).length) := hide (by rw [List.length_map, hv2.out]; exact size_dig')

      clear hle
      go_wp2_with fail
      refine wp_region_free 9 [⟨0, 18, [18], fun vs _ => vs = [.int .i64 i]⟩, ⟨1, 19, [19], fun vs _ => vs = [.int .i64 k]⟩, ⟨2, 20, [20], fun vs _ => vs = [.int .i64 x]⟩, ⟨3, 21, [21], fun vs w' => ∃ b, vs = [.slice (some ⟨b, 0, none⟩) 3 3] ∧ Sl w' 1 (some ⟨b, 0, none⟩) 3 3 ([i, k, x].map I64)⟩, ⟨4, 22, [22], fun vs _ => vs = [.string (byB E)]⟩, ⟨5, 23, [23], fun vs _ => vs = [.agg (v.map B8).toArray]⟩, ⟨6, 24, [24], fun vs _ => vs = [.string (byB v)]⟩, ⟨7, 25, [25], fun vs w' => ∃ b, vs = [.slice (some ⟨b, 0, none⟩) 2 2] ∧ Sl w' 1 (some ⟨b, 0, none⟩) 2 2 ([byB E, byB v].map Value.string)⟩, ⟨8, 26, [26], fun vs _ => vs = [.agg (v2.map B8).toArray]⟩] (by kernel_rfl) (by kernel_rfl) ?_ ?_ ?_
      · simp only [All]
        refine ⟨fun _ _ _ _ h => h, fun _ _ _ _ h => h, fun _ _ _ _ h => h, ?_, fun _ _ _ _ h => h, fun _ _ _ _ h => h, fun _ _ _ _ h => h, ?_, fun _ _ _ _ h => h, trivial⟩
        · rintro vs w w' hb ⟨b, h1, h2⟩
          exact ⟨b, h1, h2.below hb⟩
        · rintro vs w w' hb ⟨b, h1, h2⟩
          exact ⟨b, h1, h2.below hb⟩
      · simp only [All]
        refine ⟨?_, ?_, ?_, ?_, ?_, ?_, ?_, ?_, ?_, trivial⟩
        · intro o ho a' w' hb hfr hdep
          obtain rfl := Option.some.inj ho
          have g0 : a'.tmps[0]?.getD undef = .int .i64 i := by have h := hfr 0 (by kernel_rfl); simpa using h
          clear ho hfr hdep
          go_wp2_with fail
          exact ⟨rfl, _, rfl, Below.refl _ _, rfl⟩
        · intro o ho a' w' hb hfr hdep
          obtain rfl := Option.some.inj ho
          have g1 : a'.tmps[1]?.getD undef = .int .i64 k := by have h := hfr 1 (by kernel_rfl); simpa using h
          clear ho hfr hdep
          go_wp2_with fail
          exact ⟨rfl, _, rfl, Below.refl _ _, rfl⟩
        · intro o ho a' w' hb hfr hdep
          obtain rfl := Option.some.inj ho
          have g11 : a'.tmps[11]?.getD undef = .int .i64 x := by have h := hfr 11 (by kernel_rfl); simpa using h
          clear ho hfr hdep
          go_wp2_with fail
          exact ⟨rfl, _, rfl, Below.refl _ _, rfl⟩
        · intro o ho a' w' hb hfr hdep
          obtain rfl := Option.some.inj ho
          have g18 : a'.tmps[18]?.getD undef = .int .i64 i := by have h := hdep 0 _ rfl (by kernel_rfl); simpa using h
          have g19 : a'.tmps[19]?.getD undef = .int .i64 k := by have h := hdep 1 _ rfl (by kernel_rfl); simpa using h
          have g20 : a'.tmps[20]?.getD undef = .int .i64 x := by have h := hdep 2 _ rfl (by kernel_rfl); simpa using h
          clear ho hfr hdep
          go_wp2_with fail
          exact ⟨rfl, _, rfl, sblo _ _, _, rfl, Sl.fresh _ _ 1 3 ([i, k, x].map I64) rfl (by decide)⟩
        · intro o ho a' w' hb hfr hdep
          obtain rfl := Option.some.inj ho
          obtain ⟨b21, h21, s21⟩ := hdep 3 _ rfl (by kernel_rfl)
          have g21 : a'.tmps[21]?.getD undef = .slice (some ⟨b21, 0, none⟩) 3 3 := by simpa using h21
          clear ho hfr hdep
          go_wp2_with fail
          refine (rg_ints [i, k, x] HB3.out (by simp) hE.out _ _ _ _ s21).mono ?_
          rintro e w2 ⟨rfl, h2⟩
          go_wp2_with fail
          exact ⟨rfl, _, rfl, h2, rfl⟩
        · intro o ho a' w' hb hfr hdep
          obtain rfl := Option.some.inj ho
          have g9 : a'.tmps[9]?.getD undef = .pointer (some ⟨G1, 0, none⟩) := by have h := hfr 9 (by kernel_rfl); simpa using h
          clear ho hfr hdep
          refine load_box 23 23 _ 23 G1 0 (v.map B8) (v.map B8) isAgg_dig hzv.out (x1.under hb) (by simpa [Act.eval] using g9) (fun j u hj => by rw [Nat.zero_add]; exact hj) ?_
          exact ⟨rfl, _, rfl, Below.refl _ _, rfl⟩
        · intro o ho a' w' hb hfr hdep
          obtain rfl := Option.some.inj ho
          have g23 : a'.tmps[23]?.getD undef = .agg (v.map B8).toArray := by have h := hdep 5 _ rfl (by kernel_rfl); simpa using h
          clear ho hfr hdep
          go_wp2_with fail
          refine (text_any v hv.out _).mono ?_
          rintro e w2 ⟨rfl, h2⟩
          go_wp2_with fail
          exact ⟨rfl, _, rfl, h2, rfl⟩
        · intro o ho a' w' hb hfr hdep
          obtain rfl := Option.some.inj ho
          have g22 : a'.tmps[22]?.getD undef = .string (byB E) := by have h := hdep 4 _ rfl (by kernel_rfl); simpa using h
          have g24 : a'.tmps[24]?.getD undef = .string (byB v) := by have h := hdep 6 _ rfl (by kernel_rfl); simpa using h
          clear ho hfr hdep
          go_wp2_with fail
          exact ⟨rfl, _, rfl, sblo _ _, _, rfl, Sl.fresh _ _ 1 2 ([byB E, byB v].map Value.string) rfl (by decide)⟩
        · intro o ho a' w' hb hfr hdep
          obtain rfl := Option.some.inj ho
          obtain ⟨b25, h25, s25⟩ := hdep 7 _ rfl (by kernel_rfl)
          have g25 : a'.tmps[25]?.getD undef = .slice (some ⟨b25, 0, none⟩) 2 2 := by simpa using h25
          clear ho hfr hdep
          go_wp2_with fail
          refine (rof_at HV2.out (by simp) HSZ.out (hL3.out.below hb) s25).mono ?_
          rintro e w2 ⟨rfl, h2⟩
          go_wp2_with fail
          exact ⟨rfl, _, rfl, h2, rfl⟩
      · intro g w2 hb hp
        have p26 := hp 8 _ rfl
        clear hp
        simp at p26
        simp only [List.drop_succ_cons, List.drop_zero, List.map_cons, List.map_nil, putAll, Act.put, List.setIfInBounds_toArray, List.set_cons_succ, List.set_cons_zero, List.cons_append, List.nil_append, p26]
        refine store_all 23 _ _ 23 G1 (v.map B8) (v2.map B8) (.agg (v2.map B8).toArray) hzv2.out (x1.under hb) (by rfl) (by rfl) rfl (by rw [List.length_map, hv2.out, List.length_map, hv.out]) (one_map _ (fun _ => rfl) _) ?_
        intro w3 x9 hgr hsz'
        have hg1 := x1.lt
        have x2 := (x2.under hb).grown hgr (fun h => by cases h; omega)
        have b3 := (b.trans (hb.mono b.size)).grown hgr (Nat.le_trans b.size hb.size) (fun k hk => by cases hk; omega)
        clear hgr hb p26 hg1
        go_wp2_with fail
        go_roundg (n - (t + 1))
        case measure => have := HG.out; omega
        case rel => exact ⟨t + 1, x + 1, v2, by omega, rfl, hide (by have := HX.out; omega), by go_num, hide (by rw [advL, ← HX.out, ← hE2, HVV.out]), hv2, x9, x2, b3⟩

    · obtain rfl : t = n := by omega
      have hxx := HX.out
      have hzz := hz.out
      have d0 : decide (x < z) = false := decide_eq_false (by omega)
      clear hxx hzz
      have HDv : Hid (v = D) := hide (by rw [HVV.out]; exact HD.out)
      rw [HDv.out] at x1
      go_wp2_with (first
        | (with_reducible refine load_box 27 23 _ 23 G1 0 (D.map B8) (D.map B8) isAgg_dig hzD.out x1 rfl (fun j u hj => by rw [Nat.zero_add]; exact hj) ?_)
        | (with_reducible refine hold_store ?_))
      refine hide ?_
      refine store_all 23 _ _ 23 G2 (Z.map B8) (D.map B8) (.agg (D.map B8).toArray) hzD.out x2 (by rfl) (by rfl) rfl (by rw [List.length_map, HDl.out, List.length_map, hZl.out]) (one_map _ (fun _ => rfl) _) ?_
      intro w6 x9 hgr hsz'
      go_wp2_with fail
      refine bodyPost_ret (run_results_cell rfl rfl isAgg_dig hzD.out x9) rfl ⟨rfl, ?_⟩
      exact b.grown hgr b.size (fun k hk => by cases hk; omega)
end Go.Proofs.YtblgmjnkllkhbaaDoor
end

/- the text S16 -/
section
/- Chapter 03: the reference's digest. -/
namespace Go.Proofs.YtblgmjnkllkhbaaDoor
open Go.RowKit Go.Dx
set_option maxRecDepth 100000 in
set_option maxHeartbeats 2000000 in
theorem ref_digest (S : ByteArray) (hS : 16 ≤ S.size) {D : List UInt8} (hD : S.data.toList.take 16 = D) (w : World) :
    Calls Tryd.prog 42 #[.string S] w fun e w' => e = .returned (.agg (D.map B8).toArray) ∧ Below w.heap.size w w' := by
  obtain ⟨Z, hZ⟩ : ∃ Z, Hid (zero16 = Z) := ⟨_, rfl⟩
  have h16 := zero_16
  rw [hZ.out] at h16
  have hZl : Hid (Z.length = 16) := hide (by rw [← hZ.out]; rfl)
  have hSl : S.data.toList.length = S.size := Array.length_toList
  have hDl : Hid (D.length = 16) := hide (by rw [← hD, List.length_take, hSl]; omega)
  have hzD : Hid ((Tryd.prog.info? 23).map (·.size) = some (D.map B8).length) := hide (by rw [List.length_map, hDl.out]; exact size_dig')
  have hZ0 : Hid (Z = fillA S.data.toList 16 0) := hide (by rw [← hZ.out]; rfl)
  have hSL := hide (show 16 ≤ S.data.toList.length by omega)
  have HD := hide hD
  clear hD hSl
  go_enter Tryd.func42, Tryd.ntmps42
  go_wp2_with fail
  obtain ⟨w1, G2, G3, hw1, e1, e2, x2, x3, b1, l1, l2⟩ := allocs2 w (Z.map B8) (Z.map B8) 23 23
  rw [← e2, ← hw1, ← e1]
  have l0 : w.heap.size ≤ G2 := Nat.le_of_eq e1.symm
  clear hw1 e1 e2
  have x3' := x3
  rw [hZ0.out] at x3'
  clear x3
  go_loopg [4] 16 (fun gh v w' => ∃ k : Nat, k ≤ 16 ∧ gh = 16 - k ∧ v = .int .i64 (k : Int) ∧ Box w' G2 23 (Z.map B8) ∧ Box w' G3 23 ((fillA S.data.toList 16 k).map B8) ∧ Below w.heap.size w w')
  case atStart => exact ⟨0, by omega, by omega, rfl, x2, x3', b1⟩
  case round =>
    clear x2 x3' b1
    obtain ⟨k, hk, hg, rfl, x2, x3, b⟩ := hrel
    have HG := hide hg
    clear hg
    by_cases hlt : k < 16
    · have hkS : k < S.size := by omega
      have hu : S.data.toList[k]? = some (S[k]'hkS) := List.getElem?_eq_getElem (by have := hSL.out; omega)
      have HU := hide hu
      have q3 : wr.cell? ⟨G3, k, none⟩ = some (B8 0) := x3.at_ (box_at (fill_get hSL.out hlt))
      have f3 := x3.free k
      have d0 : decide ((k : Int) < 16) = true := decide_eq_true (by omega)
      clear hu
      go_wp2_with fail
      go_roundg (16 - (k + 1))
      case measure => have := HG.out; omega
      case rel =>
        have x3' := x3.put k (B8 (S[k]'hkS))
        rw [fill_set hSL.out hlt HU.out] at x3'
        exact ⟨k + 1, by omega, rfl, by go_num, x2.far (by simp; omega) _, x3', b.setCell (by simp; omega) _⟩
    · obtain rfl : k = 16 := by omega
      rw [fill_all, HD.out] at x3
      go_wp2_with (first
        | (with_reducible refine load_box 14 23 _ 23 G3 0 (D.map B8) (D.map B8) isAgg_dig hzD.out x3 rfl (fun j u hj => by rw [Nat.zero_add]; exact hj) ?_)
        | (with_reducible refine hold_store ?_))
      refine hide ?_
      refine store_all 23 _ _ 23 G2 (Z.map B8) (D.map B8) (.agg (D.map B8).toArray) hzD.out x2 (by rfl) (by rfl) rfl (by rw [List.length_map, hDl.out, List.length_map, hZl.out]) (one_map _ (fun _ => rfl) _) ?_
      intro w6 x9 hgr hsz'
      go_wp2_with fail
      refine bodyPost_ret (run_results_cell rfl rfl isAgg_dig hzD.out x9) rfl ⟨rfl, ?_⟩
      exact b.grown hgr b.size (fun k hk => by cases hk; omega)
end Go.Proofs.YtblgmjnkllkhbaaDoor
end

/- the text AppF -/
section
/- The laws on append once more: the block that is handed back is the old one or a new one. No program in sight. -/
set_option linter.unusedVariables false
namespace Go.Dx
open Go.RowKit
section laws
variable {P : Program} {w : World} {ops : Array Oper} {rest : List Oper} {o : Oper} {act : Act} {Q : Exit → Act → World → Prop}
theorem run_append_fresh (base : Nat) (t tx ty e : TypeId) (i : TypeInfo) (z : Value) (ht : P.underlying t = some (.slice e)) (hi : P.info? e = some i) (hz : i.zero = some z)
    (hzs : z.cells.size = i.size) (a : Option Addr) (n c : Nat) (xs : List Value) (hown : Own w base e i.size a n c xs)
    (x : Value) (m : Nat) (news : List Value) (hs : Src P i.size tx x m news w)
    (h63 : n + m ≤ maxLen) (hbytes : (n + m) * i.bytes ≤ 140737488355328) (hbase : base ≤ w.heap.size) :
    ∃ a' c' w', (Builtin.append_ #[t, tx] ty #[.slice a n c, x]).run P w = .ok (.slice a' (n + m) c') w' ∧ Own w' base e i.size a' (n + m) c' (xs ++ news) ∧ w.grownBy w' (a.map (·.block)) ∧ (∀ p, a' = some p → (∃ q, a = some q ∧ q.block = p.block) ∨ w.heap.size ≤ p.block) := by
  have hsmall : n + m ≤ 9223372036854775807 := by simp only [maxLen] at h63; omega
  have hlen : (xs ++ news).length = (n + m) * i.size := by rw [List.length_append, hown.1, hs.newsLen, Nat.add_mul]
  have hold : (Builtin.firstCells i.size n (.slice a n c)).run P w.drew = .ok xs.toArray w.drew := by
    have hsl := hown.sl
    cases a with
    | none =>
      have := hsl.nil rfl
      have := hsl.le
      obtain rfl : n = 0 := by omega
      have hnews : xs = [] := List.eq_nil_of_length_eq_zero (by simpa using hsl.len)
      subst hnews
      exact run_firstCells_none w.drew i.size 0 0 c
    | some p => exact run_firstCells_some w.drew i.size n p n c xs hsl.len (by simpa using hsl.cell p rfl)
  by_cases hroom : n + m ≤ c
  · rcases hown.2 with ⟨h1, h2⟩ | ⟨g, cap, cur, h1, hbg, hg, hnc, hcm, hcs, htake⟩
    · injection h1 with h1 h3 h4
      subst h1 h3 h4
      obtain rfl : m = 0 := by omega
      have hx : xs = [] := List.eq_nil_of_length_eq_zero (by simpa using hown.1)
      have hnews : news = [] := List.eq_nil_of_length_eq_zero (by simpa using hs.newsLen)
      subst hx hnews
      refine ⟨none, 0, w, ?_, Own.nil w base e i.size, World.grownBy.refl _ _, fun p hp => by cases hp⟩
      rcases hs.kind with ⟨e', hk⟩ | hk <;> simp [Builtin.append_, run_underlying ht, run_underlying hk, sizeOf, typeInfo, hi, hs.len, hs.cells]
    · injection h1 with h1 h3 h4
      subst h1 h4
      have hfit : n * i.size + news.length ≤ cur.size := by rw [hs.newsLen, hcs, ← Nat.add_mul]; exact Nat.mul_le_mul_right _ hroom
      have hst := run_storeCells_at P g (n * i.size) e news 0 cur w hg (by simpa using hfit) hs.one
      simp only [Nat.add_zero] at hst
      refine ⟨some ⟨g, 0, none⟩, c, w.setRow g (cur.toList.take (n * i.size) ++ news ++ cur.toList.drop (n * i.size + news.length)).toArray, ?_, ⟨hlen, .inr ⟨g, c, _, rfl, hbg, setRow_heap w g cur _ e _ hg, hroom, hcm, ?_, ?_⟩⟩, ⟨rfl, rfl, rfl, by simp, fun k _ hk => setRow_other w g k _ (fun e => hk (by simp [e]))⟩, fun p hp => by cases hp; exact .inl ⟨_, rfl, rfl⟩⟩
      · rcases hs.kind with ⟨e', hk⟩ | hk <;> simp [Builtin.append_, run_underlying ht, run_underlying hk, sizeOf, typeInfo, hi, hs.len, hroom, hs.cells, Addr.add_lit, hst]
      · simp only [List.size_toArray, List.length_append, List.length_take, List.length_drop, Array.length_toList]
        omega
      · rw [htake, ← hlen]
        exact List.take_left
  · have hr := run_append_grow_src (P := P) w t tx ty e i z ht hi hz a n c xs hold x m news hs (by omega) (by omega) (growslice_fits (by omega) hbytes)
    have hge := grownCap_ge w (n + m) c e
    have hcm : grownCap w (n + m) c e ≤ maxLen := grownCap_le_maxLen w (n + m) c e h63
    refine ⟨_, _, _, hr, ⟨hlen, .inr ⟨w.heap.size, _, _, rfl, hbase, heap_alloc_new w.drew _, hge, hcm, ?_, ?_⟩⟩, ⟨rfl, rfl, rfl, by simp, fun k hk _ => Below.heap_alloc w.drew _ k hk⟩, fun p hp => by cases hp; exact .inr (Nat.le_refl _)⟩
    · simp only [Array.size_append, List.size_toArray, size_zeroCells, hzs, hlen, ← Nat.add_mul]
      congr 1
      omega
    · simp only [Array.toList_append, List.append_assoc]
      rw [← List.append_assoc, ← hlen]
      exact List.take_left

/-- 'append(out, x...)', out owned, whatever x is: the general law. -/
theorem append_src_f (hg : o.guard = none) (s x : Operand) (t tx : TypeId) (hop : o.op = Op.call { callee := Callee.builtin Builtin.append, args := #[s, x], argTypes := #[t, tx] })
    (e : TypeId) (z : Value) (sz bytes : Nat) (ht : P.underlying t = some (.slice e)) (hi : (P.info? e).map (fun i => (i.zero, i.size, i.bytes)) = some (some z, sz, bytes)) (hz : z.cells.size = sz)
    (w0 : World) (B : Nat) (a : Option Addr) (n c : Nat) (xs : List Value) (hs : act.eval s = .slice a n c) (hown : Own w B e sz a n c xs)
    (v : Value) (m : Nat) (ys : List Value) (hx : act.eval x = v) (hy : Src P sz tx v m ys w)
    (hn : (n + m) * bytes ≤ 140737488355328) (hn2 : n + m ≤ maxLen) (hB : B ≤ w.heap.size) (hbel : Below B w0 w)
    (hK : ∀ a' c' w', Own w' B e sz a' (n + m) c' (xs ++ ys) → w.grownBy w' (a.map (·.block)) → (∀ p, a' = some p → (∃ q, a = some q ∧ q.block = p.block) ∨ w.heap.size ≤ p.block) → Below B w0 w' → wpList P ops Q rest (act.put o.dst (.slice a' (n + m) c')) w') :
    wpList P ops Q (o :: rest) act w := by
  obtain ⟨i, hi0, hz0, hz1, hz2⟩ := info_parts hi
  subst hz1 hz2
  clear hi
  obtain ⟨a', c', w', hrun, ho, hgr, hfr⟩ := run_append_fresh B t tx o.type e i z ht hi0 hz0 hz a n c xs hown v m ys hy hn2 hn hB
  refine wpList_plain hg fun K hK' => ?_
  unfold Oper.wp
  simp [execOp, hop, resolve, invoke, builtin, hs, hx, hrun, Result.andThen]
  refine hK' _ _ (hK a' c' w' ho hgr hfr (hbel.grown hgr hB ?_))
  intro k hk
  cases a with
  | none => cases hk
  | some p => injection hk with hk; subst hk; exact hown.base.1

/-- 'append(out, ys...)', out owned, ys a slice. -/
theorem append_own_f (hg : o.guard = none) (s x : Operand) (t : TypeId) (hop : o.op = Op.call { callee := Callee.builtin Builtin.append, args := #[s, x], argTypes := #[t, t] })
    (e : TypeId) (z : Value) (sz bytes : Nat) (ht : P.underlying t = some (.slice e)) (hi : (P.info? e).map (fun i => (i.zero, i.size, i.bytes)) = some (some z, sz, bytes)) (hz : z.cells.size = sz)
    (w0 : World) (B : Nat) (a : Option Addr) (n c : Nat) (xs : List Value) (hs : act.eval s = .slice a n c) (hown : Own w B e sz a n c xs)
    (a2 : Option Addr) (m c2 : Nat) (ys : List Value) (hx : act.eval x = .slice a2 m c2) (hy : Sl w sz a2 m c2 ys) (h1 : ∀ u ∈ ys, u.oneCell' = true)
    (hn : (n + m) * bytes ≤ 140737488355328) (hn2 : n + m ≤ maxLen) (hB : B ≤ w.heap.size) (hbel : Below B w0 w)
    (hK : ∀ a' c' w', Own w' B e sz a' (n + m) c' (xs ++ ys) → w.grownBy w' (a.map (·.block)) → (∀ p, a' = some p → (∃ q, a = some q ∧ q.block = p.block) ∨ w.heap.size ≤ p.block) → Below B w0 w' → wpList P ops Q rest (act.put o.dst (.slice a' (n + m) c')) w') :
    wpList P ops Q (o :: rest) act w :=
  append_src_f hg s x t t hop e z sz bytes ht hi hz w0 B a n c xs hs hown _ m ys hx (hy.src ht h1) hn hn2 hB hbel hK

theorem append_lit_f (hg : o.guard = none) (s x : Operand) (t : TypeId) (hop : o.op = Op.call { callee := Callee.builtin Builtin.append, args := #[s, x], argTypes := #[t, t] })
    (e : TypeId) (z : Value) (sz bytes : Nat) (ht : P.underlying t = some (.slice e)) (hi : (P.info? e).map (fun i => (i.zero, i.size, i.bytes)) = some (some z, sz, bytes)) (hz : z.cells.size = sz)
    (w0 : World) (B : Nat) (a : Option Addr) (n c : Nat) (xs : List Value) (hs : act.eval s = .slice a n c) (hown : Own w B e sz a n c xs)
    (m : Nat) (us : List Value) (hx : act.eval x = .slice (some ⟨w.heap.size, 0, none⟩) m m) (hu : us.length = m * sz) (h1 : ∀ u ∈ us, u.oneCell' = true)
    (hn : (n + m) * bytes ≤ 140737488355328) (hn2 : n + m ≤ maxLen) (hB : B ≤ w.heap.size) (hbel : Below B w0 w)
    (hK : ∀ a' c' w', Own w' B e sz a' (n + m) c' (xs ++ us) → w.grownBy w' (a.map (·.block)) → (∀ p, a' = some p → (∃ q, a = some q ∧ q.block = p.block) ∨ w.heap.size ≤ p.block) → Below B w0 w' → wpList P ops Q rest (act.put o.dst (.slice a' (n + m) c')) w') :
    wpList P ops Q (o :: rest) act (w.alloc (.cells us.toArray e)) := by
  refine append_own_f hg s x t hop e z sz bytes ht hi hz w0 B a n c xs hs (hown.alloc _) _ m m us hx ?_ h1 hn hn2 (by simp; omega) (hbel.alloc hB _) ?_
  · have := (Own.built w 0 e sz m us.toArray (Nat.zero_le _) (by simpa using hu) (by omega)).sl
    simpa using this
  · intro a' c' w' ho hgr hfr hb
    refine hK a' c' w' ho ⟨hgr.os, hgr.tape, hgr.output, ?_, ?_⟩ (fun p hp => (hfr p hp).imp id (fun h => by simp at h; omega)) hb
    · have := hgr.size; simp at this; omega
    · intro k hk hne
      rw [hgr.block k (by simp; omega) hne]
      rw [Below.heap_alloc _ _ _ hk]
end laws
end Go.Dx
end

/- the text S21 -/
section
/- Chapter 03: the reference's Digits. -/
set_option linter.unusedVariables false
namespace Go.Proofs.YtblgmjnkllkhbaaDoor
open Go.RowKit Go.Dx
/-- the first k digits -/
def dl (d : List UInt8) (k : Nat) : List Int := (List.range k).map fun j => (digN d j : Int)
theorem dl_succ (d : List UInt8) (k : Nat) : dl d (k + 1) = dl d k ++ [(digN d k : Int)] := by simp [dl, List.range_succ]
theorem dl_len (d : List UInt8) (k : Nat) : (dl d k).length = k := by simp [dl]
theorem dl_all (d : List UInt8) : dl d 64 ++ [(dgs d 64 : Int), (dgs d 65 : Int), (dgs d 66 : Int), (dgs d 67 : Int)] = (List.range 68).map fun j => (dgs d j : Int) := by
  have e : (List.range 68) = List.range 64 ++ [64, 65, 66, 67] := by decide
  rw [e, List.map_append]
  show _ = _ ++ [(dgs d 64 : Int), (dgs d 65 : Int), (dgs d 66 : Int), (dgs d 67 : Int)]
  congr 1
theorem dig_four {d : List UInt8} {i : Nat} {u : UInt8} (hu : d[i]? = some u) : digN d (4 * i) = u.toNat / 64 ∧ digN d (4 * i + 1) = u.toNat / 16 % 4 ∧ digN d (4 * i + 2) = u.toNat / 4 % 4 ∧ digN d (4 * i + 3) = u.toNat % 4 := by
  have h := UInt8.toNat_lt u
  unfold digN
  rw [show 4 * i / 4 = i by omega, show (4 * i + 1) / 4 = i by omega, show (4 * i + 2) / 4 = i by omega, show (4 * i + 3) / 4 = i by omega, show 3 - 4 * i % 4 = 3 by omega, show 3 - (4 * i + 1) % 4 = 2 by omega, show 3 - (4 * i + 2) % 4 = 1 by omega, show 3 - (4 * i + 3) % 4 = 0 by omega]
  rw [List.getD_eq_getElem?_getD, hu, Option.getD_some]
  omega
set_option maxRecDepth 100000 in
set_option maxHeartbeats 2000000 in
theorem ref_Digits (d : List UInt8) (hd : d.length = 16) (w : World) :
    Calls Tryd.prog 11 #[.agg (d.map B8).toArray] w fun e w' => ∃ a c, e = .returned (.slice a 68 c) ∧ Own w' w.heap.size 3 1 a 68 c (((List.range 68).map fun j => (dgs d j : Int)).map I64) ∧ Below w.heap.size w w' := by
  obtain ⟨DL, hDL⟩ : ∃ l, Hid ((((List.range 68).map fun j => (dgs d j : Int)).map I64) = l) := ⟨_, rfl⟩
  rw [hDL.out]
  go_enter Tryd.func11, Tryd.ntmps11
  go_wp2_with fail
  obtain ⟨w1, G1, hw1, e1, x1, b1, l1⟩ := allocs1 w (d.map B8) 23
  rw [← hw1, ← e1]
  have l0 : w.heap.size ≤ G1 := Nat.le_of_eq e1.symm
  clear hw1 e1
  have hd := hide hd
  go_loopg [3, 4, 5] 16 (fun gh p s v w' => ∃ (i : Nat) (a : Option Addr) (c : Nat), i ≤ 16 ∧ gh = 16 - i ∧ p = .slice a (4 * i) c ∧ s = .int .i64 (sumN d (4 * i) : Int) ∧ v = .int .i64 (i : Int) ∧ Own w' w1.heap.size 3 1 a (4 * i) c ((dl d (4 * i)).map I64) ∧ Below w1.heap.size w1 w')
  case atStart => exact ⟨0, none, 0, by omega, by omega, rfl, rfl, rfl, Own.nil _ _ _ _, Below.refl _ _⟩
  case round =>
    obtain ⟨i, a, c, hi, hg, rfl, rfl, rfl, ho, hb⟩ := hrel
    have HG := hide hg
    have y1 := x1.below hb l1
    have bb := b1.trans (hb.mono b1.size)
    have hsl := hide (sumN_le d (4 * i))
    clear hg
    by_cases hlt : i < 16
    · obtain ⟨u, hu⟩ : ∃ u, d[i]? = some u := ⟨d[i]'(by rw [hd.out]; omega), by simp⟩
      have q0 : wr.cell? ⟨G1, i, none⟩ = some (B8 u) := y1.at_ (box_at hu)
      have hu8 := UInt8.toNat_lt u
      have h4 := hide (dig_four hu)
      have d0 : decide ((i : Int) < 16) = true := decide_eq_true (by omega)
      clear hu
      go_wp2_with fail
      obtain ⟨p, hp⟩ : ∃ p : Nat → Nat, Hid (∀ k, p k = digN d (4 * i + k)) := ⟨_, fun _ => rfl⟩
      have e0 : (u.toNat : Int) / 64 = (p 0 : Int) := by rw [hp.out, Nat.add_zero, h4.out.1]; omega
      have e1 : (u.toNat : Int) / 16 % 4 = (p 1 : Int) := by rw [hp.out, h4.out.2.1]; omega
      have e2 : (u.toNat : Int) / 4 % 4 = (p 2 : Int) := by rw [hp.out, h4.out.2.2.1]; omega
      have e3 : (u.toNat : Int) % 4 = (p 3 : Int) := by rw [hp.out, h4.out.2.2.2]; omega
      rw [e0, e1, e2, e3]
      have hp3 : ∀ k, p k ≤ 3 := fun k => by rw [hp.out]; unfold digN; omega
      have hp3 := hide hp3
      clear e0 e1 e2 e3 h4 hu8 q0
      have hsz := hb.size
      obtain ⟨w2, G7, hw2, e7, x7, b2, l7⟩ := allocs1 wr (([p 0, p 1, p 2, p 3] : List Nat).map fun (n : Nat) => I64 (n : Int)) 3
      have ho2 := ho.below b2
      have hbb := hb.trans (b2.mono hb.size)
      have hne : ∀ q, a = some q → q.block ≠ G7 := fun q hq => by
        subst hq
        have := ho.base.2
        rw [e7]; omega
      have HNE := hide hne
      have HP := hide (fun k (hk : k < 4) => (show (([p 0, p 1, p 2, p 3] : List Nat).map fun (n : Nat) => I64 (n : Int))[k]? = some (I64 (p k : Int)) from by
        rcases (by omega : k = 0 ∨ k = 1 ∨ k = 2 ∨ k = 3) with rfl | rfl | rfl | rfl <;> rfl))
      obtain ⟨C7, hC7⟩ : ∃ C, Hid ((([p 0, p 1, p 2, p 3] : List Nat).map fun (n : Nat) => I64 (n : Int)) = C) := ⟨_, rfl⟩
      rw [hC7.out] at x7 HP
      rw [show (#[Value.int IntKind.i64 (p 0 : Int), Value.int IntKind.i64 (p 1 : Int), Value.int IntKind.i64 (p 2 : Int), Value.int IntKind.i64 (p 3 : Int)] : Array Value) = (([p 0, p 1, p 2, p 3] : List Nat).map fun (n : Nat) => I64 (n : Int)).toArray from rfl, ← hw2, ← e7]
      clear hw2 e7 ho hb b2 hne hsz
      go_loopg [3, 4, 8] 4 (fun gh o s v w' => ∃ (k : Nat) (a : Option Addr) (c : Nat), k ≤ 4 ∧ gh = 4 - k ∧ o = .slice a (4 * i + k) c ∧ s = .int .i64 (sumN d (4 * i + k) : Int) ∧ v = .int .i64 (k : Int) ∧ Own w' w1.heap.size 3 1 a (4 * i + k) c ((dl d (4 * i + k)).map I64) ∧ Box w' G7 3 C7 ∧ Hid (∀ q, a = some q → q.block ≠ G7) ∧ Below w1.heap.size w1 w')
      case atStart => exact ⟨0, a, c, by omega, by omega, rfl, rfl, rfl, ho2, x7, HNE, hbb⟩
      case round =>
        clear ho2 x7 HNE hbb
        obtain ⟨k, a3, c3, hk, hg3, rfl, rfl, rfl, ho3, x7, HNE, hb3⟩ := hrel
        have HG3 := hide hg3
        clear hg3
        by_cases hlt3 : k < 4
        · have q7 := x7.at_ (HP.out k hlt3)
          have f7 := x7.lt
          have hpk := hp3.out k
          have hsl3 := sumN_le d (4 * i + k)
          have d3 : decide ((k : Int) < 4) = true := decide_eq_true (by omega)
          have HS3 : Hid (sumN d (4 * i + (k + 1)) = sumN d (4 * i + k) + (3 - p k)) := hide (by rw [← Nat.add_assoc, sumN, hp.out])
          obtain ⟨S3, hS3⟩ : ∃ S, Hid (sumN d (4 * i + k) = S) := ⟨_, rfl⟩
          rw [hS3.out] at hsl3 HS3 ⊢
          obtain ⟨z, hz⟩ : ∃ z, Hid (p k = z) := ⟨_, rfl⟩
          rw [hz.out] at q7 hpk HS3
          have HD3 : Hid (dl d (4 * i + (k + 1)) = dl d (4 * i + k) ++ [(z : Int)]) := hide (by rw [← Nat.add_assoc, dl_succ, ← hp.out, hz.out])
          go_wp2_with (at_builtin; go_loud (refine append_lit_f rfl _ _ 25 rfl 3 (.int .i64 0) 1 8 Tryd.underlying25 info_int rfl w1 w1.heap.size _ _ _ _ rfl ho3 1 _ rfl rfl (by simp [Value.oneCell']) (by omega) (by unfold maxLen; omega) hb3.size hb3 ?_; intro a4 c4 w4 ho4 hgr4 hfr4 hb4; refine shold ?_))
          refine hide ?_
          have x8 := x7.grown hgr4 (fun e => by cases a3 with
            | none => cases e
            | some q => injection e with e; exact HNE.out q rfl e.symm)
          have HNE4 : Hid (∀ q, a4 = some q → q.block ≠ G7) := hide (fun q hq => by
            rcases hfr4 q hq with ⟨q3, h3, h4⟩ | h5
            · rw [← h4]; exact HNE.out q3 h3
            · omega)
          have q8 := x8.at_ (HP.out k hlt3)
          rw [hz.out] at q8
          clear hgr4 hfr4 q7 HNE x7 ho3 hb3 f7
          go_wp2_with fail
          go_roundg (4 - (k + 1))
          case measure => have := HG3.out; omega
          case rel =>
            refine ⟨k + 1, a4, c4, by omega, rfl, rfl, ?_, by go_num, ?_, x8, HNE4, hb4⟩
            · rw [HS3.out]; go_num
            · rw [HD3.out, List.map_append]; exact ho4
        · obtain rfl : k = 4 := by omega
          have d3 : decide ((4 : Int) < 4) = false := by decide
          go_wp2_with fail
          go_roundg (16 - (i + 1))
          case measure => have := HG.out; omega
          case rel => exact ⟨i + 1, a3, c3, by omega, rfl, by rw [show 4 * (i + 1) = 4 * i + 4 by omega], by rw [show 4 * (i + 1) = 4 * i + 4 by omega], by go_num, by rw [show 4 * (i + 1) = 4 * i + 4 by omega]; exact ho3, hb3⟩
    · obtain rfl : i = 16 := by omega
      have hsm : sumN d 64 ≤ 192 := by have := hsl.out; omega
      obtain ⟨S, hS⟩ : ∃ S, Hid (sumN d 64 = S) := ⟨_, rfl⟩
      have d0 : decide ((16 : Int) < 16) = false := by decide
      have HC : Hid (((dl d 64 ++ [((S / 64 : Nat) : Int), ((S / 16 % 4 : Nat) : Int), ((S / 4 % 4 : Nat) : Int), ((S % 4 : Nat) : Int)]).map I64) = DL) := hide (by
        rw [← hDL.out, ← dl_all]
        unfold dgs
        simp only [show ¬ (64 < 64) by omega, show ¬ (65 < 64) by omega, show ¬ (66 < 64) by omega, show ¬ (67 < 64) by omega, if_false]
        rw [hS.out] at hsm ⊢
        rw [show 67 - 64 = 3 by rfl, show 67 - 65 = 2 by rfl, show 67 - 66 = 1 by rfl, show 67 - 67 = 0 by rfl, show 4 ^ 3 = 64 by rfl, show 4 ^ 2 = 16 by rfl, show 4 ^ 1 = 4 by rfl, show 4 ^ 0 = 1 by rfl, Nat.div_one, show S / 64 % 4 = S / 64 by omega])
      rw [hS.out] at hsm
      have HS0 := hS.out
      rw [show 4 * 16 = 64 by rfl] at ho ⊢
      rw [HS0]
      clear HS0
      obtain ⟨s1, g1⟩ : ∃ n : Nat, n = S / 64 := ⟨_, rfl⟩
      obtain ⟨s2, g2⟩ : ∃ n : Nat, n = S / 16 := ⟨_, rfl⟩
      obtain ⟨s3, g3⟩ : ∃ n : Nat, n = S / 4 := ⟨_, rfl⟩
      have f1 : (S : Int) / 64 = (s1 : Int) := by omega
      have f2 : (S : Int) / 16 = (s2 : Int) := by omega
      have f3 : (S : Int) / 4 = (s3 : Int) := by omega
      have h1 : s1 ≤ 192 := by omega
      have h2 : s2 ≤ 192 := by omega
      have h3 : s3 ≤ 192 := by omega
      have HC2 : Hid (DL = (dl d 64).map I64 ++ [.int .i64 (s1 : Int), .int .i64 ((s2 : Int) % 4), .int .i64 ((s3 : Int) % 4), .int .i64 ((S : Int) % 4)]) := hide (by
        rw [← HC.out, List.map_append]
        have k1 : ((S / 64 : Nat) : Int) = (s1 : Int) := by omega
        have k2 : ((S / 16 % 4 : Nat) : Int) = (s2 : Int) % 4 := by omega
        have k3 : ((S / 4 % 4 : Nat) : Int) = (s3 : Int) % 4 := by omega
        have k4 : ((S % 4 : Nat) : Int) = (S : Int) % 4 := by omega
        rw [k1, k2, k3, k4]
        rfl)
      have hsm := hide hsm
      clear g1 g2 g3
      go_wp2_with (at_builtin; go_loud (refine append_lit_f rfl _ _ 25 rfl 3 (.int .i64 0) 1 8 Tryd.underlying25 info_int rfl w1 w1.heap.size _ _ _ _ rfl ho 4 _ rfl rfl (by intro u hu; simp at hu; rcases hu with rfl | rfl | rfl | rfl <;> rfl) (by omega) (by unfold maxLen; omega) hb.size hb ?_; intro a4 c4 w4 ho4 hgr4 hfr4 hb4))
      go_ret
      refine ⟨a4, c4, rfl, ?_, b1.trans (hb4.mono b1.size)⟩
      have ho5 := ho4.mono b1.size
      rw [HC2.out]
      exact ho5
end Go.Proofs.YtblgmjnkllkhbaaDoor
end

/- the text S22 -/
section
/- Chapter 03: the reference's Digest. -/
set_option linter.unusedVariables false
namespace Go.Proofs.YtblgmjnkllkhbaaDoor
open Go.RowKit Go.Dx
theorem hold_load {P : Program} {w : World} {ops : Array Oper} {rest : List Oper} {act : Act} {Q : Exit → Act → World → Prop} {dst : Option Tmp} {t ty : TypeId} {x : Operand} {pos : String} {after : Array Edge} {g : Option (Nat × Bool)}
    (h : Hid (wpList P ops Q ({ dst := dst, op := .load t x, type := ty, pos := pos, after := after, guard := g } :: rest) act w)) : wpList P ops Q ({ dst := dst, op := .load t x, type := ty, pos := pos, after := after, guard := g } :: rest) act w := h
set_option maxRecDepth 100000 in
set_option maxHeartbeats 2000000 in
theorem ref_Digest (p : List UInt8) (hp : p.length = 16) (i : Int) (hi0 : -9223372036854775808 ≤ i) (hi1 : i ≤ 9223372036854775807) (m : ByteArray) (hm : m.size ≤ 10000) {D : List UInt8} (hD : msgD p i m = D) (w : World) (hL : LaidR w) :
    Calls Tryd.prog 17 #[.agg (p.map B8).toArray, .int .i64 i, .string m] w fun e w' => e = .returned (.agg (D.map B8).toArray) ∧ Below w.heap.size w w' := by
  obtain ⟨Z, hZ⟩ : ∃ Z, Hid (zero16 = Z) := ⟨_, rfl⟩
  have h16 := zero_16
  rw [hZ.out] at h16
  have hZl : Hid (Z.length = 16) := hide (by rw [← hZ.out]; rfl)
  have hL := hide hL
  have hDl : D.length = 16 := by rw [← hD]; exact List.length_take.trans (by rw [sha_len]; rfl)
  have HDl := hide hDl
  obtain ⟨E, hE⟩ : ∃ E, Hid (encInt i = E) := ⟨_, rfl⟩
  have HD : Hid ((sha (inputL 4 [byB p, byB E, m])).take 16 = D) := hide (by rw [← hE.out]; exact hD)
  have HEL : Hid (E.length ≤ 9) := hide (by rw [← hE.out]; exact encInt_le i)
  have hsz : ∀ s ∈ [byB p, byB E, m], s.size ≤ 10000 := by
    have := HEL.out
    intro s hs; simp at hs; rcases hs with rfl | rfl | rfl
    · rw [byB_size]; omega
    · rw [byB_size]; omega
    · exact hm
  have HSZ := hide hsz
  have hp := hide hp
  have hzD : Hid ((Tryd.prog.info? 23).map (·.size) = some (D.map B8).length) := hide (by rw [List.length_map, hDl]; exact size_dig')
  have hzp : Hid ((Tryd.prog.info? 23).map (·.size) = some (p.map B8).length) := hide (by rw [List.length_map, hp.out]; exact size_dig')
  clear hDl hsz hD
  go_enter Tryd.func17, Tryd.ntmps17
  go_wp2_with (with_reducible refine hold_load ?_)
  refine hide ?_
  obtain ⟨w1, G1, G2, hw1, e1, e2, x1, x2, b1, l1, l2⟩ := allocs2 w (p.map B8) (Z.map B8) 23 23
  have hL1 := hide (hL.out.below b1)
  rw [← e2, ← hw1, ← e1]
  have l0 : w.heap.size ≤ G1 := Nat.le_of_eq e1.symm
  clear hw1 e1 e2
  refine load_box 7 23 _ 23 G1 0 (p.map B8) (p.map B8) isAgg_dig hzp.out x1 rfl (fun j u hj => by rw [Nat.zero_add]; exact hj) ?_
  go_wp2_with fail
  refine (text_any p hp.out _).mono ?_
  rintro e w2 ⟨rfl, h2⟩
  have b2 := b1.trans (h2.mono b1.size)
  have x2 := x2.under h2
  clear h2 x1
  go_wp2_with fail
  refine (rInt_at hE.out hi0 hi1).mono ?_
  rintro e w3 ⟨a3, c3, rfl, o3, h3⟩
  have b3 := b2.trans (h3.mono b2.size)
  have x2 := x2.under h3
  clear h3 b2
  go_wp2_with (with_reducible refine to_str 11 _ _ _ _ E rfl o3.sl ?_)
  have s4 : Sl (w3.alloc (.cells #[.string (byB p), .string (byB (E)), .string m] 9)) 1 (some ⟨w3.heap.size, 0, none⟩) 3 3 ([byB p, byB (E), m].map Value.string) := Sl.fresh w3 9 1 3 ([byB p, byB (E), m].map Value.string) rfl (by decide)
  have x2 := x2.alloc (.cells #[.string (byB p), .string (byB (E)), .string m] 9)
  have b4 := blo3 b3 (Nat.le_refl _) (.cells #[.string (byB p), .string (byB (E)), .string m] 9)
  refine (rof_at HD.out (by simp) HSZ.out (hL.out.below b4) s4).mono ?_
  rintro e w5 ⟨rfl, h5⟩
  have b5 := b4.trans (h5.mono b4.size)
  have x2 := x2.under h5
  clear h5 b4 b3 s4
  go_wp2_with (with_reducible refine hold_store ?_)
  refine hide ?_
  refine store_all 23 _ _ 23 G2 (Z.map B8) (D.map B8) (.agg (D.map B8).toArray) hzD.out x2 (by rfl) (by rfl) rfl (by rw [List.length_map, HDl.out, List.length_map, hZl.out]) (one_map _ (fun _ => rfl) _) ?_
  intro w6 x9 hgr hsz'
  go_wp2_with fail
  refine bodyPost_ret (run_results_cell rfl rfl isAgg_dig hzD.out x9) rfl ⟨rfl, ?_⟩
  exact b5.grown hgr b5.size (fun k hk => by cases hk; omega)
end Go.Proofs.YtblgmjnkllkhbaaDoor
end

/- the text S17 -/
section
/- Chapter 03: the reference's start. -/
namespace Go.Proofs.YtblgmjnkllkhbaaDoor
open Go.RowKit Go.Dx
theorem rmac_at3 {key text : ByteArray} {r : List UInt8} (h : macL key.data.toList text.data.toList = r) (hk : key.size ≤ 100000) (ht : text.size ≤ 100000) {w : World} (hL : LaidR w) :
    Calls Tryd.prog 51 #[.string key, .string text] w fun e w' => e = .returned (.string ⟨r.toArray⟩) ∧ Below w.heap.size w w' := by subst h; exact rmac_any key text hk ht w hL
set_option maxRecDepth 100000 in
set_option maxHeartbeats 2000000 in
theorem ref_start (s : ByteArray) (hs : s.size ≤ 1000) (i k : Int) (hi : 0 ≤ i ∧ i ≤ 9223372036854775807) (hk : 0 ≤ k ∧ k ≤ 1000) {D : List UInt8} (hD : startL s.data.toList i k = D) (w : World) (hL : LaidR w) :
    Calls Tryd.prog 33 #[.string s, .int .i64 i, .int .i64 k] w fun e w' => e = .returned (.agg (D.map B8).toArray) ∧ Below w.heap.size w w' := by
  obtain ⟨Z, hZ⟩ : ∃ Z, Hid (zero16 = Z) := ⟨_, rfl⟩
  have h16 := zero_16
  rw [hZ.out] at h16
  have hZl : Hid (Z.length = 16) := hide (by rw [← hZ.out]; rfl)
  have hL := hide hL
  have hDl : D.length = 16 := by rw [← hD]; exact startL_len _ _ _
  have HDl := hide hDl
  obtain ⟨M, hM⟩ : ∃ M, Hid (macL s.data.toList (chainB ++ encInts [i, k]) = M) := ⟨_, rfl⟩
  have hMl : M.length = 32 := by rw [← hM.out]; unfold macL; rw [sha_len]
  have HDM : Hid (M.take 16 = D) := hide (by rw [← hM.out, ← hD]; rfl)
  have HMl := hide hMl
  have hb2 : ∀ x ∈ [i, k], -9223372036854775808 ≤ x ∧ x ≤ 9223372036854775807 := by intro x hx; simp at hx; rcases hx with rfl | rfl <;> omega
  have hle := encInts_le [i, k]
  obtain ⟨E, hE⟩ : ∃ E, Hid (encInts [i, k] = E) := ⟨_, rfl⟩
  rw [hE.out] at hle
  have HLE : Hid (E.length ≤ 27) := hide hle
  have HB2 := hide hb2
  have hzD : Hid ((Tryd.prog.info? 23).map (·.size) = some (D.map B8).length) := hide (by rw [List.length_map, hDl]; exact size_dig')
  clear hDl hMl hD hle hb2
  go_enter Tryd.func33, Tryd.ntmps33
  go_wp2_with fail
  obtain ⟨w1, G1, G2, hw1, e1, e2, x1, x2, b1, l1, l2⟩ := allocs2 w (Z.map B8) [.int .i64 i, .int .i64 k] 23 3
  rw [← e2, ← hw1, ← e1]
  have l0 : w.heap.size ≤ G1 := Nat.le_of_eq e1.symm
  clear hw1 e1 e2
  refine (rg_ints [i, k] HB2.out (by simp) hE.out _ _ _ w1 (x2.sl_all (n := 2) rfl (by decide))).mono ?_
  rintro e w2 ⟨rfl, h2⟩
  have b2 := b1.trans (h2.mono b1.size)
  have x1 := x1.under h2
  clear h2 x2 b1
  have hcat : (⟨#[99, 104, 97, 105, 110]⟩ : ByteArray) ++ ⟨E.toArray⟩ = byB (chainB ++ E) := byB_append chainB E
  have HC := hide hcat
  have HCS : Hid ((⟨#[99, 104, 97, 105, 110]⟩ : ByteArray).size + (⟨E.toArray⟩ : ByteArray).size ≤ 9223372036854775807) := hide (by show 5 + (byB E).size ≤ _; rw [byB_size]; have := HLE.out; omega)
  clear hcat
  go_wp2_with (with_reducible refine str_add 12 _ _ _ _ ⟨#[99, 104, 97, 105, 110]⟩ ⟨E.toArray⟩ (byB (chainB ++ E)) rfl rfl HCS.out HC.out ?_)
  refine (rmac_at3 (key := s) (text := byB (chainB ++ E)) (r := M) (by rw [← hM.out, hE.out]; rfl) (by omega) (by rw [byB_size, List.length_append]; have := HLE.out; show 5 + _ ≤ _; omega) (hL.out.below b2)).mono ?_
  rintro e w3 ⟨rfl, h3⟩
  have b3 := b2.trans (h3.mono b2.size)
  have x1 := x1.under h3
  clear h3 b2
  have hX2 : 16 ≤ (⟨M.toArray⟩ : ByteArray).size := by show 16 ≤ (byB M).size; rw [byB_size, HMl.out]; omega
  go_wp2_with fail
  refine (ref_digest ⟨M.toArray⟩ hX2 (D := D) HDM.out _).mono ?_
  rintro e w4 ⟨rfl, h4⟩
  have x1 := x1.under h4
  have b4 := b3.trans (h4.mono b3.size)
  clear h4 b3
  go_wp2_with (with_reducible refine hold_store ?_)
  refine hide ?_
  refine store_all 23 _ _ 23 G1 (Z.map B8) (D.map B8) (.agg (D.map B8).toArray) hzD.out x1 (by rfl) (by rfl) rfl (by rw [List.length_map, HDl.out, List.length_map, hZl.out]) (one_map _ (fun _ => rfl) _) ?_
  intro w6 x9 hgr hsz'
  go_wp2_with fail
  refine bodyPost_ret (run_results_cell rfl rfl isAgg_dig hzD.out x9) rfl ⟨rfl, ?_⟩
  exact b4.grown hgr b4.size (fun k hk => by cases hk; omega)
end Go.Proofs.YtblgmjnkllkhbaaDoor
end

/- the text S18 -/
section
/- Chapter 03: the reference's leaf. -/
namespace Go.Proofs.YtblgmjnkllkhbaaDoor
open Go.RowKit Go.Dx
set_option maxRecDepth 100000 in
set_option maxHeartbeats 2000000 in
theorem ref_leaf (s : ByteArray) (hs : s.size ≤ 1000) (k : Int) (hk : 0 ≤ k ∧ k ≤ 9223372036854775807) {D : List UInt8} (hD : treeL s.data.toList 0 k = D) (w : World) (hL : LaidR w) :
    Calls Tryd.prog 46 #[.string s, .int .i64 k] w fun e w' => e = .returned (.agg (D.map B8).toArray) ∧ Below w.heap.size w w' := by
  obtain ⟨Z, hZ⟩ : ∃ Z, Hid (zero16 = Z) := ⟨_, rfl⟩
  have h16 := zero_16
  rw [hZ.out] at h16
  have hZl : Hid (Z.length = 16) := hide (by rw [← hZ.out]; rfl)
  have hL := hide hL
  obtain ⟨f, Hf⟩ : ∃ f : Nat → List UInt8, Hid (∀ c : Nat, f c = advL k c 0 3 (startL s.data.toList k c)) := ⟨_, fun _ => rfl⟩
  have hfl : ∀ c, (f c).length = 16 := fun c => by rw [Hf.out]; exact advL_len _ _ _ _ (startL_len _ _ _)
  obtain ⟨R, HR⟩ : ∃ R, Hid (ofD 3 [catL f 68] = R) := ⟨_, rfl⟩
  have hRl : R.length = 16 := by rw [← HR.out]; exact ofD_len _ _
  have HRl := hide hRl
  have HD : Hid (ofD 1 [R] = D) := hide (by rw [← HR.out, ← hD, treeL, show f = fun c : Nat => advL k c 0 3 (startL s.data.toList k c) from funext Hf.out]; rfl)
  have hDl : D.length = 16 := by rw [← HD.out]; exact ofD_len _ _
  have HDl := hide hDl
  have HFL := hide hfl
  have hcl := hide (catL_len hfl)
  have hzD : Hid ((Tryd.prog.info? 23).map (·.size) = some (D.map B8).length) := hide (by rw [List.length_map, hDl]; exact size_dig')
  have hzR : Hid ((Tryd.prog.info? 23).map (·.size) = some (R.map B8).length) := hide (by rw [List.length_map, hRl]; exact size_dig')
  clear hDl hD hRl hfl
  go_enter Tryd.func46, Tryd.ntmps46
  go_wp2_with fail
  obtain ⟨w1, G1, hw1, e1, x1, b1, l1⟩ := allocs1 w (Z.map B8) 23
  rw [← hw1, ← e1]
  have l0 : w.heap.size ≤ G1 := Nat.le_of_eq e1.symm
  clear hw1 e1
  go_loopg [5, 6] 68 (fun gh o v w' => ∃ c : Nat, c ≤ 68 ∧ gh = 68 - c ∧ o = .string ⟨(catL f c).toArray⟩ ∧ v = .int .i64 (c : Int) ∧ Box w' G1 23 (Z.map B8) ∧ Below w.heap.size w w')
  case atStart => exact ⟨0, by omega, by omega, rfl, rfl, x1, b1⟩
  case round =>
    clear x1 b1
    obtain ⟨c, hc, hg, rfl, rfl, x1, b⟩ := hrel
    have HG := hide hg
    clear hg
    by_cases hlt : c < 68
    · have d0 : decide ((c : Int) < 68) = true := decide_eq_true (by omega)
      obtain ⟨S0, HS0⟩ : ∃ S, Hid (startL s.data.toList k c = S) := ⟨_, rfl⟩
      have hS0l : S0.length = 16 := by rw [← HS0.out]; exact startL_len _ _ _
      obtain ⟨V, HV⟩ : ∃ V, Hid (f c = V) := ⟨_, rfl⟩
      have hVl : Hid (V.length = 16) := hide (by rw [← HV.out]; exact HFL.out _)
      have HAV : Hid (advL k c 0 3 S0 = V) := hide (by rw [← HV.out, Hf.out, HS0.out])
      have HCAT : Hid ((⟨(catL f c).toArray⟩ : ByteArray) ++ ⟨V.toArray⟩ = ⟨(catL f (c + 1)).toArray⟩) := hide (by rw [catL, HV.out]; exact byB_append (catL f c) V)
      have HCS : Hid ((⟨(catL f c).toArray⟩ : ByteArray).size + (⟨V.toArray⟩ : ByteArray).size ≤ 9223372036854775807) := hide (by show (byB (catL f c)).size + (byB V).size ≤ _; rw [byB_size, byB_size, hcl.out, hVl.out]; omega)
      go_wp2_with fail
      refine (ref_start s hs k c hk (by omega) HS0.out _ (hL.out.below b)).mono ?_
      rintro e w2 ⟨rfl, h2⟩
      have x1 := x1.under h2
      have b2 := b.trans (h2.mono b.size)
      clear h2 b
      go_wp2_with fail
      have hA := ref_advance k c 0 hk (by omega) 3 (by omega) (by omega) S0 hS0l HAV.out w2 (hL.out.below b2)
      refine hA.mono ?_
      rintro e w3 ⟨rfl, h3⟩
      have x1 := x1.under h3
      have b3 := b2.trans (h3.mono b2.size)
      clear h3 b2 hA
      go_wp2_with fail
      refine (text_any V hVl.out _).mono ?_
      rintro e w4 ⟨rfl, h4⟩
      have x1 := x1.under h4
      have b4 := b3.trans (h4.mono b3.size)
      clear h4 b3
      go_wp2_with (with_reducible refine str_add 21 _ _ _ _ _ _ _ rfl rfl HCS.out HCAT.out ?_)
      go_roundg (68 - (c + 1))
      case measure => have := HG.out; omega
      case rel => exact ⟨c + 1, by omega, rfl, rfl, by go_num, x1, b4⟩
    · obtain rfl : c = 68 := by omega
      obtain ⟨C, hC⟩ : ∃ C, Hid (catL f 68 = C) := ⟨_, rfl⟩
      have hCl : C.length = 1088 := by rw [← hC.out, hcl.out]
      rw [hC.out]
      have HR2 : Hid (ofD 3 [C] = R) := hide (by rw [← hC.out]; exact HR.out)
      have hsz3 : Hid (∀ s ∈ [byB C], s.size ≤ 10000) := hide (by intro s hs; simp at hs; subst hs; rw [byB_size]; omega)
      have hsz1 : Hid (∀ s ∈ [byB R], s.size ≤ 10000) := hide (by intro s hs; simp at hs; subst hs; rw [byB_size, HRl.out]; omega)
      have d0 : decide ((68 : Int) < 68) = false := by decide
      clear hCl
      go_wp2_with fail
      have s3 : Sl (wr.alloc (.cells #[.string (byB C)] 9)) 1 (some ⟨wr.heap.size, 0, none⟩) 1 1 ([byB C].map Value.string) := Sl.fresh wr 9 1 1 ([byB C].map Value.string) rfl (by decide)
      have x1 := x1.alloc (.cells #[.string (byB C)] 9)
      have b3 := blo3 b (Nat.le_refl _) (.cells #[.string (byB C)] 9)
      refine (rof_at HR2.out (by simp) hsz3.out (hL.out.below b3) s3).mono ?_
      rintro e w4 ⟨rfl, h4⟩
      have x1 := x1.under h4
      have b4 := b3.trans (h4.mono b3.size)
      clear h4 b3 b s3
      go_wp2_with (with_reducible refine hold_store ?_)
      refine hide ?_
      refine store_all 23 _ _ 23 w4.heap.size (Z.map B8) (R.map B8) (.agg (R.map B8).toArray) hzR.out (Box.new w4 _ _) (by rfl) (by rfl) rfl (by rw [List.length_map, HRl.out, List.length_map, hZl.out]) (one_map _ (fun _ => rfl) _) ?_
      intro w5 x5 hgr hsz'
      have h5 : Below w4.heap.size w4 w5 := (sblo w4 _).grown hgr (by simp) (fun k hk => by cases hk; exact Nat.le_refl _)
      have x1 := x1.under h5
      have b5 := b4.trans (h5.mono b4.size)
      generalize w4.heap.size = G5 at *
      clear hgr hsz' h5 b4
      go_wp2_with (with_reducible refine load_box 25 23 _ 23 G5 0 (R.map B8) (R.map B8) isAgg_dig hzR.out x5 rfl (fun j u hj => by rw [Nat.zero_add]; exact hj) ?_)
      refine (text_any R HRl.out _).mono ?_
      rintro e w6 ⟨rfl, h6⟩
      have x1 := x1.under h6
      have b6 := b5.trans (h6.mono b5.size)
      clear h6 b5 x5
      go_wp2_with fail
      have s6 : Sl (w6.alloc (.cells #[.string (byB R)] 9)) 1 (some ⟨w6.heap.size, 0, none⟩) 1 1 ([byB R].map Value.string) := Sl.fresh w6 9 1 1 ([byB R].map Value.string) rfl (by decide)
      have x1 := x1.alloc (.cells #[.string (byB R)] 9)
      have b6 := blo3 b6 (Nat.le_refl _) (.cells #[.string (byB R)] 9)
      refine (rof_at HD.out (by simp) hsz1.out (hL.out.below b6) s6).mono ?_
      rintro e w7 ⟨rfl, h7⟩
      have x1 := x1.under h7
      have b7 := b6.trans (h7.mono b6.size)
      clear h7 b6 s6
      go_wp2_with (with_reducible refine hold_store ?_)
      refine hide ?_
      refine store_all 23 _ _ 23 G1 (Z.map B8) (D.map B8) (.agg (D.map B8).toArray) hzD.out x1 (by rfl) (by rfl) rfl (by rw [List.length_map, HDl.out, List.length_map, hZl.out]) (one_map _ (fun _ => rfl) _) ?_
      intro w8 x9 hgr hsz'
      go_wp2_with fail
      refine bodyPost_ret (run_results_cell rfl rfl isAgg_dig hzD.out x9) rfl ⟨rfl, ?_⟩
      exact b7.grown hgr b7.size (fun k hk => by cases hk; omega)
end Go.Proofs.YtblgmjnkllkhbaaDoor
end

/- the text S23 -/
section
/- Chapter 03: the reference's levels. -/
set_option linter.unusedVariables false
namespace Go.Proofs.YtblgmjnkllkhbaaDoor
open Go.RowKit Go.Dx
/-- the first n values of a level, joined -/
def lvL (s : List UInt8) (l n : Nat) : List UInt8 := catL (fun j => treeL s l (j : Int)) n
theorem lvL_len (s : List UInt8) (l n : Nat) : (lvL s l n).length = n * 16 := catL_len (fun _ => treeL_len _ _ _) n
theorem lvL_at (s : List UInt8) (l : Nat) {n k : Nat} (hk : k < n) (j : Nat) (hj : j < 16) : (lvL s l n)[k * 16 + j]? = (treeL s l (k : Int))[j]? := by
  have h := catL_take (f := fun j : Nat => treeL s l (j : Int)) (fun _ => treeL_len _ _ _) [] n k hk
  rw [List.append_nil] at h
  have h2 := congrArg (fun x : List UInt8 => x[j]?) h
  simp only [valL] at h2
  rw [List.getElem?_take, if_pos hj, List.getElem?_drop] at h2
  exact h2
theorem own_ne {w : World} {B B' : Nat} {e e' : TypeId} {sz sz' : Nat} {p q : Addr} {n c n' c' : Nat} {cs cs' : List Value} (h : Own w B e sz (some p) n c cs) (h' : Own w B' e' sz' (some q) n' c' cs') (he : e ≠ e') : p.block ≠ q.block := by
  intro hb
  rcases h.2 with ⟨h1, _⟩ | ⟨g, cap, cur, h1, _, hg, _⟩
  · cases h1
  · rcases h'.2 with ⟨h2, _⟩ | ⟨g', cap', cur', h2, _, hg', _⟩
    · cases h2
    · injection h1 with h1
      injection h2 with h2
      injection h1 with h1
      injection h2 with h2
      subst h1 h2
      simp only at hb
      subst hb
      rw [hg] at hg'
      have hq := Option.some.inj hg'
      injection hq with _ hq _
      exact he hq
theorem own_zero {w : World} {B : Nat} {e : TypeId} {sz : Nat} {a : Option Addr} {n c : Nat} {cs : List Value} (h : Own w B e sz a n c cs) (hn : 0 < n) : ∃ g, a = some ⟨g, 0, none⟩ := by
  rcases h.2 with ⟨_, h0⟩ | ⟨g, cap, cur, hv, _⟩
  · omega
  · injection hv with h1; exact ⟨g, h1⟩
/-- a level lies in a block of its own -/
def Lv (w : World) (B : Nat) (s : List UInt8) (l n : Nat) (v : Value) : Prop := ∃ g c, v = .slice (some ⟨g, 0, none⟩) n c ∧ Own w B 23 16 (some ⟨g, 0, none⟩) n c ((lvL s l n).map B8)
theorem Lv.below {w w' : World} {B : Nat} {s : List UInt8} {l n : Nat} {v : Value} (h : Lv w B s l n v) (hb : Below w.heap.size w w') : Lv w' B s l n v := by
  obtain ⟨g, c, rfl, ho⟩ := h
  exact ⟨g, c, rfl, ho.below hb⟩
theorem Lv.kept {w w' : World} {B B' : Nat} {s : List UInt8} {l n m cm : Nat} {v : Value} {a : Option Addr} {xs : List Value} (h : Lv w B s l n v) (ho : Own w B' 48 1 a m cm xs) (hg : w.grownBy w' (a.map (·.block))) : Lv w' B s l n v := by
  obtain ⟨g, c, rfl, hl⟩ := h
  refine ⟨g, c, rfl, hl.kept hg ?_⟩
  intro p hp e
  cases hp
  cases a with
  | none => cases e
  | some q =>
    injection e with e
    exact own_ne hl ho (by decide) e
theorem Lv.cells {w : World} {B : Nat} {s : List UInt8} {l n : Nat} {v : Value} (h : Lv w B s l n v) : ∃ g c, v = .slice (some ⟨g, 0, none⟩) n c ∧ ∀ k : Nat, k < n → ∀ j u, ((treeL s l (k : Int)).map B8)[j]? = some u → w.cell? ((⟨g, k * 16, none⟩ : Addr).add j) = some u := by
  obtain ⟨g, c, rfl, ho⟩ := h
  refine ⟨g, c, rfl, fun k hk j u hu => ?_⟩
  have hj : j < 16 := by
    have := (List.getElem?_eq_some_iff.1 hu).1
    rw [List.length_map, treeL_len] at this
    exact this
  have hc := ho.sl.cell _ rfl (k * 16 + j) u (by rw [List.getElem?_map, lvL_at s l hk j hj, ← List.getElem?_map]; exact hu)
  rw [Addr.add_lit, Nat.zero_add] at hc
  rw [Addr.add_lit]
  exact hc
/-- the levels of a tree, as the reference hands them back -/
structure TreeAt (w : World) (s : List UInt8) (H g : Nat) : Prop where
  row : ∀ l, l ≤ H → ∃ gl cl, w.cell? ⟨g, l, none⟩ = some (.slice (some ⟨gl, 0, none⟩) (2 ^ (H - l)) cl) ∧ ∀ k : Nat, k < 2 ^ (H - l) → ∀ j u, ((treeL s l (k : Int)).map B8)[j]? = some u → w.cell? ((⟨gl, k * 16, none⟩ : Addr).add j) = some u
theorem cell_blw {w w' : World} {a : Addr} {v : Value} (h : w.cell? a = some v) (hb : Below w.heap.size w w') : w'.cell? a = some v := by
  rw [hb.cell (World.block_lt_of_cell? w _ h)]; exact h
theorem TreeAt.below {w w' : World} {s : List UInt8} {H g : Nat} (h : TreeAt w s H g) (hb : Below w.heap.size w w') : TreeAt w' s H g := ⟨fun l hl => by
  obtain ⟨gl, cl, h1, h2⟩ := h.row l hl
  exact ⟨gl, cl, cell_blw h1 hb, fun k hk j u hu => cell_blw (h2 k hk j u hu) hb⟩⟩
theorem two_pow {H l : Nat} (h : l < H) : 2 ^ (H - l) = 2 * 2 ^ (H - (l + 1)) := by
  rw [show H - l = (H - (l + 1)) + 1 by omega, Nat.pow_succ, Nat.mul_comm]
theorem pow_64 {n : Nat} (h : n ≤ 6) : 2 ^ n ≤ 64 ∧ 0 < 2 ^ n := by rcases (by omega : n = 0 ∨ n = 1 ∨ n = 2 ∨ n = 3 ∨ n = 4 ∨ n = 5 ∨ n = 6) with rfl | rfl | rfl | rfl | rfl | rfl | rfl <;> decide
theorem lvL_succ (s : List UInt8) (l n : Nat) : lvL s l (n + 1) = lvL s l n ++ treeL s l (n : Int) := rfl
theorem treeL_two (s : List UInt8) (l m : Nat) : treeL s (l + 1) (m : Int) = nodeL (treeL s l ((2 * m : Nat) : Int)) (treeL s l ((2 * m + 1 : Nat) : Int)) := by
  rw [treeL]
  congr 2 <;> omega
section
variable {P : Program} {w : World} {ops : Array Oper} {rest : List Oper} {act : Act} {Q : Exit → Act → World → Prop} {ty : TypeId} {pos : String} {after : Array Edge}
/-- 'xs[i]', the address: elements of sz cells, the slice begins its block -/
theorem index_own (d : Nat) (t : TypeId) (x y : Operand) (sz : Nat) (e : TypeId) (ht : P.underlying t = some (.slice e)) (hsz : (P.info? e).map (·.size) = some sz)
    (g n c : Nat) (i : Nat) (iv : Int) (hx : act.eval x = .slice (some ⟨g, 0, none⟩) n c) (hy : act.eval y = .int .i64 iv) (hiv : iv = (i : Int)) (hi : i < n)
    (hK : wpList P ops Q rest (act.put (some d) (.pointer (some ⟨g, i * sz, none⟩))) w) :
    wpList P ops Q ({ dst := some d, op := .indexAddr t x y, type := ty, pos := pos, after := after, guard := none } :: rest) act w := by
  refine wpList_plain rfl fun K hK' => ?_
  obtain ⟨i0, hi0, hs0⟩ := Option.map_eq_some_iff.1 hsz
  subst hiv
  have hrun : (Instr.indexAt t (.slice (some ⟨g, 0, none⟩) n c) (.int .i64 (i : Int))).run P w = .ok (.pointer (some ⟨g, i * sz, none⟩)) w := by
    simp [Instr.indexAt, asIntOf, run_underlying ht, sizeOf, typeInfo, hi0, hs0, hi, Addr.add_lit]
  unfold Oper.wp
  simp [execOp, hx, hy, hrun, Result.andThen]
  exact hK' _ _ hK
end
def zeroRow : Value := .slice none 0 0
theorem info_drow : (Tryd.prog.info? 48).map (fun i => (i.zero, i.size, i.bytes)) = some (some zeroRow, 1, 24) := by kernel_rfl
set_option maxRecDepth 100000 in
set_option maxHeartbeats 4000000 in
theorem ref_levels (s : ByteArray) (hs : s.size ≤ 1000) (H : Nat) (hH : H ≤ 6) (w : World) (hL : LaidR w) :
    Calls Tryd.prog 24 #[.string s, .int .i64 (H : Int)] w fun e w' => ∃ g c, e = .returned (.slice (some ⟨g, 0, none⟩) (H + 1) c) ∧ TreeAt w' s.data.toList H g ∧ Below w.heap.size w w' := by
  have hpw := pow_64 hH
  have hL := hide hL
  have hwr : wrap64 ((2 : Int) ^ H) = ((2 ^ H : Nat) : Int) := by
    rw [show ((2 : Int) ^ H) = ((2 ^ H : Nat) : Int) by norm_cast]
    generalize 2 ^ H = q at *
    unfold wrap64
    omega
  have hwr := hide hwr
  have hpw := hide hpw
  go_enter Tryd.func24, Tryd.ntmps24
  go_wp2_with fail
  go_loopg [5, 6] (2 ^ H) (fun gh o v w' => ∃ (i : Nat) (a : Option Addr) (c : Nat), i ≤ 2 ^ H ∧ gh = 2 ^ H - i ∧ o = .slice a i c ∧ v = .int .i64 (i : Int) ∧ Own w' w.heap.size 23 16 a i c ((lvL s.data.toList 0 i).map B8) ∧ Below w.heap.size w w')
  case atStart => exact ⟨0, none, 0, by omega, by omega, rfl, rfl, Own.nil _ _ _ _, Below.refl _ _⟩
  case round =>
    obtain ⟨i, a, c, hi, hg, rfl, rfl, ho, hb⟩ := hrel
    have HG := hide hg
    clear hg
    by_cases hlt : i < 2 ^ H
    · obtain ⟨V, HV⟩ : ∃ V, Hid (treeL s.data.toList 0 (i : Int) = V) := ⟨_, rfl⟩
      have hVl : Hid (V.length = 16) := hide (by rw [← HV.out]; exact treeL_len _ _ _)
      have hpc := hide (show ((2 : Int) ^ H) = ((2 ^ H : Nat) : Int) by norm_cast)
      have d0 : decide ((i : Int) < wrap64 ((2 : Int) ^ H)) = true := decide_eq_true (by rw [hwr.out]; omega)
      have d1 : decide ((i : Int) < (2 : Int) ^ H) = true := decide_eq_true (by rw [hpc.out]; omega)
      have hi64 : i < 64 := Nat.lt_of_lt_of_le hlt hpw.out.1
      have HLT := hide hlt
      have HI := hide hi
      clear hlt hi
      go_wp2_with fail
      refine (ref_leaf s hs (i : Int) ⟨by omega, by omega⟩ HV.out _ (hL.out.below hb)).mono ?_
      rintro e w2 ⟨rfl, h2⟩
      have ho2 := ho.below (h2.mono (Nat.le_refl _))
      have hb2 := hb.trans (h2.mono hb.size)
      clear h2
      go_wp2_with (first
        | (with_reducible refine build_dig 21 _ (V.map B8) rfl (by rw [List.length_map, hVl.out]) ?_)
        | (at_builtin; go_loud (refine app_d rfl _ _ rfl w w.heap.size _ _ _ _ rfl ho2 V hVl.out rfl (by omega) hb2.size hb2 ?_; intro a3 c3 w3 ho3 hg3 hb3)))
      go_roundg (2 ^ H - (i + 1))
      case measure => have := HG.out; have := HLT.out; omega
      case rel => exact ⟨i + 1, a3, c3, HLT.out, rfl, rfl, by go_num, by rw [lvL_succ, HV.out, List.map_append]; exact ho3, hb3⟩
    · have hie : i = 2 ^ H := by omega
      have hpc := hide (show ((2 : Int) ^ H) = ((2 ^ H : Nat) : Int) by norm_cast)
      have d0 : decide ((i : Int) < wrap64 ((2 : Int) ^ H)) = false := decide_eq_false (by rw [hwr.out]; omega)
      have d1 : decide ((i : Int) < (2 : Int) ^ H) = false := decide_eq_false (by rw [hpc.out]; omega)
      have d2 : ¬ (i : Int) < (2 : Int) ^ H := by rw [hpc.out]; omega
      have hi64 : i ≤ 64 := by rw [hie]; exact hpw.out.1
      have h0i : 0 < i := by rw [hie]; exact hpw.out.2
      obtain ⟨g0, rfl⟩ := own_zero ho h0i
      have HIE := hide hie
      clear hie hlt hi
      go_upto_region 7 with fail
      obtain ⟨w1, go0, hw1, e1, x1, b1, l1⟩ := allocs1 wr [.slice (some ⟨g0, 0, none⟩) i c] 48
      have hoo : Own w1 w.heap.size 48 1 (some ⟨go0, 0, none⟩) 1 1 [.slice (some ⟨g0, 0, none⟩) i c] := by
        rw [hw1, e1]
        exact Own.built wr w.heap.size 48 1 1 #[.slice (some ⟨g0, 0, none⟩) i c] hb.size rfl (by decide)
      have hl0 : Lv w1 w.heap.size s.data.toList 0 i (.slice (some ⟨g0, 0, none⟩) i c) := ⟨g0, c, rfl, ho.below b1⟩
      have hb1 := hb.trans (b1.mono hb.size)
      rw [← hw1, ← e1]
      have hl0 : Lv w1 w.heap.size s.data.toList 0 (2 ^ (H - 0)) (.slice (some ⟨g0, 0, none⟩) i c) := by rw [Nat.sub_zero, ← HIE.out]; exact hl0
      have hl0 := hide hl0
      have hpl : Hid (∀ l, l ≤ H → 2 ^ (H - l) ≤ 64 ∧ 0 < 2 ^ (H - l)) := hide (fun l hl => pow_64 (by omega))
      clear hw1 e1 x1 b1 l1 ho hb
      go_wp2_with fail
      go_loopg [7, 8] H (fun gh o v w' => ∃ (l go c : Nat) (vs : List Value), l ≤ H ∧ gh = H - l ∧ o = .slice (some ⟨go, 0, none⟩) (l + 1) c ∧ v = .int .i64 (l : Int) ∧ Own w' w.heap.size 48 1 (some ⟨go, 0, none⟩) (l + 1) c vs ∧ Hid (∀ j, j ≤ l → ∃ v, vs[j]? = some v ∧ Lv w' w.heap.size s.data.toList j (2 ^ (H - j)) v) ∧ Below w.heap.size w w')
      case atStart => exact ⟨0, go0, 1, _, by omega, by omega, rfl, rfl, hoo, hide (fun j hj => by
          obtain rfl : j = 0 := by omega
          exact ⟨_, rfl, hl0.out⟩), hb1⟩
      case round =>
        clear hoo hl0 hb1
        obtain ⟨l, go, co, vs, hl, hg2, rfl, rfl, hoo, hlv, hb2⟩ := hrel
        have HG2 := hide hg2
        clear hg2
        by_cases hlt : l < H
        · obtain ⟨v, hv, hLv⟩ := hlv.out l (Nat.le_refl _)
          obtain ⟨gl, cl, rfl, hcell⟩ := hLv.cells
          have HCELL := hide hcell
          have ql := hoo.sl.cell _ rfl l _ hv
          rw [Addr.add_lit, Nat.zero_add] at ql
          have d0 : decide ((l : Int) < (H : Int)) = true := decide_eq_true (by omega)
          have d0' : decide (l < H) = true := decide_eq_true hlt
          have hp2 := two_pow hlt
          have hpm := hpl.out (l + 1) (by omega)
          obtain ⟨N, HN⟩ : ∃ N : Nat, Hid (2 ^ (H - l) = N) := ⟨_, rfl⟩
          obtain ⟨M, HM⟩ : ∃ M : Nat, Hid (2 ^ (H - (l + 1)) = M) := ⟨_, rfl⟩
          rw [HN.out, HM.out] at hp2
          rw [HM.out] at hpm
          have HP2 := hide hp2
          clear hp2
          rw [HN.out] at ql HCELL
          have QL := hide ql
          clear hcell hv hLv ql
          obtain ⟨w2, hw2⟩ : ∃ w2, Hid (w2 = wr) := ⟨_, rfl⟩
          have hb22 : Below w2.heap.size w2 wr := by rw [hw2.out]; exact Below.refl _ _
          have hq2 : Hid (w2.cell? ⟨go, l, none⟩ = some (.slice (some ⟨gl, 0, none⟩) N cl)) := hide (by rw [hw2.out]; exact QL.out)
          have hC2 : Hid (∀ k : Nat, k < N → ∀ j u, ((treeL s.data.toList l (k : Int)).map B8)[j]? = some u → w2.cell? ((⟨gl, k * 16, none⟩ : Addr).add j) = some u) := hide (by rw [hw2.out]; exact HCELL.out)
          have hw2b : Hid (Below w.heap.size w w2) := hide (by rw [hw2.out]; exact hb2)
          go_wp2_with fail
          go_loopg [9, 10] M (fun gh o v w' => ∃ (m : Nat) (a : Option Addr) (c : Nat), m ≤ M ∧ gh = M - m ∧ o = .slice a m c ∧ v = .int .i64 (2 * (m : Int)) ∧ Own w' w2.heap.size 23 16 a m c ((lvL s.data.toList (l + 1) m).map B8) ∧ Below w2.heap.size w2 w')
          case atStart => exact ⟨0, none, 0, by omega, by omega, rfl, rfl, Own.nil _ _ _ _, hb22⟩
          case round =>
            clear hb22
            obtain ⟨m, a9, c9, hm, hgi, rfl, rfl, ho9, hbi⟩ := hrel
            have HGi := hide hgi
            clear hgi
            have ql := cell_blw hq2.out hbi
            by_cases hlm : m < M
            · have h2m : 2 * m + 1 < N := by have := HP2.out; omega
              have d1 : decide (2 * (m : Int) + 1 < (N : Int)) = true := decide_eq_true (by omega)
              obtain ⟨X0, HX0⟩ : ∃ X, Hid (treeL s.data.toList l ((2 * m : Nat) : Int) = X) := ⟨_, rfl⟩
              obtain ⟨X1, HX1⟩ : ∃ X, Hid (treeL s.data.toList l ((2 * m + 1 : Nat) : Int) = X) := ⟨_, rfl⟩
              obtain ⟨D, HD⟩ : ∃ D, Hid (nodeL X0 X1 = D) := ⟨_, rfl⟩
              have HTD : Hid (treeL s.data.toList (l + 1) (m : Int) = D) := hide (by rw [treeL_two, HX0.out, HX1.out, HD.out])
              have HX0l : Hid (X0.length = 16) := hide (by rw [← HX0.out]; exact treeL_len _ _ _)
              have HX1l : Hid (X1.length = 16) := hide (by rw [← HX1.out]; exact treeL_len _ _ _)
              have HDl : Hid (D.length = 16) := hide (by rw [← HD.out]; exact ofD_len _ _)
              have HC0 : Hid (∀ j u, (X0.map B8)[j]? = some u → wr.cell? ((⟨gl, 2 * m * 16, none⟩ : Addr).add j) = some u) := hide (fun j u hu => cell_blw (hC2.out (2 * m) (by omega) j u (by rw [HX0.out]; exact hu)) hbi)
              have HC1 : Hid (∀ j u, (X1.map B8)[j]? = some u → wr.cell? ((⟨gl, (2 * m + 1) * 16, none⟩ : Addr).add j) = some u) := hide (fun j u hu => cell_blw (hC2.out (2 * m + 1) (by omega) j u (by rw [HX1.out]; exact hu)) hbi)
              have hLi : Hid (LaidR wr) := hide (hL.out.below (hw2b.out.trans (hbi.mono hw2b.out.size)))
              have hN64 : N ≤ 128 := by have := HP2.out; omega
              go_wp2_with fail
              refine wp_region_free 18 [⟨0, 40, [40], fun vs _ => vs = [.slice a9 m c9]⟩, ⟨1, 41, [41], fun vs _ => vs = [.slice (some ⟨go, 0, none⟩) (l + 1) co]⟩, ⟨2, 42, [42], fun vs _ => vs = [.int .i64 (l : Int)]⟩, ⟨3, 43, [43], fun vs _ => vs = [.pointer (some ⟨go, l, none⟩)]⟩, ⟨4, 44, [44], fun vs _ => vs = [.slice (some ⟨gl, 0, none⟩) N cl]⟩, ⟨5, 45, [45], fun vs _ => vs = [.int .i64 (2 * (m : Int))]⟩, ⟨6, 46, [46], fun vs _ => vs = [.pointer (some ⟨gl, 2 * m * 16, none⟩)]⟩, ⟨7, 47, [47], fun vs _ => vs = [.agg (X0.map B8).toArray]⟩, ⟨8, 48, [48], fun vs _ => vs = [.slice (some ⟨go, 0, none⟩) (l + 1) co]⟩, ⟨9, 49, [49], fun vs _ => vs = [.int .i64 (l : Int)]⟩, ⟨10, 50, [50], fun vs _ => vs = [.pointer (some ⟨go, l, none⟩)]⟩, ⟨11, 51, [51], fun vs _ => vs = [.slice (some ⟨gl, 0, none⟩) N cl]⟩, ⟨12, 52, [52], fun vs _ => vs = [.int .i64 (2 * (m : Int))]⟩, ⟨13, 53, [53], fun vs _ => vs = [.int .i64 (2 * (m : Int) + 1)]⟩, ⟨14, 54, [54], fun vs _ => vs = [.pointer (some ⟨gl, (2 * m + 1) * 16, none⟩)]⟩, ⟨15, 55, [55], fun vs _ => vs = [.agg (X1.map B8).toArray]⟩, ⟨16, 56, [56], fun vs _ => vs = [.agg (D.map B8).toArray]⟩, ⟨17, 57, [57], fun vs w' => ∃ b, vs = [.slice (some ⟨b, 0, none⟩) 1 1] ∧ Sl w' 16 (some ⟨b, 0, none⟩) 1 1 (D.map B8)⟩] (by kernel_rfl) (by kernel_rfl) ?_ ?_ ?_
              · simp only [All]
                refine ⟨fun _ _ _ _ h => h, fun _ _ _ _ h => h, fun _ _ _ _ h => h, fun _ _ _ _ h => h, fun _ _ _ _ h => h, fun _ _ _ _ h => h, fun _ _ _ _ h => h, fun _ _ _ _ h => h, fun _ _ _ _ h => h, fun _ _ _ _ h => h, fun _ _ _ _ h => h, fun _ _ _ _ h => h, fun _ _ _ _ h => h, fun _ _ _ _ h => h, fun _ _ _ _ h => h, fun _ _ _ _ h => h, fun _ _ _ _ h => h, ?_, trivial⟩
                · rintro vs w w' hb ⟨b, h1, h2⟩
                  exact ⟨b, h1, h2.below hb⟩
              · simp only [All]
                refine ⟨?_, ?_, ?_, ?_, ?_, ?_, ?_, ?_, ?_, ?_, ?_, ?_, ?_, ?_, ?_, ?_, ?_, ?_, trivial⟩
                · intro o ho a' w' hb hfr hdep
                  obtain rfl := Option.some.inj ho
                  have g9 : a'.tmps[9]?.getD undef = .slice a9 m c9 := by have h := hfr 9 (by kernel_rfl); simpa using h
                  clear ho hfr hdep
                  go_wp2_with fail
                  exact ⟨rfl, _, rfl, Below.refl _ _, rfl⟩
                · intro o ho a' w' hb hfr hdep
                  obtain rfl := Option.some.inj ho
                  have g7 : a'.tmps[7]?.getD undef = .slice (some ⟨go, 0, none⟩) (l + 1) co := by have h := hfr 7 (by kernel_rfl); simpa using h
                  clear ho hfr hdep
                  go_wp2_with fail
                  exact ⟨rfl, _, rfl, Below.refl _ _, rfl⟩
                · intro o ho a' w' hb hfr hdep
                  obtain rfl := Option.some.inj ho
                  have g8 : a'.tmps[8]?.getD undef = .int .i64 (l : Int) := by have h := hfr 8 (by kernel_rfl); simpa using h
                  clear ho hfr hdep
                  go_wp2_with fail
                  exact ⟨rfl, _, rfl, Below.refl _ _, rfl⟩
                · intro o ho a' w' hb hfr hdep
                  obtain rfl := Option.some.inj ho
                  have g41 : a'.tmps[41]?.getD undef = .slice (some ⟨go, 0, none⟩) (l + 1) co := by have h := hdep 1 _ rfl (by kernel_rfl); simpa using h
                  have g42 : a'.tmps[42]?.getD undef = .int .i64 (l : Int) := by have h := hdep 2 _ rfl (by kernel_rfl); simpa using h
                  clear ho hfr hdep
                  go_wp2_with fail
                  exact ⟨rfl, _, rfl, Below.refl _ _, rfl⟩
                · intro o ho a' w' hb hfr hdep
                  obtain rfl := Option.some.inj ho
                  have g43 : a'.tmps[43]?.getD undef = .pointer (some ⟨go, l, none⟩) := by have h := hdep 3 _ rfl (by kernel_rfl); simpa using h
                  clear ho hfr hdep
                  have hcl := cell_blw ql hb
                  go_wp2_with fail
                  exact ⟨rfl, _, rfl, Below.refl _ _, rfl⟩
                · intro o ho a' w' hb hfr hdep
                  obtain rfl := Option.some.inj ho
                  have g10 : a'.tmps[10]?.getD undef = .int .i64 (2 * (m : Int)) := by have h := hfr 10 (by kernel_rfl); simpa using h
                  clear ho hfr hdep
                  go_wp2_with fail
                  exact ⟨rfl, _, rfl, Below.refl _ _, rfl⟩
                · intro o ho a' w' hb hfr hdep
                  obtain rfl := Option.some.inj ho
                  have g44 : a'.tmps[44]?.getD undef = .slice (some ⟨gl, 0, none⟩) N cl := by have h := hdep 4 _ rfl (by kernel_rfl); simpa using h
                  have g45 : a'.tmps[45]?.getD undef = .int .i64 (2 * (m : Int)) := by have h := hdep 5 _ rfl (by kernel_rfl); simpa using h
                  clear ho hfr hdep
                  refine index_own 46 48 _ _ 16 23 Tryd.underlying48 size_dig' gl N cl (2 * m) _ (by simpa [Act.eval] using g44) (by simpa [Act.eval] using g45) (by omega) (by omega) ?_
                  exact ⟨rfl, _, rfl, Below.refl _ _, rfl⟩
                · intro o ho a' w' hb hfr hdep
                  obtain rfl := Option.some.inj ho
                  have g46 : a'.tmps[46]?.getD undef = .pointer (some ⟨gl, 2 * m * 16, none⟩) := by have h := hdep 6 _ rfl (by kernel_rfl); simpa using h
                  clear ho hfr hdep
                  refine load_dig 47 _ _ (by simpa [Act.eval] using g46) (X0.map B8) (by rw [List.length_map, HX0l.out]) (fun j u hu => cell_blw (HC0.out j u hu) hb) ?_
                  exact ⟨rfl, _, rfl, Below.refl _ _, rfl⟩
                · intro o ho a' w' hb hfr hdep
                  obtain rfl := Option.some.inj ho
                  have g7 : a'.tmps[7]?.getD undef = .slice (some ⟨go, 0, none⟩) (l + 1) co := by have h := hfr 7 (by kernel_rfl); simpa using h
                  clear ho hfr hdep
                  go_wp2_with fail
                  exact ⟨rfl, _, rfl, Below.refl _ _, rfl⟩
                · intro o ho a' w' hb hfr hdep
                  obtain rfl := Option.some.inj ho
                  have g8 : a'.tmps[8]?.getD undef = .int .i64 (l : Int) := by have h := hfr 8 (by kernel_rfl); simpa using h
                  clear ho hfr hdep
                  go_wp2_with fail
                  exact ⟨rfl, _, rfl, Below.refl _ _, rfl⟩
                · intro o ho a' w' hb hfr hdep
                  obtain rfl := Option.some.inj ho
                  have g48 : a'.tmps[48]?.getD undef = .slice (some ⟨go, 0, none⟩) (l + 1) co := by have h := hdep 8 _ rfl (by kernel_rfl); simpa using h
                  have g49 : a'.tmps[49]?.getD undef = .int .i64 (l : Int) := by have h := hdep 9 _ rfl (by kernel_rfl); simpa using h
                  clear ho hfr hdep
                  go_wp2_with fail
                  exact ⟨rfl, _, rfl, Below.refl _ _, rfl⟩
                · intro o ho a' w' hb hfr hdep
                  obtain rfl := Option.some.inj ho
                  have g50 : a'.tmps[50]?.getD undef = .pointer (some ⟨go, l, none⟩) := by have h := hdep 10 _ rfl (by kernel_rfl); simpa using h
                  clear ho hfr hdep
                  have hcl := cell_blw ql hb
                  go_wp2_with fail
                  exact ⟨rfl, _, rfl, Below.refl _ _, rfl⟩
                · intro o ho a' w' hb hfr hdep
                  obtain rfl := Option.some.inj ho
                  have g10 : a'.tmps[10]?.getD undef = .int .i64 (2 * (m : Int)) := by have h := hfr 10 (by kernel_rfl); simpa using h
                  clear ho hfr hdep
                  go_wp2_with fail
                  exact ⟨rfl, _, rfl, Below.refl _ _, rfl⟩
                · intro o ho a' w' hb hfr hdep
                  obtain rfl := Option.some.inj ho
                  have g52 : a'.tmps[52]?.getD undef = .int .i64 (2 * (m : Int)) := by have h := hdep 12 _ rfl (by kernel_rfl); simpa using h
                  clear ho hfr hdep
                  go_wp2_with fail
                  exact ⟨rfl, _, rfl, Below.refl _ _, rfl⟩
                · intro o ho a' w' hb hfr hdep
                  obtain rfl := Option.some.inj ho
                  have g51 : a'.tmps[51]?.getD undef = .slice (some ⟨gl, 0, none⟩) N cl := by have h := hdep 11 _ rfl (by kernel_rfl); simpa using h
                  have g53 : a'.tmps[53]?.getD undef = .int .i64 (2 * (m : Int) + 1) := by have h := hdep 13 _ rfl (by kernel_rfl); simpa using h
                  clear ho hfr hdep
                  refine index_own 54 48 _ _ 16 23 Tryd.underlying48 size_dig' gl N cl (2 * m + 1) _ (by simpa [Act.eval] using g51) (by simpa [Act.eval] using g53) (by omega) (by omega) ?_
                  exact ⟨rfl, _, rfl, Below.refl _ _, rfl⟩
                · intro o ho a' w' hb hfr hdep
                  obtain rfl := Option.some.inj ho
                  have g54 : a'.tmps[54]?.getD undef = .pointer (some ⟨gl, (2 * m + 1) * 16, none⟩) := by have h := hdep 14 _ rfl (by kernel_rfl); simpa using h
                  clear ho hfr hdep
                  refine load_dig 55 _ _ (by simpa [Act.eval] using g54) (X1.map B8) (by rw [List.length_map, HX1l.out]) (fun j u hu => cell_blw (HC1.out j u hu) hb) ?_
                  exact ⟨rfl, _, rfl, Below.refl _ _, rfl⟩
                · intro o ho a' w' hb hfr hdep
                  obtain rfl := Option.some.inj ho
                  have g47 : a'.tmps[47]?.getD undef = .agg (X0.map B8).toArray := by have h := hdep 7 _ rfl (by kernel_rfl); simpa using h
                  have g55 : a'.tmps[55]?.getD undef = .agg (X1.map B8).toArray := by have h := hdep 15 _ rfl (by kernel_rfl); simpa using h
                  clear ho hfr hdep
                  go_wp2_with fail
                  refine (ref_node X0 X1 HX0l.out HX1l.out HD.out _ (hLi.out.below hb)).mono ?_
                  rintro e w2 ⟨rfl, h2⟩
                  go_wp2_with fail
                  exact ⟨rfl, _, rfl, h2, rfl⟩
                · intro o ho a' w' hb hfr hdep
                  obtain rfl := Option.some.inj ho
                  have g56 : a'.tmps[56]?.getD undef = .agg (D.map B8).toArray := by have h := hdep 16 _ rfl (by kernel_rfl); simpa using h
                  clear ho hfr hdep
                  refine build_dig 57 _ (D.map B8) (by simpa [Act.eval] using g56) (by rw [List.length_map, HDl.out]) ?_
                  exact ⟨rfl, _, rfl, sblo _ _, _, rfl, Sl.fresh _ _ 16 1 (D.map B8) (by rw [List.length_map, HDl.out]) (by decide)⟩
              · intro g w9 hb9 hp
                obtain ⟨bN, p57, sN⟩ := hp 17 _ rfl
                have p40 := hp 0 _ rfl
                clear hp
                simp at p57 p40
                simp only [List.drop_succ_cons, List.drop_zero, List.map_cons, List.map_nil, putAll, Act.put, List.setIfInBounds_toArray, List.set_cons_succ, List.set_cons_zero, List.cons_append, List.nil_append, p57, p40]
                have ho9' := ho9.below hb9
                have hbi9 := hbi.trans (hb9.mono hbi.size)
                have HDL := HDl.out
                go_wp2_with (at_builtin; go_loud (refine append_own rfl _ _ 48 rfl 23 zeroDig 16 16 Tryd.underlying48 info_dig rfl w2 w2.heap.size _ _ _ _ rfl ho9' (some ⟨bN, 0, none⟩) 1 1 (D.map B8) rfl sN (one_map _ (fun _ => rfl) _) (by omega) (by unfold maxLen; omega) hbi9.size hbi9 ?_; intro aA cA wA hoA hgA hbA))
                go_roundg (M - (m + 1))
                case measure => have := HGi.out; omega
                case rel => exact ⟨m + 1, aA, cA, by omega, rfl, rfl, by go_num, by rw [lvL_succ, HTD.out, List.map_append]; exact hoA, hbA⟩
            · obtain rfl : m = M := by omega
              have d1 : decide (2 * (m : Int) + 1 < (N : Int)) = false := decide_eq_false (by have := HP2.out; omega)
              have hoo3 := hoo.below (by rw [← hw2.out]; exact hbi)
              have hlv3 : Hid (∀ j, j ≤ l → ∃ v, vs[j]? = some v ∧ Lv wr w.heap.size s.data.toList j (2 ^ (H - j)) v) := hide (fun j hj => by
                obtain ⟨v, h1, h2⟩ := hlv.out j hj
                exact ⟨v, h1, h2.below (by rw [← hw2.out]; exact hbi)⟩)
              have hb3 := hw2b.out.trans (hbi.mono hw2b.out.size)
              obtain ⟨g9, rfl⟩ := own_zero ho9 (by omega)
              have hvl : Hid (vs.length = l + 1) := hide (by have := hoo3.len; omega)
              have hlN : Hid (Lv wr w.heap.size s.data.toList (l + 1) m (.slice (some ⟨g9, 0, none⟩) m c9)) := hide ⟨g9, c9, rfl, ho9.mono hw2b.out.size⟩
              clear hoo hlv hb2 ho9 hbi hC2 hq2 hw2b hw2 HCELL QL
              go_wp2_with (at_builtin; go_loud (refine append_lit rfl _ _ 49 rfl 48 zeroRow 1 24 Tryd.underlying49 info_drow rfl w w.heap.size _ _ _ _ rfl hoo3 1 _ rfl rfl (by simp [Value.oneCell']) (by omega) (by unfold maxLen; omega) hb3.size hb3 ?_; intro aB cB wB hoB hgB hbB; refine shold ?_))
              refine hide ?_
              obtain ⟨gB, rfl⟩ := own_zero hoB (by omega)
              have hlvB : Hid (∀ j, j ≤ l + 1 → ∃ v, (vs ++ [.slice (some ⟨g9, 0, none⟩) m c9])[j]? = some v ∧ Lv wB w.heap.size s.data.toList j (2 ^ (H - j)) v) := hide (fun j hj => by
                by_cases hjl : j ≤ l
                · obtain ⟨v, h1, h2⟩ := hlv3.out j hjl
                  exact ⟨v, by rw [List.getElem?_append_left (by have := (List.getElem?_eq_some_iff.1 h1).1; omega)]; exact h1, h2.kept hoo3 hgB⟩
                · obtain rfl : j = l + 1 := by omega
                  refine ⟨_, by rw [List.getElem?_append_right (by have := hvl.out; omega), hvl.out, Nat.sub_self]; rfl, ?_⟩
                  rw [HM.out]
                  exact hlN.out.kept hoo3 hgB)
              clear hlv3 hlN hgB hoo3 hb3
              go_wp2_with fail
              go_roundg (H - (l + 1))
              case measure => have := HG2.out; omega
              case rel => exact ⟨l + 1, gB, cB, _, by omega, rfl, rfl, by go_num, hoB, hlvB, hbB⟩
        · obtain rfl : l = H := by omega
          have d0 : decide ((l : Int) < (l : Int)) = false := decide_eq_false (by omega)
          have d0' : decide (l < l) = false := decide_eq_false (by omega)
          go_wp2_with fail
          go_ret
          refine ⟨go, co, rfl, ⟨fun j hj => ?_⟩, hb2⟩
          obtain ⟨v, h1, h2⟩ := hlv.out j hj
          obtain ⟨gl, cl, rfl, h3⟩ := h2.cells
          have h4 := hoo.sl.cell _ rfl j _ h1
          rw [Addr.add_lit, Nat.zero_add] at h4
          exact ⟨gl, cl, h4, h3⟩
end Go.Proofs.YtblgmjnkllkhbaaDoor
end

/- the text S24 -/
section
/- Chapter 03: the reference's fits, Public. -/
set_option linter.unusedVariables false
namespace Go.Proofs.YtblgmjnkllkhbaaDoor
open Go.RowKit Go.Dx
set_option maxRecDepth 100000 in
theorem ref_fits (s : ByteArray) (h : Int) {v : Bool} (hv : (decide (s.size = 32) && (decide (0 ≤ h) && decide (h ≤ 6))) = v) (w : World) :
    Calls Tryd.prog 23 #[.string s, .int .i64 h] w fun e w' => e = .returned (.bool v) ∧ w' = w := by
  subst hv
  go_enter Tryd.func23, Tryd.ntmps23
  by_cases h32 : s.size = 32
  · have d1 : ((s.size : Int) == 32) = true := by simp; omega
    have d2 : decide (s.size = 32) = true := decide_eq_true h32
    have hs' : (s.size : Int) = 32 := by omega
    by_cases h0 : 0 ≤ h
    · have e0 : decide (0 ≤ h) = true := decide_eq_true h0
      cases e6 : decide (h ≤ 6)
      · go_wp2
        go_ret
        simp [h32, e0, e6]
      · go_wp2
        go_ret
        simp [h32, e0, e6]
    · have e0 : decide (0 ≤ h) = false := decide_eq_false h0
      go_wp2
      go_ret
      simp [e0]
  · have d1 : ((s.size : Int) == 32) = false := by simp; omega
    have d2 : decide (s.size = 32) = false := decide_eq_false h32
    have d3 : ¬ (s.size : Int) = 32 := by omega
    go_wp2
    go_ret
    simp [d2]
set_option maxRecDepth 100000 in
set_option maxHeartbeats 2000000 in
theorem ref_Public (s : ByteArray) (h : Int) (h32 : s.size = 32) (h0 : 0 ≤ h) (h6 : h ≤ 6) {D : List UInt8} (hD : treeL s.data.toList h.toNat 0 = D) (w : World) (hL : LaidR w) :
    Calls Tryd.prog 13 #[.string s, .int .i64 h] w fun e w' => e = .returned (.tuple #[.agg (D.map B8).toArray, .int .i64 0]) ∧ Below w.heap.size w w' := by
  obtain ⟨Z, hZ⟩ : ∃ Z, Hid (zero16 = Z) := ⟨_, rfl⟩
  have h16 := zero_16
  rw [hZ.out] at h16
  have hZl : Hid (Z.length = 16) := hide (by rw [← hZ.out]; rfl)
  have hL := hide hL
  have hDl : D.length = 16 := by rw [← hD]; exact treeL_len _ _ _
  have HDl := hide hDl
  have HD := hide hD
  have hzD : Hid ((Tryd.prog.info? 23).map (·.size) = some (D.map B8).length) := hide (by rw [List.length_map, hDl]; exact size_dig')
  clear hDl hD
  have hfit := hide (ref_fits s h (v := true) (by rw [decide_eq_true h32, decide_eq_true h0, decide_eq_true h6]; rfl))
  obtain ⟨H, rfl⟩ : ∃ H : Nat, h = (H : Int) := ⟨h.toNat, by omega⟩
  rw [Int.toNat_natCast] at HD
  have hH : H ≤ 6 := by omega
  have HS := hide h32
  clear h32
  go_enter Tryd.func13, Tryd.ntmps13
  go_wp2_with fail
  obtain ⟨w1, G1, hw1, e1, x1, b1, l1⟩ := allocs1 w (Z.map B8) 23
  rw [← hw1, ← e1]
  have l0 : w.heap.size ≤ G1 := Nat.le_of_eq e1.symm
  clear hw1 e1
  refine (hfit.out _).mono ?_
  rintro e w1' ⟨rfl, rfl⟩
  go_wp2_with fail
  refine (ref_levels s (by have := HS.out; omega) H hH _ (hL.out.below b1)).mono ?_
  rintro e w2 ⟨g, c, rfl, hT, h2⟩
  have x1 := x1.under h2
  have b2 := b1.trans (h2.mono b1.size)
  clear h2 b1
  obtain ⟨gl, cl, q1, q2⟩ := hT.row H (Nat.le_refl _)
  rw [Nat.sub_self, Nat.pow_zero] at q1 q2
  have q2 := q2 0 (by decide)
  rw [show treeL s.data.toList H ((0 : Nat) : Int) = D from HD.out, Nat.zero_mul] at q2
  have Q2 := hide q2
  clear q2 hT
  go_wp2_with (first
    | (with_reducible refine load_dig 20 _ ⟨gl, 0, none⟩ rfl (D.map B8) (by rw [List.length_map, HDl.out]) Q2.out ?_)
    | (with_reducible refine hold_store ?_))
  refine hide ?_
  refine store_all 23 _ _ 23 G1 (Z.map B8) (D.map B8) (.agg (D.map B8).toArray) hzD.out x1 (by rfl) (by rfl) rfl (by rw [List.length_map, HDl.out, List.length_map, hZl.out]) (one_map _ (fun _ => rfl) _) ?_
  intro w4 x9 hgr hsz'
  have b4 := b2.grown hgr b2.size (fun k hk => by cases hk; omega)
  go_wp2_with fail
  exact bodyPost_ret (run_res_cell2 rfl rfl rfl isAgg_dig hzD.out x9) rfl ⟨rfl, b4⟩
set_option maxRecDepth 100000 in
set_option maxHeartbeats 2000000 in
theorem ref_Public_bad (s : ByteArray) (h : Int) (hb : ¬ (s.size = 32 ∧ 0 ≤ h ∧ h ≤ 6)) (w : World) :
    Calls Tryd.prog 13 #[.string s, .int .i64 h] w fun e w' => e = .returned (.tuple #[.agg (zero16.map B8).toArray, .int .i64 1]) ∧ Below w.heap.size w w' := by
  obtain ⟨Z, hZ⟩ : ∃ Z, Hid (zero16 = Z) := ⟨_, rfl⟩
  have h16 := zero_16
  rw [hZ.out] at h16 ⊢
  have hZl : Hid (Z.length = 16) := hide (by rw [← hZ.out]; rfl)
  have hzZ : Hid ((Tryd.prog.info? 23).map (·.size) = some (Z.map B8).length) := hide (by rw [List.length_map, hZl.out]; exact size_dig')
  have hbz : ∀ W : World, (Instr.build 23 #[]).run Tryd.prog W = .ok (.agg (Z.map B8).toArray) W := by rw [← hZ.out]; exact build_z16
  have x1 := Box.new w 23 (Z.map B8).toArray
  have b1 := sblo w (.cells (Z.map B8).toArray 23)
  have hfit := hide (ref_fits s h (v := false) (by
    cases h1 : (decide (s.size = 32) && (decide (0 ≤ h) && decide (h ≤ 6)))
    · rfl
    · simp only [Bool.and_eq_true, decide_eq_true_eq] at h1
      exact absurd ⟨h1.1, h1.2.1, h1.2.2⟩ hb))
  clear hb
  go_enter Tryd.func13, Tryd.ntmps13
  go_wp2_with fail
  refine (hfit.out _).mono ?_
  rintro e w1' ⟨rfl, rfl⟩
  go_wp2_with (with_reducible refine hold_store ?_)
  refine hide ?_
  refine store_all 23 _ _ 23 w.heap.size (Z.map B8) (Z.map B8) (.agg (Z.map B8).toArray) hzZ.out x1 (by rfl) (by rfl) rfl rfl (one_map _ (fun _ => rfl) _) ?_
  intro w4 x9 hgr hsz'
  have b4 := b1.grown hgr b1.size (fun k hk => by cases hk; exact Nat.le_refl _)
  go_wp2_with fail
  exact bodyPost_ret (run_res_cell2 rfl rfl rfl isAgg_dig hzZ.out x9) rfl ⟨rfl, b4⟩
end Go.Proofs.YtblgmjnkllkhbaaDoor
end

/- the text S25 -/
section
/- Chapter 03: the reference's Sign. -/
set_option linter.unusedVariables false
namespace Go.Proofs.YtblgmjnkllkhbaaDoor
open Go.RowKit Go.Dx
theorem ref_advance_to (i k f t : Int) (n : Nat) (ht : f + n = t) (hi : 0 ≤ i ∧ i ≤ 9223372036854775807) (hk : 0 ≤ k ∧ k ≤ 1000) (hf : 0 ≤ f) (hn : f + n ≤ 1000) (v0 : List UInt8) (hv0 : v0.length = 16) {D : List UInt8} (hD : advL i k f n v0 = D) (w : World) (hL : LaidR w) :
    Calls Tryd.prog 32 #[.int .i64 i, .int .i64 k, .int .i64 f, .int .i64 t, .agg (v0.map B8).toArray] w fun e w' => e = .returned (.agg (D.map B8).toArray) ∧ Below w.heap.size w w' := by
  subst ht
  exact ref_advance i k f hi hk n hf hn v0 hv0 hD w hL
theorem sib_nat {i : Int} {l q : Nat} (hq : i / 2 ^ l = (q : Int)) : (q % 2 = 0 → sib i l = ((q + 1 : Nat) : Int)) ∧ (q % 2 = 1 → sib i l = ((q - 1 : Nat) : Int)) := by
  unfold sib
  rw [hq]
  constructor
  · intro h; rw [if_pos (by omega)]; omega
  · intro h; rw [if_neg (by omega)]; omega
theorem half_pow (i : Int) (l : Nat) : i / 2 ^ (l + 1) = i / 2 ^ l / 2 := by rw [Int.pow_succ, Int.ediv_ediv_of_nonneg (Int.le_of_lt (Int.pow_pos (by decide)))]
theorem ediv_lt {i : Int} {H l : Nat} (h0 : 0 ≤ i) (hi : i < 2 ^ H) (hl : l ≤ H) : ∃ q : Nat, i / 2 ^ l = (q : Int) ∧ q < 2 ^ (H - l) := by
  obtain ⟨n, rfl⟩ := Int.eq_ofNat_of_zero_le h0
  have hn : n < 2 ^ H := by exact_mod_cast hi
  refine ⟨n / 2 ^ l, by norm_cast, ?_⟩
  rw [Nat.div_lt_iff_lt_mul (Nat.pow_pos (by decide)), ← Nat.pow_add, show H - l + l = H by omega]
  exact hn
set_option maxRecDepth 100000 in
set_option maxHeartbeats 4000000 in
theorem ref_Sign (s : ByteArray) (h i : Int) (m : ByteArray) (h32 : s.size = 32) (h0 : 0 ≤ h) (h6 : h ≤ 6) (hi0 : 0 ≤ i) (hi1 : i < 2 ^ h.toNat) (hm : m.size ≤ 10000) {R : List UInt8} (hR : signL s.data.toList h.toNat i m = R) (w : World) (hL : LaidR w) :
    Calls Tryd.prog 15 #[.string s, .int .i64 h, .int .i64 i, .string m] w fun e w' => e = .returned (.tuple #[.string ⟨R.toArray⟩, .int .i64 0]) ∧ Below w.heap.size w w' := by
  obtain ⟨H, rfl⟩ : ∃ H : Nat, h = (H : Int) := ⟨h.toNat, by omega⟩
  rw [Int.toNat_natCast] at hi1 hR
  have hH : H ≤ 6 := by omega
  have hp2 : (2 : Int) ^ H ≤ 64 := by rcases (by omega : H = 0 ∨ H = 1 ∨ H = 2 ∨ H = 3 ∨ H = 4 ∨ H = 5 ∨ H = 6) with rfl | rfl | rfl | rfl | rfl | rfl | rfl <;> decide
  have hi64 : 0 ≤ i ∧ i ≤ 9223372036854775807 := by omega
  have hi63 : i < 64 := by omega
  have hw2 : wrap64 ((2 : Int) ^ H) = 2 ^ H := by
    have hp1 : (0 : Int) < 2 ^ H := Int.pow_pos (by decide)
    generalize (2 : Int) ^ H = q at *
    unfold wrap64
    omega
  have d3 : decide (wrap64 ((2 : Int) ^ H) ≤ i) = false := by rw [hw2]; exact decide_eq_false (by omega)
  have d4 : ¬ (2 : Int) ^ H ≤ i := by omega
  have d5 : decide ((2 : Int) ^ H ≤ i) = false := decide_eq_false d4
  have hm' : (m.size : Int) ≤ 1048576 := by omega
  have d1 : decide (i < 0) = false := decide_eq_false (by omega)
  have d2 : decide ((1048576 : Int) < m.size) = false := decide_eq_false (by omega)
  have hL := hide hL
  have hfit := hide (ref_fits s (H : Int) (v := true) (by rw [decide_eq_true h32, decide_eq_true h0, decide_eq_true h6]; rfl))
  have HS := hide h32
  have HI1 := hide hi1
  have HR := hide hR
  clear hp2 hw2 h0 h6 h32 hi1 hR
  obtain ⟨T, HT⟩ : ∃ T, Hid (treeL s.data.toList H 0 = T) := ⟨_, rfl⟩
  have hTl : Hid (T.length = 16) := hide (by rw [← HT.out]; exact treeL_len _ _ _)
  obtain ⟨D, HD⟩ : ∃ D, Hid (msgD T i m = D) := ⟨_, rfl⟩
  have hDl : Hid (D.length = 16) := hide (by rw [← HD.out]; exact List.length_take.trans (by rw [sha_len]; rfl))
  obtain ⟨E, HE⟩ : ∃ E, Hid (encInt i = E) := ⟨_, rfl⟩
  have hEl : Hid (E.length ≤ 9) := hide (by rw [← HE.out]; exact encInt_le i)
  obtain ⟨f, Hf⟩ : ∃ f : Nat → List UInt8, Hid (∀ c : Nat, f c = advL i c 0 (dgs D c) (startL s.data.toList i c)) := ⟨_, fun _ => rfl⟩
  have Hfl : Hid (∀ c, (f c).length = 16) := hide (fun c => by rw [Hf.out]; exact advL_len _ _ _ _ (startL_len _ _ _))
  obtain ⟨pf, Hpf⟩ : ∃ f : Nat → List UInt8, Hid (∀ l : Nat, f l = treeL s.data.toList l (sib i l)) := ⟨_, fun _ => rfl⟩
  have Hpl : Hid (∀ l, (pf l).length = 16) := hide (fun l => by rw [Hpf.out]; exact treeL_len _ _ _)
  have HRR : Hid (E ++ catL f 68 ++ catL pf H = R) := hide (by
    rw [← HR.out, signL, HE.out, HT.out, HD.out]
    unfold chainsL pathL
    rw [show f = (fun c : Nat => advL i c 0 (dgs D c) (startL s.data.toList i c)) from funext Hf.out, show pf = (fun l : Nat => treeL s.data.toList l (sib i l)) from funext Hpf.out])
  go_enter Tryd.func15, Tryd.ntmps15
  go_wp2_with fail
  refine (hfit.out _).mono ?_
  rintro e w1' ⟨rfl, rfl⟩
  go_wp2_with fail
  refine (ref_levels s (by have := HS.out; omega) H hH _ hL.out).mono ?_
  rintro e w2 ⟨g, cg, rfl, hT, h2⟩
  obtain ⟨gl, cl, q1, q2⟩ := hT.row H (Nat.le_refl _)
  rw [Nat.sub_self, Nat.pow_zero] at q1 q2
  have q2 := q2 0 (by decide)
  rw [show treeL s.data.toList H ((0 : Nat) : Int) = T from HT.out, Nat.zero_mul] at q2
  have Q2 := hide q2
  have HTr := hide hT
  clear q2 hT
  go_wp2_with (with_reducible refine load_dig 42 _ ⟨gl, 0, none⟩ rfl (T.map B8) (by rw [List.length_map, hTl.out]) Q2.out ?_)
  refine (ref_Digest T hTl.out i (by omega) (by omega) m hm HD.out _ (hL.out.below h2)).mono ?_
  rintro e w3 ⟨rfl, h3⟩
  have HT3 := hide (HTr.out.below h3)
  have b3 := h2.trans (h3.mono h2.size)
  clear h3 h2 q1 Q2 HTr
  go_wp2_with fail
  refine (ref_Digits D hDl.out _).mono ?_
  rintro e w4 ⟨a4, cd, rfl, oD, h4⟩
  have HT4 := hide (HT3.out.below h4)
  have b4 := b3.trans (h4.mono b3.size)
  clear h4 b3 HT3
  obtain ⟨bd, rfl⟩ := own_zero oD (by decide)
  obtain ⟨la, hla⟩ : ∃ l, Hid (((List.range 68).map fun j => (dgs D j : Int)) = l) := ⟨_, rfl⟩
  have ga : Hid (∀ j : Nat, j < 68 → la[j]? = some (dgs D j : Int)) := hide (fun j hj => by rw [← hla.out, List.getElem?_map, List.getElem?_range hj]; rfl)
  rw [hla.out] at oD
  have HOD : Hid (∀ j : Nat, j < 68 → w4.cell? ⟨bd, j, none⟩ = some (I64 (dgs D j : Int))) := hide (fun j hj => by
    have := oD.sl.cell _ rfl j _ (by rw [List.getElem?_map, ga.out j hj]; rfl)
    rwa [Addr.add_lit, Nat.zero_add] at this)
  clear oD
  go_wp2_with fail
  refine (rInt_at HE.out (by omega) (by omega)).mono ?_
  rintro e w5 ⟨a5, c5, rfl, o5, h5⟩
  have HT5 := hide (HT4.out.below h5)
  have HOD5 : Hid (∀ j : Nat, j < 68 → w5.cell? ⟨bd, j, none⟩ = some (I64 (dgs D j : Int))) := hide (fun j hj => cell_blw (HOD.out j hj) h5)
  have b5 := b4.trans (h5.mono b4.size)
  clear h5 b4 HT4 HOD
  go_wp2_with (with_reducible refine to_str 49 _ _ _ _ E rfl o5.sl ?_)
  go_loopg [13, 14] 68 (fun gh o v w' => ∃ c : Nat, c ≤ 68 ∧ gh = 68 - c ∧ o = .string (byB (E ++ catL f c)) ∧ v = .int .i64 (c : Int) ∧ Below w5.heap.size w5 w')
  case atStart => exact ⟨0, by omega, by omega, by rw [catL, List.append_nil]; rfl, rfl, Below.refl _ _⟩
  case round =>
    obtain ⟨c, hc, hg, rfl, rfl, hb⟩ := hrel
    have HG := hide hg
    clear hg
    by_cases hlt : c < 68
    · obtain ⟨X, HX⟩ : ∃ X, Hid (E ++ catL f c = X) := ⟨_, rfl⟩
      obtain ⟨V, HVf⟩ : ∃ V, Hid (f c = V) := ⟨_, rfl⟩
      obtain ⟨X2, HX2⟩ : ∃ X, Hid (E ++ catL f (c + 1) = X) := ⟨_, rfl⟩
      obtain ⟨S0, HS0⟩ : ∃ S, Hid (startL s.data.toList i c = S) := ⟨_, rfl⟩
      obtain ⟨t, Ht⟩ : ∃ t, Hid (dgs D c = t) := ⟨_, rfl⟩
      have ht3 : t ≤ 3 := by rw [← Ht.out]; exact dgs_le D c
      have hS0l : Hid (S0.length = 16) := hide (by rw [← HS0.out]; exact startL_len _ _ _)
      have hVl : Hid (V.length = 16) := hide (by rw [← HVf.out]; exact Hfl.out _)
      have HV : Hid (advL i c 0 t S0 = V) := hide (by rw [← HVf.out, Hf.out, HS0.out, Ht.out])
      have hXl : Hid (X.length ≤ 2000) := hide (by rw [← HX.out, List.length_append, catL_len Hfl.out]; have := hEl.out; omega)
      have HCAT : Hid (byB X ++ byB V = byB X2) := hide (by rw [byB_append, ← HX2.out, catL, ← List.append_assoc, HX.out, HVf.out])
      have HCS : Hid ((byB X).size + (byB V).size ≤ 9223372036854775807) := hide (by rw [byB_size, byB_size, hVl.out]; have := hXl.out; omega)
      have Q2 : Hid (wr.cell? ⟨bd, c, none⟩ = some (.int .i64 (t : Int))) := hide (by have := cell_blw (HOD5.out c hlt) hb; rw [Ht.out] at this; exact this)
      have hLr : Hid (LaidR wr) := hide (hL.out.below (b5.trans (hb.mono b5.size)))
      have d0 : decide ((c : Int) < 68) = true := decide_eq_true (by omega)
      rw [HX.out]
      go_wp2_with fail
      refine wp_region_free 14 [⟨0, 54, [54], fun vs _ => vs = [.string (byB X)]⟩, ⟨1, 55, [55], fun vs _ => vs = [.int .i64 i]⟩, ⟨2, 56, [56], fun vs _ => vs = [.int .i64 (c : Int)]⟩, ⟨3, 57, [57], fun vs _ => vs = [.slice (some ⟨bd, 0, none⟩) 68 cd]⟩, ⟨4, 58, [58], fun vs _ => vs = [.int .i64 (c : Int)]⟩, ⟨5, 59, [59], fun vs _ => vs = [.pointer (some ⟨bd, c, none⟩)]⟩, ⟨6, 60, [60], fun vs _ => vs = [.int .i64 (t : Int)]⟩, ⟨7, 61, [61], fun vs _ => vs = [.string s]⟩, ⟨8, 62, [62], fun vs _ => vs = [.int .i64 i]⟩, ⟨9, 63, [63], fun vs _ => vs = [.int .i64 (c : Int)]⟩, ⟨10, 64, [64], fun vs _ => vs = [.agg (S0.map B8).toArray]⟩, ⟨11, 65, [65], fun vs _ => vs = [.agg (V.map B8).toArray]⟩, ⟨12, 66, [66], fun vs _ => vs = [.string (byB V)]⟩, ⟨13, 67, [67], fun vs _ => vs = [.string (byB X2)]⟩] (by kernel_rfl) (by kernel_rfl) ?_ ?_ ?_
      · simp only [All]
        refine ⟨fun _ _ _ _ h => h, fun _ _ _ _ h => h, fun _ _ _ _ h => h, fun _ _ _ _ h => h, fun _ _ _ _ h => h, fun _ _ _ _ h => h, fun _ _ _ _ h => h, fun _ _ _ _ h => h, fun _ _ _ _ h => h, fun _ _ _ _ h => h, fun _ _ _ _ h => h, fun _ _ _ _ h => h, fun _ _ _ _ h => h, fun _ _ _ _ h => h, trivial⟩
      · simp only [All]
        refine ⟨?_, ?_, ?_, ?_, ?_, ?_, ?_, ?_, ?_, ?_, ?_, ?_, ?_, ?_, trivial⟩
        · intro o ho a' w' hb hfr hdep
          obtain rfl := Option.some.inj ho
          have g13 : a'.tmps[13]?.getD undef = .string (byB X) := by have h := hfr 13 (by kernel_rfl); simpa using h
          clear ho hfr hdep
          go_wp2_with fail
          exact ⟨rfl, _, rfl, Below.refl _ _, rfl⟩
        · intro o ho a' w' hb hfr hdep
          obtain rfl := Option.some.inj ho
          have g2 : a'.tmps[2]?.getD undef = .int .i64 i := by have h := hfr 2 (by kernel_rfl); simpa using h
          clear ho hfr hdep
          go_wp2_with fail
          exact ⟨rfl, _, rfl, Below.refl _ _, rfl⟩
        · intro o ho a' w' hb hfr hdep
          obtain rfl := Option.some.inj ho
          have g14 : a'.tmps[14]?.getD undef = .int .i64 (c : Int) := by have h := hfr 14 (by kernel_rfl); simpa using h
          clear ho hfr hdep
          go_wp2_with fail
          exact ⟨rfl, _, rfl, Below.refl _ _, rfl⟩
        · intro o ho a' w' hb hfr hdep
          obtain rfl := Option.some.inj ho
          have g12 : a'.tmps[12]?.getD undef = .slice (some ⟨bd, 0, none⟩) 68 cd := by have h := hfr 12 (by kernel_rfl); simpa using h
          clear ho hfr hdep
          go_wp2_with fail
          exact ⟨rfl, _, rfl, Below.refl _ _, rfl⟩
        · intro o ho a' w' hb hfr hdep
          obtain rfl := Option.some.inj ho
          have g14 : a'.tmps[14]?.getD undef = .int .i64 (c : Int) := by have h := hfr 14 (by kernel_rfl); simpa using h
          clear ho hfr hdep
          go_wp2_with fail
          exact ⟨rfl, _, rfl, Below.refl _ _, rfl⟩
        · intro o ho a' w' hb hfr hdep
          obtain rfl := Option.some.inj ho
          have g57 : a'.tmps[57]?.getD undef = .slice (some ⟨bd, 0, none⟩) 68 cd := by have h := hdep 3 _ rfl (by kernel_rfl); simpa using h
          have g58 : a'.tmps[58]?.getD undef = .int .i64 (c : Int) := by have h := hdep 4 _ rfl (by kernel_rfl); simpa using h
          clear ho hfr hdep
          go_wp2_with fail
          exact ⟨rfl, _, rfl, Below.refl _ _, rfl⟩
        · intro o ho a' w' hb hfr hdep
          obtain rfl := Option.some.inj ho
          have g59 : a'.tmps[59]?.getD undef = .pointer (some ⟨bd, c, none⟩) := by have h := hdep 5 _ rfl (by kernel_rfl); simpa using h
          clear ho hfr hdep
          have hcl := cell_blw Q2.out hb
          go_wp2_with fail
          exact ⟨rfl, _, rfl, Below.refl _ _, rfl⟩
        · intro o ho a' w' hb hfr hdep
          obtain rfl := Option.some.inj ho
          have g0 : a'.tmps[0]?.getD undef = .string s := by have h := hfr 0 (by kernel_rfl); simpa using h
          clear ho hfr hdep
          go_wp2_with fail
          exact ⟨rfl, _, rfl, Below.refl _ _, rfl⟩
        · intro o ho a' w' hb hfr hdep
          obtain rfl := Option.some.inj ho
          have g2 : a'.tmps[2]?.getD undef = .int .i64 i := by have h := hfr 2 (by kernel_rfl); simpa using h
          clear ho hfr hdep
          go_wp2_with fail
          exact ⟨rfl, _, rfl, Below.refl _ _, rfl⟩
        · intro o ho a' w' hb hfr hdep
          obtain rfl := Option.some.inj ho
          have g14 : a'.tmps[14]?.getD undef = .int .i64 (c : Int) := by have h := hfr 14 (by kernel_rfl); simpa using h
          clear ho hfr hdep
          go_wp2_with fail
          exact ⟨rfl, _, rfl, Below.refl _ _, rfl⟩
        · intro o ho a' w' hb hfr hdep
          obtain rfl := Option.some.inj ho
          have g61 : a'.tmps[61]?.getD undef = .string s := by have h := hdep 7 _ rfl (by kernel_rfl); simpa using h
          have g62 : a'.tmps[62]?.getD undef = .int .i64 i := by have h := hdep 8 _ rfl (by kernel_rfl); simpa using h
          have g63 : a'.tmps[63]?.getD undef = .int .i64 (c : Int) := by have h := hdep 9 _ rfl (by kernel_rfl); simpa using h
          clear ho hfr hdep
          go_wp2_with fail
          refine (ref_start s (by have := HS.out; omega) i (c : Int) hi64 ⟨by omega, by omega⟩ HS0.out _ (hLr.out.below hb)).mono ?_
          rintro e w2 ⟨rfl, h2⟩
          go_wp2_with fail
          exact ⟨rfl, _, rfl, h2, rfl⟩
        · intro o ho a' w' hb hfr hdep
          obtain rfl := Option.some.inj ho
          have g55 : a'.tmps[55]?.getD undef = .int .i64 i := by have h := hdep 1 _ rfl (by kernel_rfl); simpa using h
          have g56 : a'.tmps[56]?.getD undef = .int .i64 (c : Int) := by have h := hdep 2 _ rfl (by kernel_rfl); simpa using h
          have g60 : a'.tmps[60]?.getD undef = .int .i64 (t : Int) := by have h := hdep 6 _ rfl (by kernel_rfl); simpa using h
          have g64 : a'.tmps[64]?.getD undef = .agg (S0.map B8).toArray := by have h := hdep 10 _ rfl (by kernel_rfl); simpa using h
          clear ho hfr hdep
          go_wp2_with fail
          refine (ref_advance_to i (c : Int) 0 (t : Int) t (by omega) hi64 ⟨by omega, by omega⟩ (by omega) (by omega) S0 hS0l.out HV.out _ (hLr.out.below hb)).mono ?_
          rintro e w2 ⟨rfl, h2⟩
          go_wp2_with fail
          exact ⟨rfl, _, rfl, h2, rfl⟩
        · intro o ho a' w' hb hfr hdep
          obtain rfl := Option.some.inj ho
          have g65 : a'.tmps[65]?.getD undef = .agg (V.map B8).toArray := by have h := hdep 11 _ rfl (by kernel_rfl); simpa using h
          clear ho hfr hdep
          go_wp2_with fail
          refine (text_any V hVl.out _).mono ?_
          rintro e w2 ⟨rfl, h2⟩
          go_wp2_with fail
          exact ⟨rfl, _, rfl, h2, rfl⟩
        · intro o ho a' w' hb hfr hdep
          obtain rfl := Option.some.inj ho
          have g54 : a'.tmps[54]?.getD undef = .string (byB X) := by have h := hdep 0 _ rfl (by kernel_rfl); simpa using h
          have g66 : a'.tmps[66]?.getD undef = .string (byB V) := by have h := hdep 12 _ rfl (by kernel_rfl); simpa using h
          clear ho hfr hdep
          refine str_add 67 _ _ _ _ (byB X) (byB V) (byB X2) (by simpa [Act.eval] using g54) (by simpa [Act.eval] using g66) HCS.out HCAT.out ?_
          exact ⟨rfl, _, rfl, Below.refl _ _, rfl⟩
      · intro g w9 hb9 hp
        have p67 := hp 13 _ rfl
        clear hp
        simp at p67
        simp only [List.drop_succ_cons, List.drop_zero, List.map_cons, List.map_nil, putAll, Act.put, List.setIfInBounds_toArray, List.set_cons_succ, List.set_cons_zero, List.cons_append, List.nil_append, p67]
        go_wp2_with fail
        go_roundg (68 - (c + 1))
        case measure => have := HG.out; omega
        case rel => exact ⟨c + 1, by omega, rfl, by rw [← HX2.out], by go_num, hb.trans (hb9.mono hb.size)⟩
    · obtain rfl : c = 68 := by omega
      have d0 : decide ((68 : Int) < 68) = false := by decide
      have b6 := b5.trans (hb.mono b5.size)
      have HT6 := hide (HT5.out.below hb)
      obtain ⟨Y, HY⟩ : ∃ Y, Hid (E ++ catL f 68 = Y) := ⟨_, rfl⟩
      have hYl : Hid (Y.length ≤ 2000) := hide (by rw [← HY.out, List.length_append, catL_len Hfl.out]; have := hEl.out; omega)
      rw [HY.out]
      clear hb HT5 HOD5 b5
      go_wp2_with fail
      go_loopg [13, 15, 16] H (fun gh o q v w' => ∃ l : Nat, l ≤ H ∧ gh = H - l ∧ o = .string (byB (Y ++ catL pf l)) ∧ q = .int .i64 (i / 2 ^ l) ∧ v = .int .i64 (l : Int) ∧ Below wr.heap.size wr w')
      case atStart => exact ⟨0, by omega, by omega, by rw [catL, List.append_nil], by rw [Int.pow_zero, Int.ediv_one], rfl, Below.refl _ _⟩
      case round =>
        rename_i wr0 _ _ _ _ _ _ _ _
        obtain ⟨l, hl, hg, rfl, rfl, rfl, hb⟩ := hrel
        have HG2 := hide hg
        clear hg
        by_cases hlt2 : l < H
        · obtain ⟨q, hq, hq1⟩ := ediv_lt hi0 HI1.out (Nat.le_of_lt hlt2)
          have hp2 := two_pow hlt2
          have hpm := pow_64 (n := H - l) (by omega)
          obtain ⟨N, HN⟩ : ∃ N : Nat, Hid (2 ^ (H - l) = N) := ⟨_, rfl⟩
          have HQ := hide hq
          rw [hq]
          obtain ⟨gl2, cl2, r1, r2⟩ := HT6.out.row l (Nat.le_of_lt hlt2)
          rw [HN.out] at r1 r2 hq1 hpm
          have ql := cell_blw r1 hb
          have HR2 := hide r2
          have hN2 : Hid (N % 2 = 0) := hide (by rw [← HN.out, hp2]; omega)
          have hq64 : q < 64 := by omega
          have hN64 : N ≤ 64 := hpm.1
          have d0 : decide ((l : Int) < (H : Int)) = true := decide_eq_true (by omega)
          have d0' : decide (l < H) = true := decide_eq_true hlt2
          obtain ⟨X, HX⟩ : ∃ X, Hid (Y ++ catL pf l = X) := ⟨_, rfl⟩
          obtain ⟨V, HVf⟩ : ∃ V, Hid (pf l = V) := ⟨_, rfl⟩
          obtain ⟨X2, HX2⟩ : ∃ X, Hid (Y ++ catL pf (l + 1) = X) := ⟨_, rfl⟩
          have hVl : Hid (V.length = 16) := hide (by rw [← HVf.out]; exact Hpl.out _)
          have hXl : Hid (X.length ≤ 3000) := hide (by rw [← HX.out, List.length_append, catL_len Hpl.out]; have := hYl.out; omega)
          have HCAT : Hid (byB X ++ byB V = byB X2) := hide (by rw [byB_append, ← HX2.out, catL, ← List.append_assoc, HX.out, HVf.out])
          have HCS : Hid ((byB X).size + (byB V).size ≤ 9223372036854775807) := hide (by rw [byB_size, byB_size, hVl.out]; have := hXl.out; omega)
          have HNX : Hid (i / 2 ^ (l + 1) = (q : Int) / 2) := hide (by rw [half_pow, HQ.out])
          rw [HX.out]
          clear hp2 hpm hq r1 r2
          have hsb := sib_nat HQ.out
          by_cases hbit : q % 2 = 1
          · have hsb := hsb.2 hbit
            obtain ⟨x, hx⟩ : ∃ x : Nat, Hid (q - 1 = x) := ⟨_, rfl⟩
            have hxN : x < N := by rw [← hx.out]; omega
            have HVx : Hid (treeL s.data.toList l (x : Int) = V) := hide (by rw [← HVf.out, Hpf.out, hsb, hx.out])
            have HCX : Hid (∀ j u, (V.map B8)[j]? = some u → wr.cell? ((⟨gl2, x * 16, none⟩ : Addr).add j) = some u) := hide (fun j u hu => cell_blw (HR2.out x hxN j u (by rw [HVx.out]; exact hu)) hb)
            have e1 : (q : Int) - 1 = (x : Int) := by rw [← hx.out]; omega
            have e2 : ((q : Int) % 2 == 1) = true := by simp; omega
            have e3 : (q : Int) % 2 = 1 := by omega
            clear hsb hbit hx
            go_wp2_with (first
              | (with_reducible refine index_own 87 48 _ _ 16 23 Tryd.underlying48 size_dig' gl2 N cl2 x _ rfl rfl rfl hxN ?_)
              | (with_reducible refine load_dig 88 _ ⟨gl2, x * 16, none⟩ rfl (V.map B8) (by rw [List.length_map, hVl.out]) HCX.out ?_)
              | (go_at_call 31; refine (text_any V hVl.out _).mono ?_; rintro e wT ⟨rfl, hT⟩)
              | (with_reducible refine str_add 90 _ _ _ _ (byB X) (byB V) (byB X2) rfl rfl HCS.out HCAT.out ?_))
            go_roundg (H - (l + 1))
            case measure => have := HG2.out; omega
            case rel => exact ⟨l + 1, by omega, rfl, by rw [← HX2.out], by rw [HNX.out], by go_num, hb.trans (hT.mono hb.size)⟩
          · have hsb := hsb.1 (by omega)
            have hxN : q + 1 < N := by have := hN2.out; omega
            have HVx : Hid (treeL s.data.toList l ((q + 1 : Nat) : Int) = V) := hide (by rw [← HVf.out, Hpf.out, hsb])
            have HCX : Hid (∀ j u, (V.map B8)[j]? = some u → wr.cell? ((⟨gl2, (q + 1) * 16, none⟩ : Addr).add j) = some u) := hide (fun j u hu => cell_blw (HR2.out (q + 1) hxN j u (by rw [HVx.out]; exact hu)) hb)
            have e2 : ((q : Int) % 2 == 1) = false := by simp; omega
            have e3 : (q : Int) % 2 = 0 := by omega
            clear hsb hbit
            go_wp2_with (first
              | (with_reducible refine index_own 87 48 _ _ 16 23 Tryd.underlying48 size_dig' gl2 N cl2 (q + 1) _ rfl rfl (by omega) hxN ?_)
              | (with_reducible refine load_dig 88 _ ⟨gl2, (q + 1) * 16, none⟩ rfl (V.map B8) (by rw [List.length_map, hVl.out]) HCX.out ?_)
              | (go_at_call 31; refine (text_any V hVl.out _).mono ?_; rintro e wT ⟨rfl, hT⟩)
              | (with_reducible refine str_add 90 _ _ _ _ (byB X) (byB V) (byB X2) rfl rfl HCS.out HCAT.out ?_))
            go_roundg (H - (l + 1))
            case measure => have := HG2.out; omega
            case rel => exact ⟨l + 1, by omega, rfl, by rw [← HX2.out], by rw [HNX.out], by go_num, hb.trans (hT.mono hb.size)⟩
        · obtain rfl : l = H := by omega
          have d0 : decide ((l : Int) < (l : Int)) = false := decide_eq_false (by omega)
          have d0' : decide (l < l) = false := decide_eq_false (by omega)
          have hfin : Hid (Y ++ catL pf l = R) := hide (by rw [← HRR.out, HY.out])
          rw [hfin.out]
          go_wp2_with fail
          go_ret2
          exact ⟨rfl, b6.trans (hb.mono b6.size)⟩
end Go.Proofs.YtblgmjnkllkhbaaDoor
end

/- the text S26 -/
section
/- Chapter 03: the reference's Verify. -/
set_option linter.unusedVariables false
namespace Go.Proofs.YtblgmjnkllkhbaaDoor
open Go.RowKit Go.Dx
theorem valL_eq (L : List UInt8) (c : Nat) : (L.drop (16 * c)).take 16 = valL L c := by unfold valL; rw [Nat.mul_comm]
theorem str_lo_z {P : Program} {w : World} {ops : Array Oper} {rest : List Oper} {act : Act} {Q : Exit → Act → World → Prop} {ty : TypeId} {pos : String} {after : Array Edge} (d : Nat) (t : TypeId) (ht : P.underlying t = some .string) (x lo : Operand) (s r : ByteArray) (k : IntKind) (n : Nat) (z : Int) (hz : z = (n : Int)) (hx : act.eval x = .string s) (hh : act.eval lo = .int k z) (hn : n ≤ s.size) (hr : s.extract n s.size = r)
    (hK : wpList P ops Q rest (act.put (some d) (.string r)) w) :
    wpList P ops Q ({ dst := some d, op := .slice t x (some lo) none none, type := ty, pos := pos, after := after, guard := none } :: rest) act w := by
  subst hz
  exact str_lo d t ht x lo s r k n hx hh hn hr hK
set_option maxRecDepth 100000 in
set_option maxHeartbeats 2000000 in
theorem ref_Verify_fit (p : List UInt8) (hp : p.length = 16) (h : Int) (m S : ByteArray) (h0 : 0 ≤ h) (h6 : h ≤ 6) (hm : m.size ≤ 10000) (hS : S.size ≤ 100000) (i : Int) (k : Nat) (hdec : decInt S.data.toList = (i, (k : Int), 0)) (hk : k ≤ S.size) (hi0 : 0 ≤ i) (hi1 : i < 2 ^ h.toNat)
    (hlen : S.size - k = (68 + h.toNat) * 16) {r : Int × Int} (hr : (if rootV (S.data.toList.drop k) p i h.toNat m = p then (i, (0 : Int)) else (0, 10)) = r) (w : World) (hL : LaidR w) :
    Calls Tryd.prog 19 #[.agg (p.map B8).toArray, .int .i64 h, .string m, .string S] w fun e w' => e = .returned (.tuple #[.int .i64 r.1, .int .i64 r.2]) ∧ Below w.heap.size w w' := by
  obtain ⟨H, rfl⟩ : ∃ H : Nat, h = (H : Int) := ⟨h.toNat, by omega⟩
  rw [Int.toNat_natCast] at hi1 hlen hr
  have hH : H ≤ 6 := by omega
  have hp2 : (2 : Int) ^ H ≤ 64 := by rcases (by omega : H = 0 ∨ H = 1 ∨ H = 2 ∨ H = 3 ∨ H = 4 ∨ H = 5 ∨ H = 6) with rfl | rfl | rfl | rfl | rfl | rfl | rfl <;> decide
  have hi64 : 0 ≤ i ∧ i ≤ 9223372036854775807 := by omega
  have hi63 : i < 64 := by omega
  have hw2 : wrap64 ((2 : Int) ^ H) = 2 ^ H := by
    have hp1 : (0 : Int) < 2 ^ H := Int.pow_pos (by decide)
    generalize (2 : Int) ^ H = q at *
    unfold wrap64
    omega
  have d3 : decide (wrap64 ((2 : Int) ^ H) ≤ i) = false := by rw [hw2]; exact decide_eq_false (by omega)
  have d4 : ¬ (2 : Int) ^ H ≤ i := by omega
  have d5 : decide ((2 : Int) ^ H ≤ i) = false := decide_eq_false d4
  have d6 : decide ((H : Int) < 0) = false := decide_eq_false (by omega)
  have d7 : decide (6 < (H : Int)) = false := decide_eq_false (by omega)
  have d8 : decide (6 < H) = false := decide_eq_false (by omega)
  have hm' : (m.size : Int) ≤ 1048576 := by omega
  have d1 : decide (i < 0) = false := decide_eq_false (by omega)
  have d2 : decide ((1048576 : Int) < m.size) = false := decide_eq_false (by omega)
  have hL := hide hL
  have HDEC := hide hdec
  have hSl : S.data.toList.length = S.size := Array.length_toList
  have HLEN := hide hlen
  have HI1 := hide hi1
  clear hp2 hw2 hi1 h0 h6 hdec hlen
  obtain ⟨L, HLr⟩ : ∃ L, Hid (S.data.toList.drop k = L) := ⟨_, rfl⟩
  have hLl : Hid (L.length = (68 + H) * 16) := hide (by rw [← HLr.out, List.length_drop, hSl]; exact HLEN.out)
  have HX0 : Hid (S.extract k S.size = byB L) := hide (by have := byB_drop S.data.toList k; rw [byB_of, HLr.out] at this; exact this)
  have hszL : Hid ((byB L).size = (68 + H) * 16) := hide (by rw [byB_size]; exact hLl.out)
  obtain ⟨LB, hLB⟩ : ∃ B, Hid (byB L = B) := ⟨_, rfl⟩
  rw [HLr.out] at hr
  have HR := hide hr
  have hp := hide hp
  have hzp : Hid ((Tryd.prog.info? 23).map (·.size) = some (p.map B8).length) := hide (by rw [List.length_map, hp.out]; exact size_dig')
  clear hr hSl
  obtain ⟨D, HD⟩ : ∃ D, Hid (msgD p i m = D) := ⟨_, rfl⟩
  have hDl : Hid (D.length = 16) := hide (by rw [← HD.out]; exact List.length_take.trans (by rw [sha_len]; rfl))
  obtain ⟨f, Hf⟩ : ∃ f : Nat → List UInt8, Hid (∀ c : Nat, f c = if c < 68 then advL i c (dgs D c) (3 - dgs D c) (valL L c) else zero16) := ⟨_, fun _ => rfl⟩
  have Hfl : Hid (∀ c, (f c).length = 16) := hide (fun c => by
    rw [Hf.out]
    split
    · exact advL_len _ _ _ _ (valL_len (by rw [hLl.out]; omega))
    · rfl)
  obtain ⟨K0, HK0⟩ : ∃ K, Hid (ofD 3 [catL f 68] = K) := ⟨_, rfl⟩
  have hK0l : Hid (K0.length = 16) := hide (by rw [← HK0.out]; exact ofD_len _ _)
  obtain ⟨V0, HV0⟩ : ∃ V, Hid (ofD 1 [K0] = V) := ⟨_, rfl⟩
  have hV0l : Hid (V0.length = 16) := hide (by rw [← HV0.out]; exact ofD_len _ _)
  have HRr : Hid ((if climb L i H V0 = p then (i, (0 : Int)) else (0, 10)) = r) := hide (by
    rw [← HR.out]
    unfold rootV leafV leafD
    rw [HD.out, ← HV0.out, ← HK0.out, show f = (fun c : Nat => if c < 68 then advL i c (dgs D c) (3 - dgs D c) (valL L c) else zero16) from funext Hf.out])
  have hzK : Hid ((Tryd.prog.info? 23).map (·.size) = some (K0.map B8).length) := hide (by rw [List.length_map, hK0l.out]; exact size_dig')
  have hzV0 : Hid ((Tryd.prog.info? 23).map (·.size) = some (V0.map B8).length) := hide (by rw [List.length_map, hV0l.out]; exact size_dig')
  obtain ⟨Z, hZ⟩ : ∃ Z, Hid (zero16 = Z) := ⟨_, rfl⟩
  have h16 := zero_16
  rw [hZ.out] at h16
  have hZl : Hid (Z.length = 16) := hide (by rw [← hZ.out]; rfl)
  go_enter Tryd.func19, Tryd.ntmps19
  go_wp2_with (with_reducible refine to_bytes 33 _ S rfl (by unfold maxLen; omega) ?_; intro a2 c2 w2 hs2 h2 hp2; refine shold ?_)
  refine hide ?_
  have x4 : Box (w.alloc (.cells (p.map B8).toArray 23)) w.heap.size 23 (p.map B8) := Box.new w 23 (p.map B8).toArray
  obtain ⟨G4, hG4⟩ : ∃ G, G = w.heap.size := ⟨_, rfl⟩
  have x4 := x4.under h2
  have b2 := (sblo w (.cells (p.map B8).toArray 23)).trans (h2.mono (sblo w (.cells (p.map B8).toArray 23)).size)
  rw [← hG4] at x4 ⊢
  have l0 : w.heap.size ≤ G4 := Nat.le_of_eq hG4.symm
  clear h2 hp2 hG4
  go_wp2_with fail
  have HG := ref_GetInt _ _ _ _ _ hs2
  rw [HDEC.out] at HG
  refine HG.mono ?_
  rintro e w3 ⟨rfl, h3⟩
  have x4 := x4.under h3
  have b3 := b2.trans (h3.mono b2.size)
  clear h3 HG hs2 b2
  have hneq : ((((68 + H) * 16 : Nat) : Int) != (68 + (H : Int)) * 16) = false := by
    have : (((68 + H) * 16 : Nat) : Int) = (68 + (H : Int)) * 16 := by omega
    simp [this]
  have hszB : Hid (LB.size = (68 + H) * 16) := hide (by rw [← hLB.out]; exact hszL.out)
  have hbs : (LB.size : Int) = (68 + (H : Int)) * 16 := by rw [hszB.out]; omega
  have hbs2 : ((LB.size : Int) != (68 + (H : Int)) * 16) = false := by simp [hbs]
  have HX1 : Hid (S.extract k S.size = LB) := hide (by rw [← hLB.out]; exact HX0.out)
  have HBS2 := hide hbs2
  have HBS := hide hbs
  clear hbs hbs2 hneq
  go_upto_region 9 with (first
    | (with_reducible refine str_lo 43 9 Tryd.underlying9 _ _ S LB .i64 k rfl rfl hk HX1.out ?_))
  have hbs2 := HBS2.out
  have hbs := HBS.out
  go_wp2_with (with_reducible refine load_box 60 23 _ 23 G4 0 (p.map B8) (p.map B8) isAgg_dig hzp.out x4 rfl (fun j u hj => by rw [Nat.zero_add]; exact hj) ?_)
  clear hbs hbs2 HBS HBS2
  refine (ref_Digest p hp.out i (by omega) (by omega) m hm HD.out _ (hL.out.below b3)).mono ?_
  rintro e w4 ⟨rfl, h4⟩
  have x4 := x4.under h4
  have b4 := b3.trans (h4.mono b3.size)
  clear h4 b3
  go_wp2_with fail
  refine (ref_Digits D hDl.out _).mono ?_
  rintro e w5 ⟨a5, cd, rfl, oD, h5⟩
  have x4 := x4.under h5
  have b5 := b4.trans (h5.mono b4.size)
  clear h5 b4
  obtain ⟨bd, rfl⟩ := own_zero oD (by decide)
  obtain ⟨la, hla⟩ : ∃ l, Hid (((List.range 68).map fun j => (dgs D j : Int)) = l) := ⟨_, rfl⟩
  have ga : Hid (∀ j : Nat, j < 68 → la[j]? = some (dgs D j : Int)) := hide (fun j hj => by rw [← hla.out, List.getElem?_map, List.getElem?_range hj]; rfl)
  rw [hla.out] at oD
  have HOD : Hid (∀ j : Nat, j < 68 → w5.cell? ⟨bd, j, none⟩ = some (I64 (dgs D j : Int))) := hide (fun j hj => by
    have := oD.sl.cell _ rfl j _ (by rw [List.getElem?_map, ga.out j hj]; rfl)
    rwa [Addr.add_lit, Nat.zero_add] at this)
  clear oD
  rw [← hLB.out]
  go_wp2_with fail
  go_loopg [15, 16] 68 (fun gh o v w' => ∃ c : Nat, c ≤ 68 ∧ gh = 68 - c ∧ o = .string (byB (catL f c)) ∧ v = .int .i64 (c : Int) ∧ Below w5.heap.size w5 w')
  case atStart => exact ⟨0, by omega, by omega, rfl, rfl, Below.refl _ _⟩
  case round =>
    obtain ⟨c, hc, hg, rfl, rfl, hb⟩ := hrel
    have HG := hide hg
    clear hg
    by_cases hlt : c < 68
    · obtain ⟨X, HX⟩ : ∃ X, Hid (catL f c = X) := ⟨_, rfl⟩
      obtain ⟨V, HVf⟩ : ∃ V, Hid (f c = V) := ⟨_, rfl⟩
      obtain ⟨X2, HX2⟩ : ∃ X, Hid (catL f (c + 1) = X) := ⟨_, rfl⟩
      obtain ⟨v0, Hv0⟩ : ∃ S, Hid (valL L c = S) := ⟨_, rfl⟩
      obtain ⟨Lc, HLc⟩ : ∃ S, Hid (L.drop (16 * c) = S) := ⟨_, rfl⟩
      obtain ⟨t, Ht⟩ : ∃ t, Hid (dgs D c = t) := ⟨_, rfl⟩
      have ht3 : t ≤ 3 := by rw [← Ht.out]; exact dgs_le D c
      have hv0l : Hid (v0.length = 16) := hide (by rw [← Hv0.out]; exact valL_len (by rw [hLl.out]; omega))
      have hVl : Hid (V.length = 16) := hide (by rw [← HVf.out]; exact Hfl.out _)
      have HV : Hid (advL i c t (3 - t) v0 = V) := hide (by rw [← HVf.out, Hf.out, if_pos hlt, Hv0.out, Ht.out])
      have hXl : Hid (X.length ≤ 2000) := hide (by rw [← HX.out, catL_len Hfl.out]; omega)
      have HCAT : Hid (byB X ++ byB V = byB X2) := hide (by rw [byB_append, ← HX2.out, catL, HX.out, HVf.out])
      have HCS : Hid ((byB X).size + (byB V).size ≤ 9223372036854775807) := hide (by rw [byB_size, byB_size, hVl.out]; have := hXl.out; omega)
      have HLc1 : Hid (16 * c ≤ (byB L).size) := hide (by rw [byB_size, hLl.out]; omega)
      have HLc2 : Hid ((byB L).extract (16 * c) (byB L).size = byB Lc) := hide (by rw [byB_drop, HLc.out])
      have HLc3 : Hid (16 ≤ (byB Lc).size) := hide (by rw [byB_size, ← HLc.out, List.length_drop, hLl.out]; omega)
      have HLc4 : Hid ((byB Lc).data.toList.take 16 = v0) := hide (by rw [byB_data, ← HLc.out, valL_eq, Hv0.out])
      have Q2 : Hid (wr.cell? ⟨bd, c, none⟩ = some (.int .i64 (t : Int))) := hide (by have := cell_blw (HOD.out c hlt) hb; rw [Ht.out] at this; exact this)
      have hLr : Hid (LaidR wr) := hide (hL.out.below (b5.trans (hb.mono b5.size)))
      have d0 : decide ((c : Int) < 68) = true := decide_eq_true (by omega)
      rw [HX.out]
      go_wp2_with fail
      refine wp_region_free 15 [⟨0, 69, [69], fun vs _ => vs = [.string (byB X)]⟩, ⟨1, 70, [70], fun vs _ => vs = [.int .i64 i]⟩, ⟨2, 71, [71], fun vs _ => vs = [.int .i64 (c : Int)]⟩, ⟨3, 72, [72], fun vs _ => vs = [.slice (some ⟨bd, 0, none⟩) 68 cd]⟩, ⟨4, 73, [73], fun vs _ => vs = [.int .i64 (c : Int)]⟩, ⟨5, 74, [74], fun vs _ => vs = [.pointer (some ⟨bd, c, none⟩)]⟩, ⟨6, 75, [75], fun vs _ => vs = [.int .i64 (t : Int)]⟩, ⟨7, 76, [76], fun vs _ => vs = [.string (byB L)]⟩, ⟨8, 77, [77], fun vs _ => vs = [.int .i64 (c : Int)]⟩, ⟨9, 78, [78], fun vs _ => vs = [.int .i64 (16 * (c : Int))]⟩, ⟨10, 79, [79], fun vs _ => vs = [.string (byB Lc)]⟩, ⟨11, 80, [80], fun vs _ => vs = [.agg (v0.map B8).toArray]⟩, ⟨12, 81, [81], fun vs _ => vs = [.agg (V.map B8).toArray]⟩, ⟨13, 82, [82], fun vs _ => vs = [.string (byB V)]⟩, ⟨14, 83, [83], fun vs _ => vs = [.string (byB X2)]⟩] (by kernel_rfl) (by kernel_rfl) ?_ ?_ ?_
      · simp only [All]
        refine ⟨fun _ _ _ _ h => h, fun _ _ _ _ h => h, fun _ _ _ _ h => h, fun _ _ _ _ h => h, fun _ _ _ _ h => h, fun _ _ _ _ h => h, fun _ _ _ _ h => h, fun _ _ _ _ h => h, fun _ _ _ _ h => h, fun _ _ _ _ h => h, fun _ _ _ _ h => h, fun _ _ _ _ h => h, fun _ _ _ _ h => h, fun _ _ _ _ h => h, fun _ _ _ _ h => h, trivial⟩
      · simp only [All]
        refine ⟨?_, ?_, ?_, ?_, ?_, ?_, ?_, ?_, ?_, ?_, ?_, ?_, ?_, ?_, ?_, trivial⟩
        · intro o ho a' w' hb hfr hdep
          obtain rfl := Option.some.inj ho
          have g15 : a'.tmps[15]?.getD undef = .string (byB X) := by have h := hfr 15 (by kernel_rfl); simpa using h
          clear ho hfr hdep
          go_wp2_with fail
          exact ⟨rfl, _, rfl, Below.refl _ _, rfl⟩
        · intro o ho a' w' hb hfr hdep
          obtain rfl := Option.some.inj ho
          have g10 : a'.tmps[10]?.getD undef = .int .i64 i := by have h := hfr 10 (by kernel_rfl); simpa using h
          clear ho hfr hdep
          go_wp2_with fail
          exact ⟨rfl, _, rfl, Below.refl _ _, rfl⟩
        · intro o ho a' w' hb hfr hdep
          obtain rfl := Option.some.inj ho
          have g16 : a'.tmps[16]?.getD undef = .int .i64 (c : Int) := by have h := hfr 16 (by kernel_rfl); simpa using h
          clear ho hfr hdep
          go_wp2_with fail
          exact ⟨rfl, _, rfl, Below.refl _ _, rfl⟩
        · intro o ho a' w' hb hfr hdep
          obtain rfl := Option.some.inj ho
          have g14 : a'.tmps[14]?.getD undef = .slice (some ⟨bd, 0, none⟩) 68 cd := by have h := hfr 14 (by kernel_rfl); simpa using h
          clear ho hfr hdep
          go_wp2_with fail
          exact ⟨rfl, _, rfl, Below.refl _ _, rfl⟩
        · intro o ho a' w' hb hfr hdep
          obtain rfl := Option.some.inj ho
          have g16 : a'.tmps[16]?.getD undef = .int .i64 (c : Int) := by have h := hfr 16 (by kernel_rfl); simpa using h
          clear ho hfr hdep
          go_wp2_with fail
          exact ⟨rfl, _, rfl, Below.refl _ _, rfl⟩
        · intro o ho a' w' hb hfr hdep
          obtain rfl := Option.some.inj ho
          have g72 : a'.tmps[72]?.getD undef = .slice (some ⟨bd, 0, none⟩) 68 cd := by have h := hdep 3 _ rfl (by kernel_rfl); simpa using h
          have g73 : a'.tmps[73]?.getD undef = .int .i64 (c : Int) := by have h := hdep 4 _ rfl (by kernel_rfl); simpa using h
          clear ho hfr hdep
          go_wp2_with fail
          exact ⟨rfl, _, rfl, Below.refl _ _, rfl⟩
        · intro o ho a' w' hb hfr hdep
          obtain rfl := Option.some.inj ho
          have g74 : a'.tmps[74]?.getD undef = .pointer (some ⟨bd, c, none⟩) := by have h := hdep 5 _ rfl (by kernel_rfl); simpa using h
          clear ho hfr hdep
          have hcl := cell_blw Q2.out hb
          go_wp2_with fail
          exact ⟨rfl, _, rfl, Below.refl _ _, rfl⟩
        · intro o ho a' w' hb hfr hdep
          obtain rfl := Option.some.inj ho
          have g13 : a'.tmps[13]?.getD undef = .string (byB L) := by have h := hfr 13 (by kernel_rfl); simpa using h
          clear ho hfr hdep
          go_wp2_with fail
          exact ⟨rfl, _, rfl, Below.refl _ _, rfl⟩
        · intro o ho a' w' hb hfr hdep
          obtain rfl := Option.some.inj ho
          have g16 : a'.tmps[16]?.getD undef = .int .i64 (c : Int) := by have h := hfr 16 (by kernel_rfl); simpa using h
          clear ho hfr hdep
          go_wp2_with fail
          exact ⟨rfl, _, rfl, Below.refl _ _, rfl⟩
        · intro o ho a' w' hb hfr hdep
          obtain rfl := Option.some.inj ho
          have g77 : a'.tmps[77]?.getD undef = .int .i64 (c : Int) := by have h := hdep 8 _ rfl (by kernel_rfl); simpa using h
          clear ho hfr hdep
          go_wp2_with fail
          exact ⟨rfl, _, rfl, Below.refl _ _, rfl⟩
        · intro o ho a' w' hb hfr hdep
          obtain rfl := Option.some.inj ho
          have g76 : a'.tmps[76]?.getD undef = .string (byB L) := by have h := hdep 7 _ rfl (by kernel_rfl); simpa using h
          have g78 : a'.tmps[78]?.getD undef = .int .i64 (16 * (c : Int)) := by have h := hdep 9 _ rfl (by kernel_rfl); simpa using h
          clear ho hfr hdep
          refine str_lo 79 9 Tryd.underlying9 _ _ (byB L) (byB Lc) .i64 (16 * c) (by simpa [Act.eval] using g76) (by simpa [Act.eval] using g78) HLc1.out HLc2.out ?_
          exact ⟨rfl, _, rfl, Below.refl _ _, rfl⟩
        · intro o ho a' w' hb hfr hdep
          obtain rfl := Option.some.inj ho
          have g79 : a'.tmps[79]?.getD undef = .string (byB Lc) := by have h := hdep 10 _ rfl (by kernel_rfl); simpa using h
          clear ho hfr hdep
          go_wp2_with fail
          refine (ref_digest (byB Lc) HLc3.out (D := v0) HLc4.out _).mono ?_
          rintro e w2 ⟨rfl, h2⟩
          go_wp2_with fail
          exact ⟨rfl, _, rfl, h2, rfl⟩
        · intro o ho a' w' hb hfr hdep
          obtain rfl := Option.some.inj ho
          have g70 : a'.tmps[70]?.getD undef = .int .i64 i := by have h := hdep 1 _ rfl (by kernel_rfl); simpa using h
          have g71 : a'.tmps[71]?.getD undef = .int .i64 (c : Int) := by have h := hdep 2 _ rfl (by kernel_rfl); simpa using h
          have g75 : a'.tmps[75]?.getD undef = .int .i64 (t : Int) := by have h := hdep 6 _ rfl (by kernel_rfl); simpa using h
          have g80 : a'.tmps[80]?.getD undef = .agg (v0.map B8).toArray := by have h := hdep 11 _ rfl (by kernel_rfl); simpa using h
          clear ho hfr hdep
          go_wp2_with fail
          refine (ref_advance_to i (c : Int) (t : Int) 3 (3 - t) (by omega) hi64 ⟨by omega, by omega⟩ (by omega) (by omega) v0 hv0l.out HV.out _ (hLr.out.below hb)).mono ?_
          rintro e w2 ⟨rfl, h2⟩
          go_wp2_with fail
          exact ⟨rfl, _, rfl, h2, rfl⟩
        · intro o ho a' w' hb hfr hdep
          obtain rfl := Option.some.inj ho
          have g81 : a'.tmps[81]?.getD undef = .agg (V.map B8).toArray := by have h := hdep 12 _ rfl (by kernel_rfl); simpa using h
          clear ho hfr hdep
          go_wp2_with fail
          refine (text_any V hVl.out _).mono ?_
          rintro e w2 ⟨rfl, h2⟩
          go_wp2_with fail
          exact ⟨rfl, _, rfl, h2, rfl⟩
        · intro o ho a' w' hb hfr hdep
          obtain rfl := Option.some.inj ho
          have g69 : a'.tmps[69]?.getD undef = .string (byB X) := by have h := hdep 0 _ rfl (by kernel_rfl); simpa using h
          have g82 : a'.tmps[82]?.getD undef = .string (byB V) := by have h := hdep 13 _ rfl (by kernel_rfl); simpa using h
          clear ho hfr hdep
          refine str_add 83 _ _ _ _ (byB X) (byB V) (byB X2) (by simpa [Act.eval] using g69) (by simpa [Act.eval] using g82) HCS.out HCAT.out ?_
          exact ⟨rfl, _, rfl, Below.refl _ _, rfl⟩
      · intro g w9 hb9 hp
        have p83 := hp 14 _ rfl
        clear hp
        simp at p83
        simp only [List.drop_succ_cons, List.drop_zero, List.map_cons, List.map_nil, putAll, Act.put, List.setIfInBounds_toArray, List.set_cons_succ, List.set_cons_zero, List.cons_append, List.nil_append, p83]
        go_wp2_with fail
        go_roundg (68 - (c + 1))
        case measure => have := HG.out; omega
        case rel => exact ⟨c + 1, by omega, rfl, by rw [← HX2.out], by go_num, hb.trans (hb9.mono hb.size)⟩
    · obtain rfl : c = 68 := by omega
      have d0 : decide ((68 : Int) < 68) = false := by decide
      have b6 := b5.trans (hb.mono b5.size)
      have x4 := x4.under hb
      obtain ⟨C, hC⟩ : ∃ C, Hid (catL f 68 = C) := ⟨_, rfl⟩
      have hCl : C.length = 1088 := by rw [← hC.out, catL_len Hfl.out]
      rw [hC.out]
      have HK2 : Hid (ofD 3 [C] = K0) := hide (by rw [← hC.out]; exact HK0.out)
      have hsz3 : Hid (∀ s ∈ [byB C], s.size ≤ 10000) := hide (by intro s hs; simp at hs; subst hs; rw [byB_size]; omega)
      have hsz1 : Hid (∀ s ∈ [byB K0], s.size ≤ 10000) := hide (by intro s hs; simp at hs; subst hs; rw [byB_size, hK0l.out]; omega)
      clear hCl hb HOD b5
      go_wp2_with fail
      have s3 : Sl (wr.alloc (.cells #[.string (byB C)] 9)) 1 (some ⟨wr.heap.size, 0, none⟩) 1 1 ([byB C].map Value.string) := Sl.fresh wr 9 1 1 ([byB C].map Value.string) rfl (by decide)
      have x4 := x4.alloc (.cells #[.string (byB C)] 9)
      have b6 := blo3 b6 (Nat.le_refl _) (.cells #[.string (byB C)] 9)
      refine (rof_at HK2.out (by simp) hsz3.out (hL.out.below b6) s3).mono ?_
      rintro e w7 ⟨rfl, h7⟩
      have x4 := x4.under h7
      have b7 := b6.trans (h7.mono b6.size)
      clear h7 b6 s3
      go_wp2_with (with_reducible refine hold_store ?_)
      refine hide ?_
      refine store_all 23 _ _ 23 w7.heap.size (Z.map B8) (K0.map B8) (.agg (K0.map B8).toArray) hzK.out (Box.new w7 _ _) (by rfl) (by rfl) rfl (by rw [List.length_map, hK0l.out, List.length_map, hZl.out]) (one_map _ (fun _ => rfl) _) ?_
      intro w8 x17 hgr hsz'

      have h8 : Below w7.heap.size w7 w8 := (sblo w7 _).grown hgr (by simp) (fun k hk => by cases hk; exact Nat.le_refl _)
      have x4 := x4.under h8
      have b8 := b7.trans (h8.mono b7.size)
      generalize w7.heap.size = G17 at *
      clear hgr hsz' h8 b7
      go_wp2_with (with_reducible refine load_box 87 23 _ 23 G17 0 (K0.map B8) (K0.map B8) isAgg_dig hzK.out x17 rfl (fun j u hj => by rw [Nat.zero_add]; exact hj) ?_)
      refine (text_any K0 hK0l.out _).mono ?_
      rintro e w9 ⟨rfl, h9⟩
      have x4 := x4.under h9
      have b9 := b8.trans (h9.mono b8.size)
      clear h9 b8 x17
      go_wp2_with fail
      have s6 : Sl (w9.alloc (.cells #[.string (byB K0)] 9)) 1 (some ⟨w9.heap.size, 0, none⟩) 1 1 ([byB K0].map Value.string) := Sl.fresh w9 9 1 1 ([byB K0].map Value.string) rfl (by decide)
      have x4 := x4.alloc (.cells #[.string (byB K0)] 9)
      have b9 := blo3 b9 (Nat.le_refl _) (.cells #[.string (byB K0)] 9)
      refine (rof_at HV0.out (by simp) hsz1.out (hL.out.below b9) s6).mono ?_
      rintro e w11 ⟨rfl, h11⟩
      have x4 := x4.under h11
      have bB := b9.trans (h11.mono b9.size)
      clear h11 b9 s6
      have g4 := x4.lt
      obtain ⟨G18, hG18⟩ : ∃ G, Hid (w11.heap.size = G) := ⟨_, rfl⟩
      rw [hG18.out] at g4
      have hWG : w.heap.size ≤ G18 := by rw [← hG18.out]; exact bB.size
      go_wp2_with (with_reducible refine hold_store ?_)
      refine hide ?_
      refine store_all 23 _ _ 23 w11.heap.size (Z.map B8) (V0.map B8) (.agg (V0.map B8).toArray) hzV0.out (Box.new w11 _ _) (by rfl) (by rfl) rfl (by rw [List.length_map, hV0l.out, List.length_map, hZl.out]) (one_map _ (fun _ => rfl) _) ?_
      intro w12 x18 hgr hsz'

      have h12 : Below w11.heap.size w11 w12 := (sblo w11 _).grown hgr (by simp) (fun k hk => by cases hk; exact Nat.le_refl _)
      rw [hG18.out] at h12 x18 ⊢
      clear hgr hsz'
      go_wp2_with fail
      go_loopg [19, 20] H (fun gh q v w' => ∃ l : Nat, l ≤ H ∧ gh = H - l ∧ q = .int .i64 (i / 2 ^ l) ∧ v = .int .i64 (l : Int) ∧ Box w' G18 23 ((climb L i l V0).map B8) ∧ Below G18 w11 w')
      case atStart => exact ⟨0, by omega, by omega, by rw [Int.pow_zero, Int.ediv_one], rfl, x18, h12⟩
      case round =>
        clear x18 h12
        obtain ⟨l, hl, hg, rfl, rfl, x18, hq⟩ := hrel
        have HG2 := hide hg
        clear hg
        have y4 := x4.below hq g4
        have br' := bB.trans (hq.mono hWG)
        obtain ⟨Cv, HCv⟩ : ∃ C, Hid (climb L i l V0 = C) := ⟨_, rfl⟩
        have hCl : Hid (Cv.length = 16) := hide (by rw [← HCv.out]; exact climb_len _ _ _ hV0l.out)
        have hzC : Hid ((Tryd.prog.info? 23).map (·.size) = some (Cv.map B8).length) := hide (by rw [List.length_map, hCl.out]; exact size_dig')
        rw [HCv.out] at x18
        by_cases hlt2 : l < H
        · obtain ⟨q, hqq, hq1⟩ := ediv_lt hi0 HI1.out (Nat.le_of_lt hlt2)
          have hpm := pow_64 (n := H - l) (by omega)
          have hq64 : q < 64 := by omega
          have HQ := hide hqq
          rw [hqq]
          clear hqq hq1 hpm
          have d0 : decide ((l : Int) < (H : Int)) = true := decide_eq_true (by omega)
          have d0' : decide (l < H) = true := decide_eq_true hlt2
          have HNX : Hid (i / 2 ^ (l + 1) = (q : Int) / 2) := hide (by rw [half_pow, HQ.out])
          obtain ⟨Vv, HVv⟩ : ∃ V, Hid (valL L (68 + l) = V) := ⟨_, rfl⟩
          have hVl : Hid (Vv.length = 16) := hide (by rw [← HVv.out]; exact valL_len (by rw [hLl.out]; omega))
          have hzV : Hid ((Tryd.prog.info? 23).map (·.size) = some (Vv.map B8).length) := hide (by rw [List.length_map, hVl.out]; exact size_dig')
          obtain ⟨Lc, HLc⟩ : ∃ S, Hid (L.drop (16 * (68 + l)) = S) := ⟨_, rfl⟩
          have HLc1 : Hid (16 * (68 + l) ≤ (byB L).size) := hide (by rw [byB_size, hLl.out]; omega)
          have HLc2 : Hid ((byB L).extract (16 * (68 + l)) (byB L).size = byB Lc) := hide (by rw [byB_drop, HLc.out])
          have HLc3 : Hid (16 ≤ (byB Lc).size) := hide (by rw [byB_size, ← HLc.out, List.length_drop, hLl.out]; omega)
          have HLc4 : Hid ((byB Lc).data.toList.take 16 = Vv) := hide (by rw [byB_data, ← HLc.out, valL_eq, HVv.out])
          have hzz : Hid ((16 * (68 + (l : Int))) = ((16 * (68 + l) : Nat) : Int)) := hide (by omega)
          go_wp2_with (first
            | (with_reducible refine str_lo_z 101 9 Tryd.underlying9 _ _ (byB L) (byB Lc) .i64 (16 * (68 + l)) (16 * (68 + (l : Int))) hzz.out rfl rfl HLc1.out HLc2.out ?_)
            | (go_at_call 42; refine (ref_digest (byB Lc) HLc3.out (D := Vv) HLc4.out _).mono ?_; rintro e wD ⟨rfl, hD1⟩)
            | (with_reducible refine hold_store ?_))
          refine hide ?_
          have x18 := x18.under hD1
          have hq2 := hq.trans (hD1.mono (by have := hq.size; rw [hG18.out] at this; omega))
          refine store_all 23 _ _ 23 wD.heap.size (Z.map B8) (Vv.map B8) (.agg (Vv.map B8).toArray) hzV.out (Box.new wD _ _) (by rfl) (by rfl) rfl (by rw [List.length_map, hVl.out, List.length_map, hZl.out]) (one_map _ (fun _ => rfl) _) ?_
          intro wE x21 hgr hsz'

          have hE1 : Below wD.heap.size wD wE := (sblo wD _).grown hgr (by simp) (fun k hk => by cases hk; exact Nat.le_refl _)
          have x18 := x18.under hE1
          have hq3 := hq2.trans (hE1.mono (by have := hq2.size; rw [hG18.out] at this; omega))
          have br3 := bB.trans (hq3.mono hWG)
          generalize wD.heap.size = G21 at *
          clear hgr hsz' hE1 hD1 hq2 hq br'
          have g18 := x18.lt
          by_cases hbit : q % 2 = 1
          · obtain ⟨N, HN⟩ : ∃ N, Hid (nodeL Vv Cv = N) := ⟨_, rfl⟩
            have hNl : Hid (N.length = 16) := hide (by rw [← HN.out]; exact ofD_len _ _)
            have hzN : Hid ((Tryd.prog.info? 23).map (·.size) = some (N.map B8).length) := hide (by rw [List.length_map, hNl.out]; exact size_dig')
            have HCN : Hid (climb L i (l + 1) V0 = N) := hide (by rw [climb, if_pos (by rw [HQ.out]; omega), HVv.out, HCv.out, HN.out])
            have e2 : ((q : Int) % 2 == 1) = true := by simp; omega
            have e3 : (q : Int) % 2 = 1 := by omega
            clear hbit
            go_wp2_with (first
              | (with_reducible refine load_box 106 23 _ 23 G21 0 (Vv.map B8) (Vv.map B8) isAgg_dig hzV.out x21 rfl (fun j u hj => by rw [Nat.zero_add]; exact hj) ?_)
              | (with_reducible refine load_box 107 23 _ 23 G18 0 (Cv.map B8) (Cv.map B8) isAgg_dig hzC.out x18 rfl (fun j u hj => by rw [Nat.zero_add]; exact hj) ?_)
              | (go_at_call 43; refine (ref_node Vv Cv hVl.out hCl.out HN.out _ (hL.out.below br3)).mono ?_; rintro e wF ⟨rfl, hF1⟩)
              | (with_reducible refine hold_store ?_))
            refine hide ?_
            have x18 := x18.under hF1
            have hq4 := hq3.trans (hF1.mono (by have := hq3.size; rw [hG18.out] at this; omega))
            refine store_all 23 _ _ 23 G18 (Cv.map B8) (N.map B8) (.agg (N.map B8).toArray) hzN.out x18 (by rfl) (by rfl) rfl (by rw [List.length_map, hNl.out, List.length_map, hCl.out]) (one_map _ (fun _ => rfl) _) ?_
            intro wG x9 hgr hsz'

            have hq9 := hq4.grown hgr (Nat.le_of_lt x18.lt) (fun k hk => by cases hk; exact Nat.le_refl _)
            clear hgr hF1 hq4
            go_wp2_with fail
            go_roundg (H - (l + 1))
            case measure => have := HG2.out; omega
            case rel => exact ⟨l + 1, by omega, rfl, by rw [HNX.out], by go_num, by rw [HCN.out]; exact x9, hq9⟩
          · obtain ⟨N, HN⟩ : ∃ N, Hid (nodeL Cv Vv = N) := ⟨_, rfl⟩
            have hNl : Hid (N.length = 16) := hide (by rw [← HN.out]; exact ofD_len _ _)
            have hzN : Hid ((Tryd.prog.info? 23).map (·.size) = some (N.map B8).length) := hide (by rw [List.length_map, hNl.out]; exact size_dig')
            have HCN : Hid (climb L i (l + 1) V0 = N) := hide (by rw [climb, if_neg (by rw [HQ.out]; omega), HVv.out, HCv.out, HN.out])
            have e2 : ((q : Int) % 2 == 1) = false := by simp; omega
            have e3 : (q : Int) % 2 = 0 := by omega
            clear hbit
            go_wp2_with (first
              | (with_reducible refine load_box 109 23 _ 23 G18 0 (Cv.map B8) (Cv.map B8) isAgg_dig hzC.out x18 rfl (fun j u hj => by rw [Nat.zero_add]; exact hj) ?_)
              | (with_reducible refine load_box 110 23 _ 23 G21 0 (Vv.map B8) (Vv.map B8) isAgg_dig hzV.out x21 rfl (fun j u hj => by rw [Nat.zero_add]; exact hj) ?_)
              | (go_at_call 43; refine (ref_node Cv Vv hCl.out hVl.out HN.out _ (hL.out.below br3)).mono ?_; rintro e wF ⟨rfl, hF1⟩)
              | (with_reducible refine hold_store ?_))
            refine hide ?_
            have x18 := x18.under hF1
            have hq4 := hq3.trans (hF1.mono (by have := hq3.size; rw [hG18.out] at this; omega))
            refine store_all 23 _ _ 23 G18 (Cv.map B8) (N.map B8) (.agg (N.map B8).toArray) hzN.out x18 (by rfl) (by rfl) rfl (by rw [List.length_map, hNl.out, List.length_map, hCl.out]) (one_map _ (fun _ => rfl) _) ?_
            intro wG x9 hgr hsz'

            have hq9 := hq4.grown hgr (Nat.le_of_lt x18.lt) (fun k hk => by cases hk; exact Nat.le_refl _)
            clear hgr hF1 hq4
            go_wp2_with fail
            go_roundg (H - (l + 1))
            case measure => have := HG2.out; omega
            case rel => exact ⟨l + 1, by omega, rfl, by rw [HNX.out], by go_num, by rw [HCN.out]; exact x9, hq9⟩
        · obtain rfl : l = H := by omega
          have d0 : decide ((l : Int) < (l : Int)) = false := decide_eq_false (by omega)
          have d0' : decide (l < l) = false := decide_eq_false (by omega)
          have HRr2 := HRr.out
          rw [HCv.out] at HRr2
          have HRr2 := hide HRr2
          by_cases hpe : Cv = p
          · have hb : Hid ((!decide (Cv = p)) = false) := hide (by rw [decide_eq_true hpe]; rfl)
            have hr1 : r = (i, 0) := by rw [← HRr2.out, if_pos hpe]
            subst hr1
            clear hpe
            go_wp2_with (with_reducible refine hold_load ?_)
            refine hide ?_
            refine load_box 114 23 _ 23 G18 0 (Cv.map B8) (Cv.map B8) isAgg_dig hzC.out x18 rfl (fun j u hj => by rw [Nat.zero_add]; exact hj) ?_
            refine load_box 115 23 _ 23 G4 0 (p.map B8) (p.map B8) isAgg_dig hzp.out y4 rfl (fun j u hj => by rw [Nat.zero_add]; exact hj) ?_
            refine neq_bytes 116 23 _ _ _ 16 Tryd.underlying23 Tryd.underlying5 size_u8 guard_dig Cv p rfl rfl hCl.out hp.out _ hb.out ?_
            simp only [Act.put, List.setIfInBounds_toArray, List.set_cons_succ, List.set_cons_zero]
            clear d0 d0' hlt2 hl HG2 HRr2 HRr hszB HLEN hszL hLl HI1 d4 d5 d3 d6 d7 d8
            go_wp2_with fail
            go_ret2
            exact ⟨rfl, br'⟩
          · have hb : Hid ((!decide (Cv = p)) = true) := hide (by rw [decide_eq_false hpe]; rfl)
            have hr1 : r = (0, 10) := by rw [← HRr2.out, if_neg hpe]
            subst hr1
            clear hpe
            go_wp2_with (with_reducible refine hold_load ?_)
            refine hide ?_
            refine load_box 114 23 _ 23 G18 0 (Cv.map B8) (Cv.map B8) isAgg_dig hzC.out x18 rfl (fun j u hj => by rw [Nat.zero_add]; exact hj) ?_
            refine load_box 115 23 _ 23 G4 0 (p.map B8) (p.map B8) isAgg_dig hzp.out y4 rfl (fun j u hj => by rw [Nat.zero_add]; exact hj) ?_
            refine neq_bytes 116 23 _ _ _ 16 Tryd.underlying23 Tryd.underlying5 size_u8 guard_dig Cv p rfl rfl hCl.out hp.out _ hb.out ?_
            simp only [Act.put, List.setIfInBounds_toArray, List.set_cons_succ, List.set_cons_zero]
            clear d0 d0' hlt2 hl HG2 HRr2 HRr hszB HLEN hszL hLl HI1 d4 d5 d3 d6 d7 d8
            go_wp2_with fail
            go_ret2
            exact ⟨rfl, br'⟩
end Go.Proofs.YtblgmjnkllkhbaaDoor
end

/- the text S27 -/
section
/- Chapter 03: Verify where it refuses at once. -/
set_option linter.unusedVariables false
namespace Go.Proofs.YtblgmjnkllkhbaaDoor
open Go.RowKit Go.Dx
set_option maxRecDepth 100000 in
set_option maxHeartbeats 2000000 in
theorem sg_Verify_arg (p : List UInt8) (h : Int) (m S : ByteArray) (hb : ¬ (0 ≤ h ∧ h ≤ 6)) (w : World) :
    Calls Tryd.prog 18 #[.agg (p.map B8).toArray, .int .i64 h, .string m, .string S] w fun e w' => e = .returned (.tuple #[.int .i64 0, .int .i64 1]) ∧ Below w.heap.size w w' := by
  have hval := sg_valid h
  have hvf : (decide (0 ≤ h) && decide (h ≤ 6)) = false := by
    by_cases h0 : 0 ≤ h
    · have h6 : ¬ h ≤ 6 := fun h6 => hb ⟨h0, h6⟩
      simp [h6]
    · simp [h0]
  rw [hvf] at hval
  have hval := hide hval
  clear hb hvf
  go_enter Tryd.func18, Tryd.ntmps18
  go_wp2_with fail
  obtain ⟨w1, G4, hw1, e1, x4, b1, l1⟩ := allocs1 w (p.map B8) 23
  rw [← hw1]
  clear hw1 e1 x4
  refine (hval.out _).mono ?_
  rintro e w1' ⟨rfl, hq⟩
  rw [hq]
  clear hq
  go_wp2_with fail
  go_ret2
  exact ⟨rfl, b1⟩
set_option maxRecDepth 100000 in
set_option maxHeartbeats 2000000 in
theorem sg_Verify_dec (p : List UInt8) (h : Int) (m S : ByteArray) (h0 : 0 ≤ h) (h6 : h ≤ 6) (hm : m.size ≤ 10000) (hS : S.size ≤ 100000) (E : Int) (hE : E ≠ 0) (hdec : decInt S.data.toList = (0, 0, E)) (w : World) :
    Calls Tryd.prog 18 #[.agg (p.map B8).toArray, .int .i64 h, .string m, .string S] w fun e w' => e = .returned (.tuple #[.int .i64 0, .int .i64 E]) ∧ Below w.heap.size w w' := by
  have hm' : (m.size : Int) ≤ 1048576 := by omega
  have d2 : decide ((1048576 : Int) < m.size) = false := decide_eq_false (by omega)
  have d4 : (E != 0) = true := by simp [hE]
  have hval := sg_valid h
  rw [decide_eq_true h0, decide_eq_true h6] at hval
  have hval := hide hval
  have HDEC := hide hdec
  clear hdec h0 h6
  go_enter Tryd.func18, Tryd.ntmps18
  go_wp2_with fail
  obtain ⟨w1, G4, hw1, e1, x4, b1, l1⟩ := allocs1 w (p.map B8) 23
  rw [← hw1]
  clear hw1 e1 x4
  refine (hval.out _).mono ?_
  rintro e w1' ⟨rfl, hq⟩
  rw [hq]
  clear hq
  go_wp2_with (with_reducible refine to_bytes 28 _ S rfl (by unfold maxLen; omega) ?_; intro a2 c2 w2 hs2 h2 hp2; refine shold ?_)
  refine hide ?_
  have b2 := b1.trans (h2.mono b1.size)
  clear h2 hp2 b1
  go_wp2_with fail
  have HG := wire_GetInt _ _ _ _ _ hs2
  rw [HDEC.out] at HG
  refine HG.mono ?_
  rintro e w3 ⟨rfl, hq⟩
  rw [← hq]
  clear hq HG hs2
  go_wp2_with fail
  go_ret2
  exact ⟨rfl, by first | exact b2 | exact (blo3 b2 (Nat.le_refl _) _)⟩
set_option maxRecDepth 100000 in
set_option maxHeartbeats 2000000 in
theorem sg_Verify_form (p : List UInt8) (h : Int) (m S : ByteArray) (h0 : 0 ≤ h) (h6 : h ≤ 6) (hm : m.size ≤ 10000) (hS : S.size ≤ 100000) (i : Int) (k : Nat) (hdec : decInt S.data.toList = (i, (k : Int), 0)) (hk : k ≤ S.size)
    (hir : -9223372036854775808 ≤ i ∧ i ≤ 9223372036854775807) (hbad : ¬ (0 ≤ i ∧ i < 2 ^ h.toNat ∧ S.size - k = (68 + h.toNat) * 16)) (w : World) :
    Calls Tryd.prog 18 #[.agg (p.map B8).toArray, .int .i64 h, .string m, .string S] w fun e w' => e = .returned (.tuple #[.int .i64 0, .int .i64 2]) ∧ Below w.heap.size w w' := by
  obtain ⟨H, rfl⟩ : ∃ H : Nat, h = (H : Int) := ⟨h.toNat, by omega⟩
  rw [Int.toNat_natCast] at hbad
  have hH : H ≤ 6 := by omega
  have hp2 : (2 : Int) ^ H ≤ 64 := by rcases (by omega : H = 0 ∨ H = 1 ∨ H = 2 ∨ H = 3 ∨ H = 4 ∨ H = 5 ∨ H = 6) with rfl | rfl | rfl | rfl | rfl | rfl | rfl <;> decide
  have hw2 : wrap64 ((2 : Int) ^ H) = 2 ^ H := by
    have hp1 : (0 : Int) < 2 ^ H := Int.pow_pos (by decide)
    generalize (2 : Int) ^ H = q at *
    unfold wrap64
    omega
  have HW2 := hide hw2
  clear hp2 hw2
  have hm' : (m.size : Int) ≤ 1048576 := by omega
  have d2 : decide ((1048576 : Int) < m.size) = false := decide_eq_false (by omega)
  have hval := sg_valid (H : Int)
  rw [decide_eq_true h0, decide_eq_true h6] at hval
  have hval := hide hval
  have HDEC := hide hdec
  have hSl : S.data.toList.length = S.size := Array.length_toList
  have HBAD := hide hbad
  have HIR := hide hir
  clear h0 h6 hdec hbad hir
  obtain ⟨L, HLr⟩ : ∃ L, Hid (S.data.toList.drop k = L) := ⟨_, rfl⟩
  obtain ⟨n, hn⟩ : ∃ n, Hid (S.size - k = n) := ⟨_, rfl⟩
  have hLl : Hid (L.length = n) := hide (by rw [← HLr.out, List.length_drop, hSl]; exact hn.out)
  obtain ⟨X, hXX⟩ : ∃ X : ByteArray, Hid (byB L = X) := ⟨_, rfl⟩
  have HX : Hid (S.extract k S.size = X) := hide (by have := byB_drop S.data.toList k; rw [byB_of, HLr.out, hXX.out] at this; exact this)
  have hszL : Hid (X.size = n) := hide (by rw [← hXX.out, byB_size]; exact hLl.out)
  have hn6 : n ≤ 100000 := by rw [← hn.out]; omega
  rw [hn.out] at HBAD
  clear hSl
  go_enter Tryd.func18, Tryd.ntmps18
  go_wp2_with fail
  obtain ⟨w1, G4, hw1, e1, x4, b1, l1⟩ := allocs1 w (p.map B8) 23
  rw [← hw1]
  clear hw1 e1 x4
  refine (hval.out _).mono ?_
  rintro e w1' ⟨rfl, hq⟩
  rw [hq]
  clear hq
  go_wp2_with (with_reducible refine to_bytes 28 _ S rfl (by unfold maxLen; omega) ?_; intro a2 c2 w2 hs2 h2 hp2; refine shold ?_)
  refine hide ?_
  have b2 := b1.trans (h2.mono b1.size)
  clear h2 hp2 b1
  go_wp2_with fail
  have HG := wire_GetInt _ _ _ _ _ hs2
  rw [HDEC.out] at HG
  refine HG.mono ?_
  rintro e w3 ⟨rfl, hq⟩
  rw [← hq]
  clear hq HG hs2
  go_wp2_with (first
    | (with_reducible refine str_lo 38 9 Tryd.underlying9 _ _ S X .i64 k rfl rfl hk HX.out ?_)
    | (with_reducible refine to_bytes 39 _ X rfl (by rw [hszL.out]; unfold maxLen; omega) ?_; intro ar cr w4 s4 h4 hp4; refine shold ?_))
  refine hide ?_
  have xi := Box.new w2 3 #[.int .i64 i]
  have xi := xi.under h4
  have b4 := (blo3 b2 (Nat.le_refl _) (.cells #[.int .i64 i] 3)).trans (h4.mono (blo3 b2 (Nat.le_refl _) (.cells #[.int .i64 i] 3)).size)
  generalize w2.heap.size = G10 at *
  clear h4 hp4 b2 s4
  rw [hszL.out]
  go_wp2_with fail
  obtain ⟨w5, G13, hw5, e5, x13, b5, l5⟩ := allocs1 w4 [.slice ar n cr] 52
  have xi := xi.under b5
  have b5 := b4.trans (b5.mono b4.size)
  rw [← hw5, ← e5]
  clear hw5 e5 b4
  have qi := xi.at_ (j := 0) rfl
  have qs := x13.at_ (j := 0) rfl
  have b5N : Hid (∀ j, Below w.heap.size w (w5.drewN j)) := hide (fun j => belowN b5 j)
  clear xi x13 b5
  by_cases hi0 : i < 0
  · have d5 : decide (i < 0) = true := decide_eq_true hi0
    go_quiet (fail)
    go_wp2_with fail
    go_ret2
    exact ⟨rfl, b5N.out _⟩
  · have d5 : decide (i < 0) = false := decide_eq_false hi0
    by_cases hi1 : (2 : Int) ^ H ≤ i
    · have d6 : decide (wrap64 ((2 : Int) ^ H) ≤ i) = true := by rw [HW2.out]; exact decide_eq_true hi1
      have d7 : decide ((2 : Int) ^ H ≤ i) = true := decide_eq_true hi1
      have d8 : wrap64 ((2 : Int) ^ H) ≤ i := by rw [HW2.out]; exact hi1
      go_quiet (fail)
      go_wp2_with fail
      go_ret2
      exact ⟨rfl, b5N.out _⟩
    · have d6 : decide (wrap64 ((2 : Int) ^ H) ≤ i) = false := by rw [HW2.out]; exact decide_eq_false hi1
      have d7 : decide ((2 : Int) ^ H ≤ i) = false := decide_eq_false hi1
      have d8 : ¬ wrap64 ((2 : Int) ^ H) ≤ i := by rw [HW2.out]; exact hi1
      have hne : ¬ n = (68 + H) * 16 := fun e => HBAD.out ⟨by omega, by omega, e⟩
      have d9 : ((n : Int) != (68 + (H : Int)) * 16) = true := by
        have : ¬ (n : Int) = (68 + (H : Int)) * 16 := by omega
        simp [this]
      have d10 : ¬ (n : Int) = (68 + (H : Int)) * 16 := by omega
      clear hne
      go_quiet (fail)
      go_wp2_with fail
      go_ret2
      exact ⟨rfl, b5N.out _⟩
end Go.Proofs.YtblgmjnkllkhbaaDoor
end

/- the text S28 -/
section
/- Chapter 03: Verify as one function, both sides. -/
set_option linter.unusedVariables false
namespace Go.Proofs.YtblgmjnkllkhbaaDoor
open Go.RowKit Go.Dx
set_option maxRecDepth 100000 in
set_option maxHeartbeats 2000000 in
theorem ref_Verify_arg (p : List UInt8) (h : Int) (m S : ByteArray) (hb : ¬ (0 ≤ h ∧ h ≤ 6)) (w : World) :
    Calls Tryd.prog 19 #[.agg (p.map B8).toArray, .int .i64 h, .string m, .string S] w fun e w' => e = .returned (.tuple #[.int .i64 0, .int .i64 1]) ∧ Below w.heap.size w w' := by
  have b1 := sblo w (.cells (p.map B8).toArray 23)
  by_cases h0 : h < 0
  · have d0 : decide (h < 0) = true := decide_eq_true h0
    clear hb
    go_enter Tryd.func19, Tryd.ntmps19
    go_wp2_with fail
    go_ret2
    exact ⟨rfl, b1⟩
  · have d0 : decide (h < 0) = false := decide_eq_false h0
    have d1 : decide (6 < h) = true := decide_eq_true (by omega)
    clear hb
    go_enter Tryd.func19, Tryd.ntmps19
    go_wp2_with fail
    go_ret2
    exact ⟨rfl, b1⟩
set_option maxRecDepth 100000 in
set_option maxHeartbeats 2000000 in
theorem ref_Verify_dec (p : List UInt8) (h : Int) (m S : ByteArray) (h0 : 0 ≤ h) (h6 : h ≤ 6) (hm : m.size ≤ 10000) (hS : S.size ≤ 100000) (E : Int) (hE : E ≠ 0) (hdec : decInt S.data.toList = (0, 0, E)) (w : World) :
    Calls Tryd.prog 19 #[.agg (p.map B8).toArray, .int .i64 h, .string m, .string S] w fun e w' => e = .returned (.tuple #[.int .i64 0, .int .i64 E]) ∧ Below w.heap.size w w' := by
  have hm' : (m.size : Int) ≤ 1048576 := by omega
  have d2 : decide ((1048576 : Int) < m.size) = false := decide_eq_false (by omega)
  have d4 : (E != 0) = true := by simp [hE]
  have d6 : decide (h < 0) = false := decide_eq_false (by omega)
  have d7 : decide (6 < h) = false := decide_eq_false (by omega)
  have HDEC := hide hdec
  have b1 := sblo w (.cells (p.map B8).toArray 23)
  clear hdec h0 h6
  go_enter Tryd.func19, Tryd.ntmps19
  go_wp2_with (with_reducible refine to_bytes 33 _ S rfl (by unfold maxLen; omega) ?_; intro a2 c2 w2 hs2 h2 hp2; refine shold ?_)
  refine hide ?_
  have b2 := b1.trans (h2.mono b1.size)
  clear h2 hp2 b1
  go_wp2_with fail
  have HG := ref_GetInt _ _ _ _ _ hs2
  rw [HDEC.out] at HG
  refine HG.mono ?_
  rintro e w3 ⟨rfl, h3⟩
  have b3 := b2.trans (h3.mono b2.size)
  clear h3 HG hs2 b2
  go_wp2_with fail
  go_ret2
  exact ⟨rfl, b3⟩
set_option maxRecDepth 100000 in
set_option maxHeartbeats 2000000 in
theorem ref_Verify_form (p : List UInt8) (h : Int) (m S : ByteArray) (h0 : 0 ≤ h) (h6 : h ≤ 6) (hm : m.size ≤ 10000) (hS : S.size ≤ 100000) (i : Int) (k : Nat) (hdec : decInt S.data.toList = (i, (k : Int), 0)) (hk : k ≤ S.size)
    (hir : -9223372036854775808 ≤ i ∧ i ≤ 9223372036854775807) (hbad : ¬ (0 ≤ i ∧ i < 2 ^ h.toNat ∧ S.size - k = (68 + h.toNat) * 16)) (w : World) :
    Calls Tryd.prog 19 #[.agg (p.map B8).toArray, .int .i64 h, .string m, .string S] w fun e w' => e = .returned (.tuple #[.int .i64 0, .int .i64 2]) ∧ Below w.heap.size w w' := by
  obtain ⟨H, rfl⟩ : ∃ H : Nat, h = (H : Int) := ⟨h.toNat, by omega⟩
  rw [Int.toNat_natCast] at hbad
  have hH : H ≤ 6 := by omega
  have hp2 : (2 : Int) ^ H ≤ 64 := by rcases (by omega : H = 0 ∨ H = 1 ∨ H = 2 ∨ H = 3 ∨ H = 4 ∨ H = 5 ∨ H = 6) with rfl | rfl | rfl | rfl | rfl | rfl | rfl <;> decide
  have hw2 : wrap64 ((2 : Int) ^ H) = 2 ^ H := by
    have hp1 : (0 : Int) < 2 ^ H := Int.pow_pos (by decide)
    generalize (2 : Int) ^ H = q at *
    unfold wrap64
    omega
  have HW2 := hide hw2
  clear hp2 hw2
  have d11 : decide ((H : Int) < 0) = false := decide_eq_false (by omega)
  have d12 : decide (6 < (H : Int)) = false := decide_eq_false (by omega)
  have d13 : decide (6 < H) = false := decide_eq_false (by omega)
  have hm' : (m.size : Int) ≤ 1048576 := by omega
  have d2 : decide ((1048576 : Int) < m.size) = false := decide_eq_false (by omega)
  have HDEC := hide hdec
  have hSl : S.data.toList.length = S.size := Array.length_toList
  have HBAD := hide hbad
  have HIR := hide hir
  clear h0 h6 hdec hbad hir
  obtain ⟨L, HLr⟩ : ∃ L, Hid (S.data.toList.drop k = L) := ⟨_, rfl⟩
  obtain ⟨n, hn⟩ : ∃ n, Hid (S.size - k = n) := ⟨_, rfl⟩
  have hLl : Hid (L.length = n) := hide (by rw [← HLr.out, List.length_drop, hSl]; exact hn.out)
  obtain ⟨X, hXX⟩ : ∃ X : ByteArray, Hid (byB L = X) := ⟨_, rfl⟩
  have HX : Hid (S.extract k S.size = X) := hide (by have := byB_drop S.data.toList k; rw [byB_of, HLr.out, hXX.out] at this; exact this)
  have hszL : Hid (X.size = n) := hide (by rw [← hXX.out, byB_size]; exact hLl.out)
  have hn6 : n ≤ 100000 := by rw [← hn.out]; omega
  rw [hn.out] at HBAD
  have b1 := sblo w (.cells (p.map B8).toArray 23)
  clear hSl
  go_enter Tryd.func19, Tryd.ntmps19
  go_wp2_with (with_reducible refine to_bytes 33 _ S rfl (by unfold maxLen; omega) ?_; intro a2 c2 w2 hs2 h2 hp2; refine shold ?_)
  refine hide ?_
  have b2 := b1.trans (h2.mono b1.size)
  clear h2 hp2 b1
  go_wp2_with fail
  have HG := ref_GetInt _ _ _ _ _ hs2
  rw [HDEC.out] at HG
  refine HG.mono ?_
  rintro e w3 ⟨rfl, h3⟩
  have b3 := b2.trans (h3.mono b2.size)
  clear h3 HG hs2 b2
  go_upto_region 9 with (with_reducible refine str_lo 43 9 Tryd.underlying9 _ _ S X .i64 k rfl rfl hk HX.out ?_)
  by_cases hi0 : i < 0
  · have d5 : decide (i < 0) = true := decide_eq_true hi0
    go_wp2_with fail
    go_ret2
    exact ⟨rfl, b3⟩
  · have d5 : decide (i < 0) = false := decide_eq_false hi0
    by_cases hi1 : (2 : Int) ^ H ≤ i
    · have d6 : decide (wrap64 ((2 : Int) ^ H) ≤ i) = true := by rw [HW2.out]; exact decide_eq_true hi1
      have d7 : decide ((2 : Int) ^ H ≤ i) = true := decide_eq_true hi1
      have d8 : wrap64 ((2 : Int) ^ H) ≤ i := by rw [HW2.out]; exact hi1
      go_wp2_with fail
      go_ret2
      exact ⟨rfl, b3⟩
    · have d6 : decide (wrap64 ((2 : Int) ^ H) ≤ i) = false := by rw [HW2.out]; exact decide_eq_false hi1
      have d7 : decide ((2 : Int) ^ H ≤ i) = false := decide_eq_false hi1
      have d8 : ¬ wrap64 ((2 : Int) ^ H) ≤ i := by rw [HW2.out]; exact hi1
      have hne : ¬ n = (68 + H) * 16 := fun e => HBAD.out ⟨by omega, by omega, e⟩
      have d9 : ((X.size : Int) != (68 + (H : Int)) * 16) = true := by
        have : ¬ (X.size : Int) = (68 + (H : Int)) * 16 := by rw [hszL.out]; omega
        simp [this]
      have d10 : ¬ (X.size : Int) = (68 + (H : Int)) * 16 := by rw [hszL.out]; omega
      clear hne
      go_wp2_with fail
      go_ret2
      exact ⟨rfl, b3⟩
/-- what Verify returns -/
def verZ (p : List UInt8) (h : Int) (m : ByteArray) (S : List UInt8) : Int × Int :=
  if 0 ≤ h ∧ h ≤ 6 then
    if (decInt S).2.2 = 0 then
      if 0 ≤ (decInt S).1 ∧ (decInt S).1 < 2 ^ h.toNat ∧ S.length - (decInt S).2.1.toNat = (68 + h.toNat) * 16 then
        if rootV (S.drop (decInt S).2.1.toNat) p (decInt S).1 h.toNat m = p then ((decInt S).1, 0) else (0, 10)
      else (0, 2)
    else (0, (decInt S).2.2)
  else (0, 1)
theorem dec_cases (S : ByteArray) : ((decInt S.data.toList).2.2 ≠ 0 ∧ decInt S.data.toList = (0, 0, (decInt S.data.toList).2.2)) ∨ ∃ i k, decInt S.data.toList = (i, ((k : Nat) : Int), 0) ∧ k ≤ S.size ∧ -9223372036854775808 ≤ i ∧ i ≤ 9223372036854775807 := by
  by_cases h : (decInt S.data.toList).2.2 = 0
  · right
    obtain ⟨h1, h2, h3, h4⟩ := decInt_used h
    have hl : S.data.toList.length = S.size := Array.length_toList
    rw [hl] at h2
    generalize decInt S.data.toList = d at *
    obtain ⟨i, k, e⟩ := d
    simp only at h h1 h2 h3 h4
    subst h
    exact ⟨i, k.toNat, by rw [Int.toNat_of_nonneg (by omega)], by omega, h3, h4⟩
  · exact .inl ⟨h, decInt_err h⟩
theorem sg_Verify (p : List UInt8) (hp : p.length = 16) (h : Int) (m S : ByteArray) (hm : m.size ≤ 10000) (hS : S.size ≤ 100000) {r : Int × Int} (hr : verZ p h m S.data.toList = r) (w : World) (hL : Laid w) :
    Calls Tryd.prog 18 #[.agg (p.map B8).toArray, .int .i64 h, .string m, .string S] w fun e w' => e = .returned (.tuple #[.int .i64 r.1, .int .i64 r.2]) ∧ Below w.heap.size w w' := by
  subst hr
  have hl : S.data.toList.length = S.size := Array.length_toList
  unfold verZ
  by_cases hh : 0 ≤ h ∧ h ≤ 6
  · rw [if_pos hh]
    rcases dec_cases S with ⟨hE, hd⟩ | ⟨i, k, hd, hk, h3, h4⟩
    · rw [if_neg hE]
      exact sg_Verify_dec p h m S hh.1 hh.2 hm hS _ hE hd w
    · rw [hd, hl]
      simp only [if_true, Int.toNat_natCast]
      by_cases hf : 0 ≤ i ∧ i < 2 ^ h.toNat ∧ S.size - k = (68 + h.toNat) * 16
      · rw [if_pos hf]
        exact sg_Verify_fit p hp h m S hh.1 hh.2 hm hS i k hd hk hf.1 hf.2.1 hf.2.2 rfl w hL
      · rw [if_neg hf]
        exact sg_Verify_form p h m S hh.1 hh.2 hm hS i k hd hk ⟨h3, h4⟩ hf w
  · rw [if_neg hh]
    exact sg_Verify_arg p h m S hh w
theorem ref_Verify (p : List UInt8) (hp : p.length = 16) (h : Int) (m S : ByteArray) (hm : m.size ≤ 10000) (hS : S.size ≤ 100000) {r : Int × Int} (hr : verZ p h m S.data.toList = r) (w : World) (hL : LaidR w) :
    Calls Tryd.prog 19 #[.agg (p.map B8).toArray, .int .i64 h, .string m, .string S] w fun e w' => e = .returned (.tuple #[.int .i64 r.1, .int .i64 r.2]) ∧ Below w.heap.size w w' := by
  subst hr
  have hl : S.data.toList.length = S.size := Array.length_toList
  unfold verZ
  by_cases hh : 0 ≤ h ∧ h ≤ 6
  · rw [if_pos hh]
    rcases dec_cases S with ⟨hE, hd⟩ | ⟨i, k, hd, hk, h3, h4⟩
    · rw [if_neg hE]
      exact ref_Verify_dec p h m S hh.1 hh.2 hm hS _ hE hd w
    · rw [hd, hl]
      simp only [if_true, Int.toNat_natCast]
      by_cases hf : 0 ≤ i ∧ i < 2 ^ h.toNat ∧ S.size - k = (68 + h.toNat) * 16
      · rw [if_pos hf]
        exact ref_Verify_fit p hp h m S hh.1 hh.2 hm hS i k hd hk hf.1 hf.2.1 hf.2.2 rfl w hL
      · rw [if_neg hf]
        exact ref_Verify_form p h m S hh.1 hh.2 hm hS i k hd hk ⟨h3, h4⟩ hf w
  · rw [if_neg hh]
    exact ref_Verify_arg p h m S hh w
end Go.Proofs.YtblgmjnkllkhbaaDoor
end

/- the text S29 -/
section
/- Chapter 03: Public and Sign as one function, both sides. -/
set_option linter.unusedVariables false
namespace Go.Proofs.YtblgmjnkllkhbaaDoor
open Go.RowKit Go.Dx
set_option maxRecDepth 100000 in
set_option maxHeartbeats 2000000 in
theorem ref_Sign_arg (s : ByteArray) (h i : Int) (m : ByteArray) (hb : ¬ (s.size = 32 ∧ 0 ≤ h ∧ h ≤ 6)) (w : World) :
    Calls Tryd.prog 15 #[.string s, .int .i64 h, .int .i64 i, .string m] w fun e w' => e = .returned (.tuple #[.string ⟨#[]⟩, .int .i64 1]) ∧ w = w' := by
  have hfit := hide (ref_fits s h (v := false) (by
    cases h1 : (decide (s.size = 32) && (decide (0 ≤ h) && decide (h ≤ 6)))
    · rfl
    · simp only [Bool.and_eq_true, decide_eq_true_eq] at h1
      exact absurd ⟨h1.1, h1.2.1, h1.2.2⟩ hb))
  clear hb
  go_enter Tryd.func15, Tryd.ntmps15
  go_wp2_with fail
  refine (hfit.out _).mono ?_
  rintro e w1' ⟨rfl, rfl⟩
  go_wp2_with fail
  go_ret2
  exact ⟨rfl, rfl⟩
set_option maxRecDepth 100000 in
set_option maxHeartbeats 2000000 in
theorem ref_Sign_spent (s : ByteArray) (h i : Int) (m : ByteArray) (h32 : s.size = 32) (h0 : 0 ≤ h) (h6 : h ≤ 6) (hi : ¬ (0 ≤ i ∧ i < 2 ^ h.toNat)) (w : World) :
    Calls Tryd.prog 15 #[.string s, .int .i64 h, .int .i64 i, .string m] w fun e w' => e = .returned (.tuple #[.string ⟨#[]⟩, .int .i64 27]) ∧ w = w' := by
  have hfit := hide (ref_fits s h (v := true) (by rw [decide_eq_true h32, decide_eq_true h0, decide_eq_true h6]; rfl))
  obtain ⟨H, rfl⟩ : ∃ H : Nat, h = (H : Int) := ⟨h.toNat, by omega⟩
  rw [Int.toNat_natCast] at hi
  have hp2 : (2 : Int) ^ H ≤ 64 := by rcases (by omega : H = 0 ∨ H = 1 ∨ H = 2 ∨ H = 3 ∨ H = 4 ∨ H = 5 ∨ H = 6) with rfl | rfl | rfl | rfl | rfl | rfl | rfl <;> decide
  have hw2 : wrap64 ((2 : Int) ^ H) = 2 ^ H := by
    have hp1 : (0 : Int) < 2 ^ H := Int.pow_pos (by decide)
    generalize (2 : Int) ^ H = p at *
    unfold wrap64
    omega
  have hH : H ≤ 6 := by omega
  by_cases hn : i < 0
  · have d1 : decide (i < 0) = true := decide_eq_true hn
    clear hw2 hp2 hi h0 h6 h32
    go_enter Tryd.func15, Tryd.ntmps15
    go_wp2_with fail
    refine (hfit.out _).mono ?_
    rintro e w1' ⟨rfl, rfl⟩
    go_wp2_with fail
    go_ret2
    exact ⟨rfl, rfl⟩
  · have d1 : decide (i < 0) = false := decide_eq_false hn
    have d5 : (2 : Int) ^ H ≤ i := by omega
    have d6 : decide ((2 : Int) ^ H ≤ i) = true := decide_eq_true d5
    have d4 : wrap64 ((2 : Int) ^ H) ≤ i := by rw [hw2]; omega
    have d3 : decide (wrap64 ((2 : Int) ^ H) ≤ i) = true := decide_eq_true d4
    clear hw2 hp2 hi h0 h6 h32
    go_enter Tryd.func15, Tryd.ntmps15
    go_wp2_with fail
    refine (hfit.out _).mono ?_
    rintro e w1' ⟨rfl, rfl⟩
    go_wp2_with fail
    go_ret2
    exact ⟨rfl, rfl⟩
/-- what Public returns -/
def pubZ (s : ByteArray) (h : Int) : List UInt8 × Int := if s.size = 32 ∧ 0 ≤ h ∧ h ≤ 6 then (treeL s.data.toList h.toNat 0, 0) else (zero16, 1)
theorem pubZ_len (s : ByteArray) (h : Int) : (pubZ s h).1.length = 16 := by
  unfold pubZ
  split
  · exact treeL_len _ _ _
  · rfl
/-- what Sign returns -/
def signZ (s : ByteArray) (h i : Int) (m : ByteArray) : List UInt8 × Int := if s.size = 32 ∧ 0 ≤ h ∧ h ≤ 6 then (if 0 ≤ i ∧ i < 2 ^ h.toNat then (signL s.data.toList h.toNat i m, 0) else ([], 27)) else ([], 1)
theorem sg_Public_all (s : ByteArray) (h : Int) (hs : s.size ≤ 9223372036854775807) {r : List UInt8 × Int} (hr : pubZ s h = r) (w : World) (hL : Laid w) :
    Calls Tryd.prog 12 #[.string s, .int .i64 h] w fun e w' => e = .returned (.tuple #[.agg (r.1.map B8).toArray, .int .i64 r.2]) ∧ Below w.heap.size w w' := by
  subst hr
  unfold pubZ
  by_cases hb : s.size = 32 ∧ 0 ≤ h ∧ h ≤ 6
  · rw [if_pos hb]; exact sg_Public s h hb.1 hb.2.1 hb.2.2 rfl w hL
  · rw [if_neg hb]; exact sg_Public_bad s h hb hs w
theorem ref_Public_all (s : ByteArray) (h : Int) {r : List UInt8 × Int} (hr : pubZ s h = r) (w : World) (hL : LaidR w) :
    Calls Tryd.prog 13 #[.string s, .int .i64 h] w fun e w' => e = .returned (.tuple #[.agg (r.1.map B8).toArray, .int .i64 r.2]) ∧ Below w.heap.size w w' := by
  subst hr
  unfold pubZ
  by_cases hb : s.size = 32 ∧ 0 ≤ h ∧ h ≤ 6
  · rw [if_pos hb]; exact ref_Public s h hb.1 hb.2.1 hb.2.2 rfl w hL
  · rw [if_neg hb]; exact ref_Public_bad s h hb w
theorem sg_Sign_all (s : ByteArray) (h i : Int) (m : ByteArray) (hm : m.size ≤ 10000) {r : List UInt8 × Int} (hr : signZ s h i m = r) (w : World) (hL : Laid w) :
    Calls Tryd.prog 14 #[.string s, .int .i64 h, .int .i64 i, .string m] w fun e w' => e = .returned (.tuple #[.string ⟨r.1.toArray⟩, .int .i64 r.2]) ∧ Below w.heap.size w w' := by
  subst hr
  unfold signZ
  by_cases hb : s.size = 32 ∧ 0 ≤ h ∧ h ≤ 6
  · rw [if_pos hb]
    by_cases hi : 0 ≤ i ∧ i < 2 ^ h.toNat
    · rw [if_pos hi]; exact sg_Sign s h i m hb.1 hb.2.1 hb.2.2 hi.1 hi.2 hm rfl w hL
    · rw [if_neg hi]
      refine (sg_Sign_spent s h i m hb.1 hb.2.1 hb.2.2 (by omega) w).mono ?_
      rintro e w' ⟨rfl, rfl⟩
      exact ⟨rfl, Below.refl _ _⟩
  · rw [if_neg hb]
    refine (sg_Sign_arg s h i m hb w).mono ?_
    rintro e w' ⟨rfl, rfl⟩
    exact ⟨rfl, Below.refl _ _⟩
theorem ref_Sign_all (s : ByteArray) (h i : Int) (m : ByteArray) (hm : m.size ≤ 10000) {r : List UInt8 × Int} (hr : signZ s h i m = r) (w : World) (hL : LaidR w) :
    Calls Tryd.prog 15 #[.string s, .int .i64 h, .int .i64 i, .string m] w fun e w' => e = .returned (.tuple #[.string ⟨r.1.toArray⟩, .int .i64 r.2]) ∧ Below w.heap.size w w' := by
  subst hr
  unfold signZ
  by_cases hb : s.size = 32 ∧ 0 ≤ h ∧ h ≤ 6
  · rw [if_pos hb]
    by_cases hi : 0 ≤ i ∧ i < 2 ^ h.toNat
    · rw [if_pos hi]; exact ref_Sign s h i m hb.1 hb.2.1 hb.2.2 hi.1 hi.2 hm rfl w hL
    · rw [if_neg hi]
      refine (ref_Sign_spent s h i m hb.1 hb.2.1 hb.2.2 hi w).mono ?_
      rintro e w' ⟨rfl, rfl⟩
      exact ⟨rfl, Below.refl _ _⟩
  · rw [if_neg hb]
    refine (ref_Sign_arg s h i m hb w).mono ?_
    rintro e w' ⟨rfl, rfl⟩
    exact ⟨rfl, Below.refl _ _⟩
end Go.Proofs.YtblgmjnkllkhbaaDoor
end

/- the text S30 -/
section
/- Chapter 03, plain: what Verify returns for an encoded index and a body. No program in sight. -/
set_option linter.unusedVariables false
namespace Go.Proofs.YtblgmjnkllkhbaaDoor
open Go.RowKit Go.Dx
theorem verZ_enc (p : List UInt8) (H : Nat) (hH : H ≤ 6) (m : ByteArray) (i : Int) (hi0 : 0 ≤ i) (hi1 : i < 2 ^ H) (body : List UInt8) :
    verZ p (H : Int) m (encInt i ++ body) = if body.length = (68 + H) * 16 then (if rootV body p i H m = p then (i, 0) else (0, 10)) else (0, 2) := by
  have hp2 : (2 : Int) ^ H ≤ 64 := by rcases (by omega : H = 0 ∨ H = 1 ∨ H = 2 ∨ H = 3 ∨ H = 4 ∨ H = 5 ∨ H = 6) with rfl | rfl | rfl | rfl | rfl | rfl | rfl <;> decide
  have hd := decInt_enc (n := i) (by omega) (by omega) body
  unfold verZ
  rw [if_pos (by omega), hd]
  simp only [Int.toNat_natCast, if_true]
  have hl : (encInt i ++ body).length - (encInt i).length = body.length := by rw [List.length_append]; omega
  rw [hl, List.drop_left]
  by_cases hb : body.length = (68 + H) * 16
  · rw [if_pos hb, if_pos ⟨hi0, hi1, hb⟩]
  · rw [if_neg hb, if_neg (fun h => hb h.2.2)]
/-- a signature's body -/
def bodyL (s : List UInt8) (H : Nat) (i : Int) (m : ByteArray) : List UInt8 := chainsL s i (msgD (treeL s H 0) i m) ++ pathL s i H
theorem bodyL_len (s : List UInt8) (H : Nat) (i : Int) (m : ByteArray) : (bodyL s H i m).length = (68 + H) * 16 := by
  unfold bodyL chainsL pathL
  rw [List.length_append, catL_len (fun j => advL_len _ _ _ _ (startL_len _ _ _)), catL_len (fun j => treeL_len _ _ _), Nat.add_mul]
theorem signL_eq (s : List UInt8) (H : Nat) (i : Int) (m : ByteArray) : signL s H i m = encInt i ++ bodyL s H i m := by unfold signL bodyL; rw [List.append_assoc]
theorem ver_ok (s : List UInt8) (H : Nat) (hH : H ≤ 6) (m : ByteArray) (i : Int) (hi0 : 0 ≤ i) (hi1 : i < 2 ^ H) : verZ (treeL s H 0) (H : Int) m (encInt i ++ bodyL s H i m) = (i, 0) := by
  rw [verZ_enc _ H hH m i hi0 hi1, if_pos (bodyL_len _ _ _ _), if_pos]
  unfold bodyL
  exact accept s i H hi0 hi1 m _ rfl
theorem ver_long (p s : List UInt8) (H : Nat) (hH : H ≤ 6) (m : ByteArray) (i : Int) (hi0 : 0 ≤ i) (hi1 : i < 2 ^ H) : verZ p (H : Int) m (encInt i ++ bodyL s H i m ++ [120]) = (0, 2) := by
  rw [List.append_assoc, verZ_enc _ H hH m i hi0 hi1, if_neg]
  rw [List.length_append, bodyL_len]
  simp
theorem ver_less (p s : List UInt8) (H : Nat) (hH : H ≤ 6) (m : ByteArray) (i : Int) (hi0 : 0 ≤ i) (hi1 : i < 2 ^ H) {n : Nat} (hn : (encInt i ++ bodyL s H i m).length = n) : verZ p (H : Int) m ((encInt i ++ bodyL s H i m).take (n - 1)) = (0, 2) := by
  have hb := bodyL_len s H i m
  have e : (encInt i ++ bodyL s H i m).take (n - 1) = encInt i ++ (bodyL s H i m).take (n - 1 - (encInt i).length) := by
    rw [List.take_append, List.take_of_length_le (by rw [← hn, List.length_append, hb]; omega)]
  rw [e, verZ_enc _ H hH m i hi0 hi1, if_neg]
  rw [List.length_take, hb, ← hn, List.length_append, hb]
  omega
end Go.Proofs.YtblgmjnkllkhbaaDoor
end

/- the text SL5 -/
section
/- Chapter 03: the walk of SignIsAccepted. -/
set_option linter.unusedVariables false
namespace Go.Proofs.YtblgmjnkllkhbaaDoor
open Go.RowKit Go.Dx Go.WideShapes Go.ChangeShapes
theorem u8_ofS {z : Int} (hz : (Lit.int .u8 z).wf = true) : ∃ u : UInt8, z = (u.toNat : Int) := by
  have hb : 0 ≤ z ∧ z ≤ 255 := bounds_u8 hz
  refine ⟨UInt8.ofNat z.toNat, ?_⟩
  rw [UInt8.toNat_ofNat']; omega
theorem law_seed_at {c : UInt8} {S : ByteArray} (h : (⟨(List.replicate 32 c).toArray⟩ : ByteArray) = S) (w : World) :
    Calls Tryd.prog 20 #[.int .u8 (c.toNat : Int)] w fun e w' => e = .returned (.string S) ∧ Below w.heap.size w w' := by subst h; exact law_seed c w
theorem str_hi_z {P : Program} {w : World} {ops : Array Oper} {rest : List Oper} {act : Act} {Q : Exit → Act → World → Prop} {ty : TypeId} {pos : String} {after : Array Edge} (d : Nat) (t : TypeId) (ht : P.underlying t = some .string) (x hi : Operand) (s r : ByteArray) (k : IntKind) (n : Nat) (z : Int) (hz : z = (n : Int)) (hx : act.eval x = .string s) (hh : act.eval hi = .int k z) (hn : n ≤ s.size) (hr : s.extract 0 n = r)
    (hK : wpList P ops Q rest (act.put (some d) (.string r)) w) :
    wpList P ops Q ({ dst := some d, op := .slice t x none (some hi) none, type := ty, pos := pos, after := after, guard := none } :: rest) act w := by
  subst hz
  exact str_hi d t ht x hi s r k n hx hh hn hr hK
set_option maxRecDepth 100000 in
set_option maxHeartbeats 4000000 in
theorem walk_Accepted (zc zt zk : Int) (m : ByteArray) (hc : (Lit.int .u8 zc).wf = true) (ht : (Lit.int .u8 zt).wf = true) (hk : (Lit.int .u8 zk).wf = true) (hm : m.size ≤ reachBytes) (w : World) (hL : Laid w) :
    Calls Tryd.prog 6 #[.int .u8 zc, .int .u8 zt, .int .u8 zk, .string m] w fun e w' => e = .returned (.bool true) ∧ Below w.heap.size w w' := by
  obtain ⟨c, rfl⟩ := u8_ofS hc
  obtain ⟨tb, rfl⟩ := u8_ofS ht
  obtain ⟨kb, rfl⟩ := u8_ofS hk
  have hT := UInt8.toNat_lt tb
  have hK := UInt8.toNat_lt kb
  generalize tb.toNat = T at *
  generalize kb.toNat = K at *
  unfold reachBytes at hm
  clear hc ht hk
  by_cases a1 : 200 < m.size
  · have d1 : decide ((200 : Int) < m.size) = true := decide_eq_true (by omega)
    have hL := hide hL
    go_enter Tryd.func6, Tryd.ntmps6
    go_wp2_with fail
    refine (law3_sanity w hL.out).mono ?_
    rintro e w1 ⟨rfl, b1⟩

    go_wp2_with fail
    go_ret
    exact ⟨rfl, b1⟩
  · have d1 : decide ((200 : Int) < m.size) = false := decide_eq_false (by omega)
    have hL := hide hL
    have hT3 : T % 3 ≤ 2 := by omega
    obtain ⟨H, hH⟩ : ∃ H, T % 3 = H := ⟨_, rfl⟩
    rw [hH] at hT3
    have hTH : (T : Int) % 3 = (H : Int) := by omega
    have hTm : (T : Int).tmod 3 = (H : Int) := by rw [Int.tmod_eq_emod_of_nonneg (by omega)]; exact hTH
    obtain ⟨N, hN⟩ : ∃ N : Nat, Hid (2 ^ H = N) := ⟨_, rfl⟩
    have hN1 : 1 ≤ N ∧ N ≤ 4 := by rw [← hN.out]; rcases (by omega : H = 0 ∨ H = 1 ∨ H = 2) with h | h | h <;> rw [h] <;> decide
    have hpw : ((2 : Int) ^ H) = (N : Int) := by rw [← hN.out]; norm_cast
    have hwr : wrap64 ((2 : Int) ^ H) = (N : Int) := by rw [hpw]; unfold wrap64; omega
    have hwr2 : wrap64 (N : Int) = (N : Int) := by unfold wrap64; omega
    obtain ⟨I, hI⟩ : ∃ I, K % N = I := ⟨_, rfl⟩
    have hIN : I < N := by rw [← hI]; exact Nat.mod_lt _ (by omega)
    have hIe : (K : Int) % (N : Int) = (I : Int) := by rw [← hI]; norm_cast
    have hIt : (K : Int).tmod (N : Int) = (I : Int) := by rw [Int.tmod_eq_emod_of_nonneg (by omega)]; exact hIe
    obtain ⟨S, HS⟩ : ∃ S, Hid ((⟨(List.replicate 32 c).toArray⟩ : ByteArray) = S) := ⟨_, rfl⟩
    have hS32 : Hid (S.size = 32) := hide (by rw [← HS.out]; show (byB (List.replicate 32 c)).size = 32; rw [byB_size, List.length_replicate])
    have hSd := hide (law_seed_at HS.out)
    obtain ⟨P, HP⟩ : ∃ P, Hid (treeL S.data.toList H 0 = P) := ⟨_, rfl⟩
    have hPl : Hid (P.length = 16) := hide (by rw [← HP.out]; exact treeL_len _ _ _)
    have HP2 : Hid (treeL S.data.toList (H : Int).toNat 0 = P) := hide (by rw [Int.toNat_natCast]; exact HP.out)
    obtain ⟨Z, hZ⟩ : ∃ Z, Hid (zero16 = Z) := ⟨_, rfl⟩
    have h16 := zero_16
    rw [hZ.out] at h16
    have hZl : Hid (Z.length = 16) := hide (by rw [← hZ.out]; rfl)
    have hzP : Hid ((Tryd.prog.info? 23).map (·.size) = some (P.map B8).length) := hide (by rw [List.length_map, hPl.out]; exact size_dig')
    obtain ⟨R, HR⟩ : ∃ R, Hid (signL S.data.toList (H : Int).toNat (I : Int) m = R) := ⟨_, rfl⟩
    have HRe : Hid (R = encInt (I : Int) ++ bodyL S.data.toList H (I : Int) m) := hide (by rw [← HR.out, Int.toNat_natCast, signL_eq])
    have hIp : (I : Int) < 2 ^ H := by rw [hpw]; omega
    obtain ⟨n, hn⟩ : ∃ n, Hid (R.length = n) := ⟨_, rfl⟩
    have hn2 : 1088 ≤ n ∧ n ≤ 1200 := by
      have h1 := encInt_le (I : Int)
      have h2 := encInt_pos (I : Int)
      rw [← hn.out, HRe.out, List.length_append, bodyL_len]
      omega
    obtain ⟨SB, HSB⟩ : ∃ B : ByteArray, Hid (byB R = B) := ⟨_, rfl⟩
    obtain ⟨SX, HSX⟩ : ∃ B : ByteArray, Hid (byB (R ++ ([120] : List UInt8)) = B) := ⟨_, rfl⟩
    obtain ⟨SL, HSL⟩ : ∃ B : ByteArray, Hid (byB (R.take (n - 1)) = B) := ⟨_, rfl⟩
    have hSBn : Hid (SB.size = n) := hide (by rw [← HSB.out, byB_size]; exact hn.out)
    have hSX1 : Hid (SB ++ ⟨#[120]⟩ = SX) := hide (by rw [← HSB.out, ← HSX.out]; exact byB_append R [120])
    have hSX2 : Hid (SB.size + (⟨#[120]⟩ : ByteArray).size ≤ 9223372036854775807) := hide (by rw [hSBn.out]; show n + 1 ≤ _; omega)
    have hSX3 : Hid (SX.size ≤ 100000) := hide (by rw [← HSX.out, byB_size, List.length_append, hn.out]; show n + 1 ≤ _; omega)
    have hSL1 : Hid (n - 1 ≤ SB.size) := hide (by rw [hSBn.out]; omega)
    have hSL2 : Hid (SB.extract 0 (n - 1) = SL) := hide (by rw [← HSB.out, ← HSL.out]; exact byB_take R (n - 1))
    have hSL3 : Hid (SL.size ≤ 100000) := hide (by rw [← HSL.out, byB_size, List.length_take]; omega)
    have hSB3 : Hid (SB.size ≤ 100000) := hide (by rw [hSBn.out]; omega)
    have hVok : Hid (verZ P (H : Int) m SB.data.toList = ((I : Int), (0 : Int))) := hide (by
      rw [← HSB.out, byB_data, HRe.out, ← HP.out]
      exact ver_ok S.data.toList H (by omega) m I (by omega) hIp)
    have hVlong : Hid (verZ P (H : Int) m SX.data.toList = ((0 : Int), (2 : Int))) := hide (by
      rw [← HSX.out, byB_data, HRe.out]
      exact ver_long P S.data.toList H (by omega) m I (by omega) hIp)
    have hVless : Hid (verZ P (H : Int) m SL.data.toList = ((0 : Int), (2 : Int))) := hide (by
      have hn' := hn.out
      rw [HRe.out] at hn'
      rw [← HSL.out, byB_data, HRe.out]
      exact ver_less P S.data.toList H (by omega) m I (by omega) hIp hn')
    have hm2 : m.size ≤ 10000 := by omega
    have hRR : Hid ((⟨R.toArray⟩ : ByteArray) = SB) := HSB
    have hI4 : I < 4 := by omega
    have HIP := hide hIp
    have HH := hide hH
    have HI := hide hI
    have HINN := hide hIN
    clear hH hI hIN hIp
    go_enter Tryd.func6, Tryd.ntmps6
    go_wp2_with fail
    refine (law3_sanity w hL.out).mono ?_
    rintro e w1 ⟨rfl, b1⟩
    go_wp2_with fail
    refine (hSd.out _).mono ?_
    rintro e w2 ⟨rfl, h2⟩
    have b2 := b1.trans (h2.mono b1.size)
    clear h2 b1 hTH hTm hIe hIt
    go_wp2_with fail
    refine (sg_Public S (H : Int) hS32.out (by omega) (by omega) HP2.out _ (hL.out.below b2)).mono ?_
    rintro e w3 ⟨rfl, h2⟩
    have b3 := b2.trans (h2.mono b2.size)
    clear h2 b2
    go_wp2_with (with_reducible refine hold_store ?_)
    refine hide ?_
    refine store_all 23 _ _ 23 w3.heap.size (Z.map B8) (P.map B8) (.agg (P.map B8).toArray) hzP.out (Box.new w3 _ _) (by rfl) (by rfl) rfl (by rw [List.length_map, hPl.out, List.length_map, hZl.out]) (one_map _ (fun _ => rfl) _) ?_
    intro w4 xp hgr hsz'
    have h3 : Below w3.heap.size w3 w4 := (sblo w3 _).grown hgr (by simp) (fun k hk => by cases hk; exact Nat.le_refl _)
    have b4 := b3.trans (h3.mono b3.size)
    generalize w3.heap.size = Gp at *
    clear hgr hsz' h3 b3
    go_wp2_with fail
    refine (hSd.out _).mono ?_
    rintro e w5 ⟨rfl, h2⟩
    have xp := xp.under h2
    have b5 := b4.trans (h2.mono b4.size)
    clear h2 b4
    go_wp2_with fail
    refine (sg_Sign S (H : Int) (I : Int) m hS32.out (by omega) (by omega) (by omega) (by rw [Int.toNat_natCast]; exact HIP.out) hm2 HR.out _ (hL.out.below b5)).mono ?_
    rintro e w6 ⟨rfl, h2⟩
    rw [hRR.out]
    have xp := xp.under h2
    have b6 := b5.trans (h2.mono b5.size)
    clear h2 b5
    go_wp2_with (with_reducible refine load_box 52 23 _ 23 Gp 0 (P.map B8) (P.map B8) isAgg_dig hzP.out xp rfl (fun j u hj => by rw [Nat.zero_add]; exact hj) ?_)
    refine (sg_Verify P hPl.out (H : Int) m SB hm2 hSB3.out (r := ((I : Int), 0)) hVok.out _ (hL.out.below b6)).mono ?_
    rintro e w7 ⟨rfl, h2⟩
    have xp := xp.under h2
    have b7 := b6.trans (h2.mono b6.size)
    clear h2 b6
    have e1 : decide ((SB.size : Int) < 2) = false := decide_eq_false (by rw [hSBn.out]; omega)
    have e2 : decide (SB.size < 2) = false := decide_eq_false (by rw [hSBn.out]; omega)
    go_wp2_with (first
      | (with_reducible refine load_box 75 23 _ 23 Gp 0 (P.map B8) (P.map B8) isAgg_dig hzP.out xp rfl (fun j u hj => by rw [Nat.zero_add]; exact hj) ?_)
      | (with_reducible refine str_add 79 _ _ _ _ SB ⟨#[120]⟩ SX rfl rfl hSX2.out hSX1.out ?_))
    clear e1 e2
    refine (sg_Verify P hPl.out (H : Int) m SX hm2 hSX3.out (r := (0, 2)) hVlong.out _ (hL.out.below b7)).mono ?_
    rintro e w8 ⟨rfl, h2⟩
    have xp := xp.under h2
    have b9 := b7.trans (h2.mono b7.size)
    clear h2 b7
    have hL9 := hide (hL.out.below b9)
    go_wp2_with fail
    refine wp_region_free 13 [⟨0, 84, [84], fun vs _ => vs = [.agg (P.map B8).toArray]⟩, ⟨1, 85, [85], fun vs _ => vs = [.int .i64 (H : Int)]⟩, ⟨2, 86, [86], fun vs _ => vs = [.string m]⟩, ⟨3, 87, [87], fun vs _ => vs = [.string SB]⟩, ⟨4, 88, [88], fun vs _ => vs = [.string SB]⟩, ⟨5, 89, [89], fun vs _ => vs = [.int .i64 (n : Int)]⟩, ⟨6, 90, [90], fun vs _ => vs = [.int .i64 ((n : Int) - 1)]⟩, ⟨7, 91, [91], fun vs _ => vs = [.string SL]⟩, ⟨8, 92, [92], fun vs _ => vs = [.tuple #[.int .i64 0, .int .i64 2]]⟩, ⟨9, 83, [83], fun vs _ => vs = [.tuple #[.int .i64 0, .int .i64 2]]⟩, ⟨10, 93, [93], fun vs _ => vs = [.int .i64 0]⟩, ⟨11, 94, [94], fun vs _ => vs = [.int .i64 2]⟩, ⟨12, 20, [20], fun vs _ => vs = [.int .i64 0]⟩] (by kernel_rfl) (by kernel_rfl) ?_ ?_ ?_
    · simp only [All]
      refine ⟨fun _ _ _ _ h => h, fun _ _ _ _ h => h, fun _ _ _ _ h => h, fun _ _ _ _ h => h, fun _ _ _ _ h => h, fun _ _ _ _ h => h, fun _ _ _ _ h => h, fun _ _ _ _ h => h, fun _ _ _ _ h => h, fun _ _ _ _ h => h, fun _ _ _ _ h => h, fun _ _ _ _ h => h, fun _ _ _ _ h => h, trivial⟩
    · simp only [All]
      refine ⟨?_, ?_, ?_, ?_, ?_, ?_, ?_, ?_, ?_, ?_, ?_, ?_, ?_, trivial⟩
      · intro o ho a' w' hb hfr hdep
        obtain rfl := Option.some.inj ho
        have g12 : a'.tmps[12]?.getD undef = .pointer (some ⟨Gp, 0, none⟩) := by have h := hfr 12 (by kernel_rfl); simpa using h
        clear ho hfr hdep
        refine load_box 84 23 _ 23 Gp 0 (P.map B8) (P.map B8) isAgg_dig hzP.out (xp.under hb) (by simpa [Act.eval] using g12) (fun j u hj => by rw [Nat.zero_add]; exact hj) ?_
        exact ⟨rfl, _, rfl, Below.refl _ _, rfl⟩
      · intro o ho a' w' hb hfr hdep
        obtain rfl := Option.some.inj ho
        have g10 : a'.tmps[10]?.getD undef = .int .i64 (H : Int) := by have h := hfr 10 (by kernel_rfl); simpa using h
        clear ho hfr hdep
        go_wp2_with fail
        exact ⟨rfl, _, rfl, Below.refl _ _, rfl⟩
      · intro o ho a' w' hb hfr hdep
        obtain rfl := Option.some.inj ho
        have g3 : a'.tmps[3]?.getD undef = .string m := by have h := hfr 3 (by kernel_rfl); simpa using h
        clear ho hfr hdep
        go_wp2_with fail
        exact ⟨rfl, _, rfl, Below.refl _ _, rfl⟩
      · intro o ho a' w' hb hfr hdep
        obtain rfl := Option.some.inj ho
        have g14 : a'.tmps[14]?.getD undef = .string SB := by have h := hfr 14 (by kernel_rfl); simpa using h
        clear ho hfr hdep
        go_wp2_with fail
        exact ⟨rfl, _, rfl, Below.refl _ _, rfl⟩
      · intro o ho a' w' hb hfr hdep
        obtain rfl := Option.some.inj ho
        have g14 : a'.tmps[14]?.getD undef = .string SB := by have h := hfr 14 (by kernel_rfl); simpa using h
        clear ho hfr hdep
        go_wp2_with fail
        exact ⟨rfl, _, rfl, Below.refl _ _, rfl⟩
      · intro o ho a' w' hb hfr hdep
        obtain rfl := Option.some.inj ho
        have g88 : a'.tmps[88]?.getD undef = .string SB := by have h := hdep 4 _ rfl (by kernel_rfl); simpa using h
        clear ho hfr hdep
        have hsn := hSBn.out
        go_wp2_with fail
        exact ⟨rfl, _, rfl, Below.refl _ _, rfl⟩
      · intro o ho a' w' hb hfr hdep
        obtain rfl := Option.some.inj ho
        have g89 : a'.tmps[89]?.getD undef = .int .i64 (n : Int) := by have h := hdep 5 _ rfl (by kernel_rfl); simpa using h
        clear ho hfr hdep
        go_wp2_with fail
        exact ⟨rfl, _, rfl, Below.refl _ _, rfl⟩
      · intro o ho a' w' hb hfr hdep
        obtain rfl := Option.some.inj ho
        have g87 : a'.tmps[87]?.getD undef = .string SB := by have h := hdep 3 _ rfl (by kernel_rfl); simpa using h
        have g90 : a'.tmps[90]?.getD undef = .int .i64 ((n : Int) - 1) := by have h := hdep 6 _ rfl (by kernel_rfl); simpa using h
        clear ho hfr hdep
        refine str_hi_z 91 9 Tryd.underlying9 _ _ SB SL .i64 (n - 1) ((n : Int) - 1) (by omega) (by simpa [Act.eval] using g87) (by simpa [Act.eval] using g90) hSL1.out hSL2.out ?_
        exact ⟨rfl, _, rfl, Below.refl _ _, rfl⟩
      · intro o ho a' w' hb hfr hdep
        obtain rfl := Option.some.inj ho
        have g84 : a'.tmps[84]?.getD undef = .agg (P.map B8).toArray := by have h := hdep 0 _ rfl (by kernel_rfl); simpa using h
        have g85 : a'.tmps[85]?.getD undef = .int .i64 (H : Int) := by have h := hdep 1 _ rfl (by kernel_rfl); simpa using h
        have g86 : a'.tmps[86]?.getD undef = .string m := by have h := hdep 2 _ rfl (by kernel_rfl); simpa using h
        have g91 : a'.tmps[91]?.getD undef = .string SL := by have h := hdep 7 _ rfl (by kernel_rfl); simpa using h
        clear ho hfr hdep
        go_wp2_with fail
        refine (sg_Verify P hPl.out (H : Int) m SL hm2 hSL3.out (r := (0, 2)) hVless.out _ (hL9.out.below hb)).mono ?_
        rintro e w2 ⟨rfl, h2⟩
        go_wp2_with fail
        exact ⟨rfl, _, rfl, h2, rfl⟩
      · intro o ho a' w' hb hfr hdep
        obtain rfl := Option.some.inj ho
        have g92 : a'.tmps[92]?.getD undef = .tuple #[.int .i64 0, .int .i64 2] := by have h := hdep 8 _ rfl (by kernel_rfl); simpa using h
        clear ho hfr hdep
        go_wp2_with fail
        exact ⟨rfl, _, rfl, Below.refl _ _, rfl⟩
      · intro o ho a' w' hb hfr hdep
        obtain rfl := Option.some.inj ho
        have g83 : a'.tmps[83]?.getD undef = .tuple #[.int .i64 0, .int .i64 2] := by have h := hdep 9 _ rfl (by kernel_rfl); simpa using h
        clear ho hfr hdep
        go_wp2_with fail
        exact ⟨rfl, _, rfl, Below.refl _ _, rfl⟩
      · intro o ho a' w' hb hfr hdep
        obtain rfl := Option.some.inj ho
        have g83 : a'.tmps[83]?.getD undef = .tuple #[.int .i64 0, .int .i64 2] := by have h := hdep 9 _ rfl (by kernel_rfl); simpa using h
        clear ho hfr hdep
        go_wp2_with fail
        exact ⟨rfl, _, rfl, Below.refl _ _, rfl⟩
      · intro o ho a' w' hb hfr hdep
        obtain rfl := Option.some.inj ho
        have g93 : a'.tmps[93]?.getD undef = .int .i64 0 := by have h := hdep 10 _ rfl (by kernel_rfl); simpa using h
        clear ho hfr hdep
        go_wp2_with fail
        exact ⟨rfl, _, rfl, Below.refl _ _, rfl⟩
    · intro g w11 hb hp'
      have p20 := hp' 12 _ rfl
      have p94 := hp' 11 _ rfl
      clear hp'
      simp at p20 p94
      simp only [List.drop_succ_cons, List.drop_zero, List.map_cons, List.map_nil, putAll, Act.put, List.setIfInBounds_toArray, List.set_cons_succ, List.set_cons_zero, List.cons_append, List.nil_append, p20, p94]
      have hII : ((I : Int) == (I : Int)) = true := beq_self_eq_true _
      go_wp2_with fail
      go_ret
      exact ⟨rfl, b9.trans (hb.mono b9.size)⟩
end Go.Proofs.YtblgmjnkllkhbaaDoor
end

/- the text SL6 -/
section
/- Chapter 03: the walk of SignBindsTheIndex. -/
set_option linter.unusedVariables false
namespace Go.Proofs.YtblgmjnkllkhbaaDoor
open Go.RowKit Go.Dx Go.WideShapes Go.ChangeShapes
theorem idx_facts (K N : Nat) (hN : 1 ≤ N) : ∃ I, I < N ∧ Hid ((K : Int) % (N : Int) = (I : Int)) ∧ Hid ((K : Int).tmod (N : Int) = (I : Int)) := by
  refine ⟨K % N, Nat.mod_lt _ hN, ?_, ?_⟩
  · exact (by norm_cast)
  · show (K : Int).tmod (N : Int) = _
    rw [Int.tmod_eq_emod_of_nonneg (Int.natCast_nonneg K)]
    exact (by norm_cast)
set_option maxRecDepth 100000 in
set_option maxHeartbeats 4000000 in
theorem walk_Binds (zc zt zk zo : Int) (m : ByteArray) (hc : (Lit.int .u8 zc).wf = true) (ht : (Lit.int .u8 zt).wf = true) (hk : (Lit.int .u8 zk).wf = true) (ho : (Lit.int .u8 zo).wf = true) (hm : m.size ≤ reachBytes) (w : World) (hL : Laid w) (hLr : LaidR w) :
    Calls Tryd.prog 8 #[.int .u8 zc, .int .u8 zt, .int .u8 zk, .int .u8 zo, .string m] w fun e w' => e = .returned (.bool true) ∧ Below w.heap.size w w' := by
  obtain ⟨c, rfl⟩ := u8_ofS hc
  obtain ⟨tb, rfl⟩ := u8_ofS ht
  obtain ⟨kb, rfl⟩ := u8_ofS hk
  obtain ⟨ob, rfl⟩ := u8_ofS ho
  have hT := UInt8.toNat_lt tb
  have hK := UInt8.toNat_lt kb
  have hK2 := UInt8.toNat_lt ob
  generalize tb.toNat = T at *
  generalize kb.toNat = K at *
  generalize ob.toNat = K2 at *
  unfold reachBytes at hm
  clear hc ht hk ho
  have hLr := hide hLr
  by_cases a1 : 200 < m.size
  · have d1 : decide ((200 : Int) < m.size) = true := decide_eq_true (by omega)
    have hL := hide hL
    go_enter Tryd.func8, Tryd.ntmps8
    go_wp2_with fail
    refine (law3_sanity w hL.out).mono ?_
    rintro e w1 ⟨rfl, b1⟩

    go_wp2_with fail
    go_ret
    exact ⟨rfl, b1⟩
  · have d1 : decide ((200 : Int) < m.size) = false := decide_eq_false (by omega)
    have hL := hide hL
    go_enter Tryd.func8, Tryd.ntmps8
    go_wp2_with fail
    refine (law3_sanity w hL.out).mono ?_
    rintro e w1 ⟨rfl, b1⟩
    go_upto_region 4 with fail
    go_cut [12] from 32 to 34 (fun p w' => ∃ H : Nat, p = .int .i64 (H : Int) ∧ H ≤ 2 ∧ w1 = w')
    case first =>
      go_wp2_with fail
      go_meet
      exact ⟨T % 3, by first | rfl | (congr 1; omega), by omega, rfl⟩
    case rest =>
      obtain ⟨H, rfl, hT3, rfl⟩ := hcut
      go_upto_region 5 with fail
      go_cut [13] from 35 to 39 (fun p w' => ∃ I : Nat, p = .int .i64 (I : Int) ∧ I < 2 ^ H ∧ w1 = w')
      case first =>
        rcases (by omega : H = 0 ∨ H = 1 ∨ H = 2) with rfl | rfl | rfl
        · go_wp2_with fail
          go_meet
          exact ⟨K % 1, by first | rfl | (congr 1; omega) | (simp; omega), by show _ < 1; omega, rfl⟩
        · go_wp2_with fail
          go_meet
          exact ⟨K % 2, by first | rfl | (congr 1; omega) | (simp; omega), by show _ < 2; omega, rfl⟩
        · go_wp2_with fail
          go_meet
          exact ⟨K % 4, by first | rfl | (congr 1; omega) | (simp; omega), by show _ < 4; omega, rfl⟩

      case rest =>
        obtain ⟨I, rfl, hIN0, rfl⟩ := hcut
        go_upto_region 6 with fail
        go_cut [14] from 40 to 44 (fun p w' => ∃ J : Nat, p = .int .i64 (J : Int) ∧ J < 2 ^ H ∧ w1 = w')
        case first =>
          rcases (by omega : H = 0 ∨ H = 1 ∨ H = 2) with rfl | rfl | rfl
          · go_wp2_with fail
            go_meet
            exact ⟨K2 % 1, by first | rfl | (congr 1; omega) | (simp; omega), by show _ < 1; omega, rfl⟩
          · go_wp2_with fail
            go_meet
            exact ⟨K2 % 2, by first | rfl | (congr 1; omega) | (simp; omega), by show _ < 2; omega, rfl⟩
          · go_wp2_with fail
            go_meet
            exact ⟨K2 % 4, by first | rfl | (congr 1; omega) | (simp; omega), by show _ < 4; omega, rfl⟩

        case rest =>
          obtain ⟨J, rfl, hJN0, rfl⟩ := hcut

          obtain ⟨N, hN⟩ : ∃ N : Nat, Hid (2 ^ H = N) := ⟨_, rfl⟩
          have hN1 : 1 ≤ N ∧ N ≤ 4 := by rw [← hN.out]; rcases (by omega : H = 0 ∨ H = 1 ∨ H = 2) with h | h | h <;> rw [h] <;> decide
          have HPW : Hid (((2 : Int) ^ H) = (N : Int)) := hide (by rw [← hN.out]; norm_cast)
          have hIN : I < N := by rw [← hN.out]; exact hIN0
          have hJN : J < N := by rw [← hN.out]; exact hJN0
          clear hIN0 hJN0
          obtain ⟨S, HS⟩ : ∃ S, Hid ((⟨(List.replicate 32 c).toArray⟩ : ByteArray) = S) := ⟨_, rfl⟩
          have hS32 : Hid (S.size = 32) := hide (by rw [← HS.out]; show (byB (List.replicate 32 c)).size = 32; rw [byB_size, List.length_replicate])
          have hSd := hide (law_seed_at HS.out)
          obtain ⟨P, HP⟩ : ∃ P, Hid (treeL S.data.toList H 0 = P) := ⟨_, rfl⟩
          have hPl : Hid (P.length = 16) := hide (by rw [← HP.out]; exact treeL_len _ _ _)
          have HP2 : Hid (treeL S.data.toList (H : Int).toNat 0 = P) := hide (by rw [Int.toNat_natCast]; exact HP.out)
          obtain ⟨Z, hZ⟩ : ∃ Z, Hid (zero16 = Z) := ⟨_, rfl⟩
          have h16 := zero_16
          rw [hZ.out] at h16
          have hZl : Hid (Z.length = 16) := hide (by rw [← hZ.out]; rfl)
          have hzP : Hid ((Tryd.prog.info? 23).map (·.size) = some (P.map B8).length) := hide (by rw [List.length_map, hPl.out]; exact size_dig')
          obtain ⟨R, HR⟩ : ∃ R, Hid (signL S.data.toList (H : Int).toNat (I : Int) m = R) := ⟨_, rfl⟩
          have HRe : Hid (R = encInt (I : Int) ++ bodyL S.data.toList H (I : Int) m) := hide (by rw [← HR.out, Int.toNat_natCast, signL_eq])
          have hIp : (I : Int) < 2 ^ H := by rw [HPW.out]; exact_mod_cast hIN
          obtain ⟨ns, hns⟩ : ∃ n, Hid ((encInt (I : Int)).length = n) := ⟨_, rfl⟩
          have hns9 : ns ≤ 9 := by rw [← hns.out]; exact encInt_le _
          obtain ⟨SB, HSB⟩ : ∃ B : ByteArray, Hid (byB R = B) := ⟨_, rfl⟩
          have hSBn : Hid (SB.size = ns + (68 + H) * 16) := hide (by rw [← HSB.out, byB_size, HRe.out, List.length_append, bodyL_len, hns.out])
          have hSBR : Hid ((⟨R.toArray⟩ : ByteArray) = SB) := HSB
          have HIP := hide hIp
          obtain ⟨R2, HR2⟩ : ∃ R, Hid (signL S.data.toList (H : Int).toNat (J : Int) m = R) := ⟨_, rfl⟩
          have HR2e : Hid (R2 = encInt (J : Int) ++ bodyL S.data.toList H (J : Int) m) := hide (by rw [← HR2.out, Int.toNat_natCast, signL_eq])
          have hJp : (J : Int) < 2 ^ H := by rw [HPW.out]; exact_mod_cast hJN
          obtain ⟨nt, hnt⟩ : ∃ n, Hid ((encInt (J : Int)).length = n) := ⟨_, rfl⟩
          have hnt9 : nt ≤ 9 := by rw [← hnt.out]; exact encInt_le _
          obtain ⟨TB, HTB⟩ : ∃ B : ByteArray, Hid (byB R2 = B) := ⟨_, rfl⟩
          have hTBn : Hid (TB.size = nt + (68 + H) * 16) := hide (by rw [← HTB.out, byB_size, HR2e.out, List.length_append, bodyL_len, hnt.out])
          have hTBR : Hid ((⟨R2.toArray⟩ : ByteArray) = TB) := HTB
          have HJP := hide hJp
          have hm2 : m.size ≤ 10000 := by omega
          have hI4 : I < 4 := by omega
          have hJ4 : J < 4 := by omega
          obtain ⟨EB, HEB⟩ : ∃ B : ByteArray, Hid (byB (encInt (J : Int)) = B) := ⟨_, rfl⟩
          obtain ⟨BB, HBB⟩ : ∃ B : ByteArray, Hid (byB (bodyL S.data.toList H (I : Int) m) = B) := ⟨_, rfl⟩
          obtain ⟨MB, HMB⟩ : ∃ B : ByteArray, Hid (byB (encInt (J : Int) ++ bodyL S.data.toList H (I : Int) m) = B) := ⟨_, rfl⟩
          have hE1 : Hid (nt ≤ TB.size) := hide (by rw [hTBn.out]; omega)
          have hE2 : Hid (TB.extract 0 nt = EB) := hide (by
            rw [← HTB.out, byB_take, HR2e.out, ← HEB.out, ← hnt.out, List.take_left])
          have hB1 : Hid (ns ≤ SB.size) := hide (by rw [hSBn.out]; omega)
          have hB2 : Hid (SB.extract ns SB.size = BB) := hide (by
            rw [← HSB.out, byB_drop, HRe.out, ← HBB.out, ← hns.out, List.drop_left])
          have hM1 : Hid (EB ++ BB = MB) := hide (by rw [← HEB.out, ← HBB.out, ← HMB.out]; exact byB_append _ _)
          have hMs : MB.size ≤ 100000 := by rw [← HMB.out, byB_size, List.length_append, bodyL_len, hnt.out]; omega
          have hM3 := hide hMs
          have hM2 : Hid (EB.size + BB.size ≤ 9223372036854775807) := hide (by rw [← HEB.out, ← HBB.out, byB_size, byB_size, bodyL_len, hnt.out]; omega)
          have hMe : Hid (MB.data.toList = encInt (J : Int) ++ bodyL S.data.toList H (I : Int) m) := hide (by rw [← HMB.out]; rfl)
          obtain ⟨r, hV0⟩ : ∃ r, Hid (verZ P (H : Int) m MB.data.toList = r) := ⟨_, rfl⟩
          obtain ⟨r1, r2⟩ := r
          have hV : Hid (verZ P (H : Int) m MB.data.toList = (r1, r2)) := hV0
          have HSZ : Hid ((SB.size : Int) = (ns : Int) + (68 + (H : Int)) * 16) := hide (by rw [hSBn.out]; omega)
          have HTZ : Hid ((TB.size : Int) = (nt : Int) + (68 + (H : Int)) * 16) := hide (by rw [hTBn.out]; omega)
          clear hIp hJp hMs
          go_wp2_with fail
          refine (hSd.out _).mono ?_
          rintro e w2 ⟨rfl, h2⟩
          have b2 := b1.trans (h2.mono b1.size)
          clear h2 b1
          go_wp2_with fail
          refine (sg_Public S (H : Int) hS32.out (by omega) (by omega) HP2.out _ (hL.out.below b2)).mono ?_
          rintro e w3 ⟨rfl, h2⟩
          have b3 := b2.trans (h2.mono b2.size)
          clear h2 b2
          go_wp2_with (with_reducible refine hold_store ?_)
          refine hide ?_
          refine store_all 23 _ _ 23 w3.heap.size (Z.map B8) (P.map B8) (.agg (P.map B8).toArray) hzP.out (Box.new w3 _ _) (by rfl) (by rfl) rfl (by rw [List.length_map, hPl.out, List.length_map, hZl.out]) (one_map _ (fun _ => rfl) _) ?_
          intro w4 xp hgr hsz'
          have h3 : Below w3.heap.size w3 w4 := (sblo w3 _).grown hgr (by simp) (fun k hk => by cases hk; exact Nat.le_refl _)
          have b4 := b3.trans (h3.mono b3.size)
          generalize w3.heap.size = Gp at *
          clear hgr hsz' h3 b3
          go_wp2_with fail
          refine (hSd.out _).mono ?_
          rintro e w5 ⟨rfl, h2⟩
          have xp := xp.under h2
          have b5 := b4.trans (h2.mono b4.size)
          clear h2 b4
          go_wp2_with fail
          refine (sg_Sign S (H : Int) (I : Int) m hS32.out (by omega) (by omega) (by omega) (by rw [Int.toNat_natCast]; exact HIP.out) hm2 HR.out _ (hL.out.below b5)).mono ?_
          rintro e w6 ⟨rfl, h2⟩
          rw [hSBR.out]
          have xp := xp.under h2
          have b6 := b5.trans (h2.mono b5.size)
          clear h2 b5
          go_wp2_with fail
          refine (hSd.out _).mono ?_
          rintro e w7 ⟨rfl, h2⟩
          have xp := xp.under h2
          have b7 := b6.trans (h2.mono b6.size)
          clear h2 b6
          go_wp2_with fail
          refine (sg_Sign S (H : Int) (J : Int) m hS32.out (by omega) (by omega) (by omega) (by rw [Int.toNat_natCast]; exact HJP.out) hm2 HR2.out _ (hL.out.below b7)).mono ?_
          rintro e w8 ⟨rfl, h2⟩
          rw [hTBR.out]
          have xp := xp.under h2
          have b8 := b7.trans (h2.mono b7.size)
          clear h2 b7
          have e1 : decide ((SB.size : Int) < 1088) = false := decide_eq_false (by rw [hSBn.out]; omega)
          have e2 : decide (SB.size < 1088) = false := decide_eq_false (by rw [hSBn.out]; omega)
          have e3 : decide ((SB.size : Int) < (68 + (H : Int)) * 16) = false := decide_eq_false (by rw [hSBn.out]; omega)
          have e4 : decide ((TB.size : Int) < (68 + (H : Int)) * 16) = false := decide_eq_false (by rw [hTBn.out]; omega)
          go_wp2_with fail
          clear e1 e2 e3 e4
          refine wp_region_free 13 [⟨0, 90, [90], fun vs _ => vs = [.string TB]⟩, ⟨1, 91, [91], fun vs _ => vs = [.string TB]⟩, ⟨2, 92, [92], fun vs _ => vs = [.int .i64 (nt + (68 + (H : Int)) * 16)]⟩, ⟨3, 93, [93], fun vs _ => vs = [.int .i64 ((68 + (H : Int)) * 16)]⟩, ⟨4, 94, [94], fun vs _ => vs = [.int .i64 (nt : Int)]⟩, ⟨5, 95, [95], fun vs _ => vs = [.string EB]⟩, ⟨6, 96, [96], fun vs _ => vs = [.string SB]⟩, ⟨7, 97, [97], fun vs _ => vs = [.string SB]⟩, ⟨8, 98, [98], fun vs _ => vs = [.int .i64 (ns + (68 + (H : Int)) * 16)]⟩, ⟨9, 99, [99], fun vs _ => vs = [.int .i64 ((68 + (H : Int)) * 16)]⟩, ⟨10, 100, [100], fun vs _ => vs = [.int .i64 (ns : Int)]⟩, ⟨11, 101, [101], fun vs _ => vs = [.string BB]⟩, ⟨12, 102, [102], fun vs _ => vs = [.string MB]⟩] (by kernel_rfl) (by kernel_rfl) ?_ ?_ ?_
          · simp only [All]
            refine ⟨fun _ _ _ _ h => h, fun _ _ _ _ h => h, fun _ _ _ _ h => h, fun _ _ _ _ h => h, fun _ _ _ _ h => h, fun _ _ _ _ h => h, fun _ _ _ _ h => h, fun _ _ _ _ h => h, fun _ _ _ _ h => h, fun _ _ _ _ h => h, fun _ _ _ _ h => h, fun _ _ _ _ h => h, fun _ _ _ _ h => h, trivial⟩
          · simp only [All]
            refine ⟨?_, ?_, ?_, ?_, ?_, ?_, ?_, ?_, ?_, ?_, ?_, ?_, ?_, trivial⟩
            · intro o ho a' w' hb hfr hdep
              obtain rfl := Option.some.inj ho
              have g19 : a'.tmps[19]?.getD undef = .string TB := by have h := hfr 19 (by kernel_rfl); simpa using h
              clear ho hfr hdep
              go_wp2_with fail
              exact ⟨rfl, _, rfl, Below.refl _ _, rfl⟩
            · intro o ho a' w' hb hfr hdep
              obtain rfl := Option.some.inj ho
              have g19 : a'.tmps[19]?.getD undef = .string TB := by have h := hfr 19 (by kernel_rfl); simpa using h
              clear ho hfr hdep
              go_wp2_with fail
              exact ⟨rfl, _, rfl, Below.refl _ _, rfl⟩
            · intro o ho a' w' hb hfr hdep
              obtain rfl := Option.some.inj ho
              have g91 : a'.tmps[91]?.getD undef = .string TB := by have h := hdep 1 _ rfl (by kernel_rfl); simpa using h
              clear ho hfr hdep
              have hsz := HTZ.out
              go_wp2_with fail
              exact ⟨rfl, _, rfl, Below.refl _ _, rfl⟩
            · intro o ho a' w' hb hfr hdep
              obtain rfl := Option.some.inj ho
              have g21 : a'.tmps[21]?.getD undef = .int .i64 ((68 + (H : Int)) * 16) := by have h := hfr 21 (by kernel_rfl); simpa using h
              clear ho hfr hdep
              go_wp2_with fail
              exact ⟨rfl, _, rfl, Below.refl _ _, rfl⟩
            · intro o ho a' w' hb hfr hdep
              obtain rfl := Option.some.inj ho
              have g92 : a'.tmps[92]?.getD undef = .int .i64 (nt + (68 + (H : Int)) * 16) := by have h := hdep 2 _ rfl (by kernel_rfl); simpa using h
              have g93 : a'.tmps[93]?.getD undef = .int .i64 ((68 + (H : Int)) * 16) := by have h := hdep 3 _ rfl (by kernel_rfl); simpa using h
              clear ho hfr hdep
              have hsz : (nt : Int) + (68 + (H : Int)) * 16 - (68 + (H : Int)) * 16 = (nt : Int) := by omega
              have hsz2 : Hid (wrap64 (nt : Int) = (nt : Int)) := hide (by unfold wrap64; omega)
              go_wp2_with fail
              first | exact ⟨rfl, _, rfl, Below.refl _ _, rfl⟩ | (rw [hsz2.out]; exact ⟨rfl, _, rfl, Below.refl _ _, rfl⟩)
            · intro o ho a' w' hb hfr hdep
              obtain rfl := Option.some.inj ho
              have g90 : a'.tmps[90]?.getD undef = .string TB := by have h := hdep 0 _ rfl (by kernel_rfl); simpa using h
              have g94 : a'.tmps[94]?.getD undef = .int .i64 (nt : Int) := by have h := hdep 4 _ rfl (by kernel_rfl); simpa using h
              clear ho hfr hdep
              refine str_hi_z 95 9 Tryd.underlying9 _ _ TB EB .i64 nt (nt : Int) rfl (by simpa [Act.eval] using g90) (by simpa [Act.eval] using g94) hE1.out hE2.out ?_
              exact ⟨rfl, _, rfl, Below.refl _ _, rfl⟩
            · intro o ho a' w' hb hfr hdep
              obtain rfl := Option.some.inj ho
              have g17 : a'.tmps[17]?.getD undef = .string SB := by have h := hfr 17 (by kernel_rfl); simpa using h
              clear ho hfr hdep
              go_wp2_with fail
              exact ⟨rfl, _, rfl, Below.refl _ _, rfl⟩
            · intro o ho a' w' hb hfr hdep
              obtain rfl := Option.some.inj ho
              have g17 : a'.tmps[17]?.getD undef = .string SB := by have h := hfr 17 (by kernel_rfl); simpa using h
              clear ho hfr hdep
              go_wp2_with fail
              exact ⟨rfl, _, rfl, Below.refl _ _, rfl⟩
            · intro o ho a' w' hb hfr hdep
              obtain rfl := Option.some.inj ho
              have g97 : a'.tmps[97]?.getD undef = .string SB := by have h := hdep 7 _ rfl (by kernel_rfl); simpa using h
              clear ho hfr hdep
              have hsz := HSZ.out
              go_wp2_with fail
              exact ⟨rfl, _, rfl, Below.refl _ _, rfl⟩
            · intro o ho a' w' hb hfr hdep
              obtain rfl := Option.some.inj ho
              have g21 : a'.tmps[21]?.getD undef = .int .i64 ((68 + (H : Int)) * 16) := by have h := hfr 21 (by kernel_rfl); simpa using h
              clear ho hfr hdep
              go_wp2_with fail
              exact ⟨rfl, _, rfl, Below.refl _ _, rfl⟩
            · intro o ho a' w' hb hfr hdep
              obtain rfl := Option.some.inj ho
              have g98 : a'.tmps[98]?.getD undef = .int .i64 (ns + (68 + (H : Int)) * 16) := by have h := hdep 8 _ rfl (by kernel_rfl); simpa using h
              have g99 : a'.tmps[99]?.getD undef = .int .i64 ((68 + (H : Int)) * 16) := by have h := hdep 9 _ rfl (by kernel_rfl); simpa using h
              clear ho hfr hdep
              have hsz : (ns : Int) + (68 + (H : Int)) * 16 - (68 + (H : Int)) * 16 = (ns : Int) := by omega
              have hsz2 : Hid (wrap64 (ns : Int) = (ns : Int)) := hide (by unfold wrap64; omega)
              go_wp2_with fail
              first | exact ⟨rfl, _, rfl, Below.refl _ _, rfl⟩ | (rw [hsz2.out]; exact ⟨rfl, _, rfl, Below.refl _ _, rfl⟩)
            · intro o ho a' w' hb hfr hdep
              obtain rfl := Option.some.inj ho
              have g96 : a'.tmps[96]?.getD undef = .string SB := by have h := hdep 6 _ rfl (by kernel_rfl); simpa using h
              have g100 : a'.tmps[100]?.getD undef = .int .i64 (ns : Int) := by have h := hdep 10 _ rfl (by kernel_rfl); simpa using h
              clear ho hfr hdep
              refine str_lo_z 101 9 Tryd.underlying9 _ _ SB BB .i64 ns (ns : Int) rfl (by simpa [Act.eval] using g96) (by simpa [Act.eval] using g100) hB1.out hB2.out ?_
              exact ⟨rfl, _, rfl, Below.refl _ _, rfl⟩
            · intro o ho a' w' hb hfr hdep
              obtain rfl := Option.some.inj ho
              have g95 : a'.tmps[95]?.getD undef = .string EB := by have h := hdep 5 _ rfl (by kernel_rfl); simpa using h
              have g101 : a'.tmps[101]?.getD undef = .string BB := by have h := hdep 11 _ rfl (by kernel_rfl); simpa using h
              clear ho hfr hdep
              refine str_add 102 _ _ _ _ EB BB MB (by simpa [Act.eval] using g95) (by simpa [Act.eval] using g101) hM2.out hM1.out ?_
              exact ⟨rfl, _, rfl, Below.refl _ _, rfl⟩
          · intro g w11 hb hp'
            have p102 := hp' 12 _ rfl
            clear hp'
            simp at p102
            simp only [List.drop_succ_cons, List.drop_zero, List.map_cons, List.map_nil, putAll, Act.put, List.setIfInBounds_toArray, List.set_cons_succ, List.set_cons_zero, List.cons_append, List.nil_append, p102]
            have xp := xp.under hb
            have b9 := b8.trans (hb.mono b8.size)
            clear hb b8 p102
            go_wp2_with (with_reducible refine load_box 104 23 _ 23 Gp 0 (P.map B8) (P.map B8) isAgg_dig hzP.out xp rfl (fun j u hj => by rw [Nat.zero_add]; exact hj) ?_)
            refine (sg_Verify P hPl.out (H : Int) m MB hm2 hM3.out (r := (r1, r2)) hV.out _ (hL.out.below b9)).mono ?_
            rintro e w12 ⟨rfl, h2⟩
            have xp := xp.under h2
            have b10 := b9.trans (h2.mono b9.size)
            clear h2 b9
            go_wp2_with (with_reducible refine load_box 112 23 _ 23 Gp 0 (P.map B8) (P.map B8) isAgg_dig hzP.out xp rfl (fun j u hj => by rw [Nat.zero_add]; exact hj) ?_)
            refine (ref_Verify P hPl.out (H : Int) m MB hm2 hM3.out (r := (r1, r2)) hV.out _ (hLr.out.below b10)).mono ?_
            rintro e w13 ⟨rfl, h2⟩
            have xp := xp.under h2
            have b11 := b10.trans (h2.mono b10.size)
            clear h2 b10
            have k1 : (r1 == r1) = true := beq_self_eq_true _
            have k2 : (r2 == r2) = true := beq_self_eq_true _
            by_cases hIJ : I = J
            · have hr2 : r2 = 0 := by
                have h1 := hV.out
                rw [hMe.out, hIJ, ← HP.out] at h1
                have h2 := ver_ok S.data.toList H (by omega) m J (by omega) HJP.out
                rw [h1] at h2
                exact congrArg Prod.snd h2
              have k3 : ((I : Int) != (J : Int)) = false := by rw [hIJ]; simp
              have k4 : (I != J) = false := by rw [hIJ]; simp
              subst hr2
              clear hIJ
              go_wp2_with fail
              go_ret
              exact ⟨rfl, b11⟩
            · have k3 : ((I : Int) != (J : Int)) = true := by
                have : ¬ (I : Int) = (J : Int) := by omega
                simp [this]
              have k4 : (I != J) = true := by simp [hIJ]
              have k5 : ¬ (I : Int) = (J : Int) := by omega
              clear hIJ
              go_wp2_with fail
              go_ret
              exact ⟨rfl, b11⟩
end Go.Proofs.YtblgmjnkllkhbaaDoor
end
