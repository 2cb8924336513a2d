/- The contracts of the functions that the law reaches, joined into one text. -/
import Derived.Test.YtblgmjnkllkhbaaDoorBaseSBaseE
set_option linter.unusedVariables false
set_option linter.unusedSimpArgs false

/- the text S15 -/
section
/- Chapter 03: the reference's ints, advance. -/
namespace Go.Proofs.YtblgmjnkllkhbaaDoor
open Go.RowKit Go.Dx
set_option maxRecDepth 100000 in
theorem rg_ints (l : List Int) (hl : ∀ x ∈ l, -9223372036854775808 ≤ x ∧ x ≤ 9223372036854775807) (hn : l.length ≤ 10) {r : List UInt8} (hr : encInts l = r) (a : Option Addr) (n c : Nat) (w : World) (hs : Sl w 1 a n c (l.map I64)) :
    Calls Tryd.prog 50 #[.slice a n c] w fun e w' => e = .returned (.string ⟨r.toArray⟩) ∧ Below w.heap.size w w' := by
  subst hr
  have hle := encInts_le l
  have HW := hide (ref_Ints l hl (by omega) (by omega) a n c w hs)
  generalize encInts l = E at *
  go_enter Tryd.func50, Tryd.ntmps50
  go_wp2_with fail
  refine HW.out.mono ?_
  rintro e w1 ⟨a1, c1, rfl, o1, h1⟩
  go_wp2_with (with_reducible refine to_str 5 _ _ _ _ E rfl o1.sl ?_)
  go_ret
  exact ⟨rfl, h1⟩
set_option maxRecDepth 100000 in
set_option maxHeartbeats 2000000 in
theorem ref_advance (i k f : Int) (hi : 0 ≤ i ∧ i ≤ 9223372036854775807) (hk : 0 ≤ k ∧ k ≤ 1000) (n : Nat) (hf : 0 ≤ f) (hn : f + n ≤ 1000) (v0 : List UInt8) (hv0 : v0.length = 16) {D : List UInt8} (hD : advL i k f n v0 = D) (w : World) (hL : LaidR w) :
    Calls Tryd.prog 32 #[.int .i64 i, .int .i64 k, .int .i64 f, .int .i64 (f + n), .agg (v0.map B8).toArray] w fun e w' => e = .returned (.agg (D.map B8).toArray) ∧ Below w.heap.size w w' := by
  obtain ⟨Z, hZ⟩ : ∃ Z, Hid (zero16 = Z) := ⟨_, rfl⟩
  have h16 := zero_16
  rw [hZ.out] at h16
  have hZl : Hid (Z.length = 16) := hide (by rw [← hZ.out]; rfl)
  have hL := hide hL
  have hDl : D.length = 16 := by rw [← hD]; exact advL_len _ _ _ _ hv0
  have HDl := hide hDl
  have HD := hide hD
  have hv0 := hide hv0
  obtain ⟨z, hz⟩ : ∃ z, Hid (z = f + n) := ⟨_, rfl⟩
  rw [← hz.out]
  have hzr : 0 ≤ z ∧ z ≤ 1000 := by have := hz.out; omega
  have hzD : Hid ((Tryd.prog.info? 23).map (·.size) = some (D.map B8).length) := hide (by rw [List.length_map, hDl]; exact size_dig')
  clear hDl hD
  go_enter Tryd.func32, Tryd.ntmps32
  go_wp2_with fail
  obtain ⟨w1, G1, G2, hw1, e1, e2, x1, x2, b1, l1, l2⟩ := allocs2 w (v0.map B8) (Z.map B8) 23 23
  rw [← e2, ← hw1, ← e1]
  have l0 : w.heap.size ≤ G1 := Nat.le_of_eq e1.symm
  clear hw1 e1 e2
  go_loopg [11] n (fun gh at_ w' => ∃ (t : Nat) (x : Int) (v : List UInt8), t ≤ n ∧ gh = n - t ∧ Hid (x = f + t) ∧ at_ = .int .i64 x ∧ Hid (v = advL i k f t v0) ∧ Hid (v.length = 16) ∧ Box w' G1 23 (v.map B8) ∧ Box w' G2 23 (Z.map B8) ∧ Below w.heap.size w w')
  case atStart => exact ⟨0, f, v0, by omega, by omega, hide (by simp), rfl, hide rfl, hv0, x1, x2, b1⟩
  case round =>
    clear x1 x2 b1
    obtain ⟨t, x, v, ht, hg, HX, rfl, HVV, hv, x1, x2, b⟩ := hrel
    have HG := hide hg
    clear hg
    by_cases hlt : t < n
    · have hxx := HX.out
      have hzz := hz.out
      have d0 : decide (x < z) = true := decide_eq_true (by omega)
      have hx0 : 0 ≤ x ∧ x ≤ 1000 := by omega
      clear hxx hzz
      have HB3 : Hid (∀ y ∈ [i, k, x], -9223372036854775808 ≤ y ∧ y ≤ 9223372036854775807) := hide (bounded3 hi hk hx0)
      have hle := encInts_le [i, k, x]
      obtain ⟨E, hE⟩ : ∃ E, Hid (encInts [i, k, x] = E) := ⟨_, rfl⟩
      rw [hE.out] at hle
      obtain ⟨v2, HV2⟩ : ∃ v2, Hid (ofD 5 [E, v] = v2) := ⟨_, rfl⟩
      have hv2 : Hid (v2.length = 16) := hide (by rw [← HV2.out]; exact ofD_len _ _)
      have hE2 : ofD 5 [encInts [i, k, x], v] = v2 := by rw [hE.out]; exact HV2.out
      have HSZ : Hid (∀ s ∈ [byB E, byB v], s.size ≤ 10000) := hide (by
        have := hv.out
        have h9 : E.length ≤ 36 := hle
        intro s hs; simp at hs; rcases hs with rfl | rfl <;> rw [byB_size] <;> omega)
      have hL3 : Hid (LaidR wr) := hide (hL.out.below b)
      have hzv : Hid ((Tryd.prog.info? 23).map (·.size) = some (v.map B8).length) := hide (by rw [List.length_map, hv.out]; exact size_dig')
      have hzv2 : Hid ((Tryd.prog.info? 23).map (·.size) = some (v2.map B8).length) := hide (by rw [List.length_map, hv2.out]; exact size_dig')

      clear hle
      go_wp2_with fail
      refine wp_region_free 9 [⟨0, 18, [18], fun vs _ => vs = [.int .i64 i]⟩, ⟨1, 19, [19], fun vs _ => vs = [.int .i64 k]⟩, ⟨2, 20, [20], fun vs _ => vs = [.int .i64 x]⟩, ⟨3, 21, [21], fun vs w' => ∃ b, vs = [.slice (some ⟨b, 0, none⟩) 3 3] ∧ Sl w' 1 (some ⟨b, 0, none⟩) 3 3 ([i, k, x].map I64)⟩, ⟨4, 22, [22], fun vs _ => vs = [.string (byB E)]⟩, ⟨5, 23, [23], fun vs _ => vs = [.agg (v.map B8).toArray]⟩, ⟨6, 24, [24], fun vs _ => vs = [.string (byB v)]⟩, ⟨7, 25, [25], fun vs w' => ∃ b, vs = [.slice (some ⟨b, 0, none⟩) 2 2] ∧ Sl w' 1 (some ⟨b, 0, none⟩) 2 2 ([byB E, byB v].map Value.string)⟩, ⟨8, 26, [26], fun vs _ => vs = [.agg (v2.map B8).toArray]⟩] (by kernel_rfl) (by kernel_rfl) ?_ ?_ ?_
      · simp only [All]
        refine ⟨fun _ _ _ _ h => h, fun _ _ _ _ h => h, fun _ _ _ _ h => h, ?_, fun _ _ _ _ h => h, fun _ _ _ _ h => h, fun _ _ _ _ h => h, ?_, fun _ _ _ _ h => h, trivial⟩
        · rintro vs w w' hb ⟨b, h1, h2⟩
          exact ⟨b, h1, h2.below hb⟩
        · rintro vs w w' hb ⟨b, h1, h2⟩
          exact ⟨b, h1, h2.below hb⟩
      · simp only [All]
        refine ⟨?_, ?_, ?_, ?_, ?_, ?_, ?_, ?_, ?_, trivial⟩
        · intro o ho a' w' hb hfr hdep
          obtain rfl := Option.some.inj ho
          have g0 : a'.tmps[0]?.getD undef = .int .i64 i := by have h := hfr 0 (by kernel_rfl); simpa using h
          clear ho hfr hdep
          go_wp2_with fail
          exact ⟨rfl, _, rfl, Below.refl _ _, rfl⟩
        · intro o ho a' w' hb hfr hdep
          obtain rfl := Option.some.inj ho
          have g1 : a'.tmps[1]?.getD undef = .int .i64 k := by have h := hfr 1 (by kernel_rfl); simpa using h
          clear ho hfr hdep
          go_wp2_with fail
          exact ⟨rfl, _, rfl, Below.refl _ _, rfl⟩
        · intro o ho a' w' hb hfr hdep
          obtain rfl := Option.some.inj ho
          have g11 : a'.tmps[11]?.getD undef = .int .i64 x := by have h := hfr 11 (by kernel_rfl); simpa using h
          clear ho hfr hdep
          go_wp2_with fail
          exact ⟨rfl, _, rfl, Below.refl _ _, rfl⟩
        · intro o ho a' w' hb hfr hdep
          obtain rfl := Option.some.inj ho
          have g18 : a'.tmps[18]?.getD undef = .int .i64 i := by have h := hdep 0 _ rfl (by kernel_rfl); simpa using h
          have g19 : a'.tmps[19]?.getD undef = .int .i64 k := by have h := hdep 1 _ rfl (by kernel_rfl); simpa using h
          have g20 : a'.tmps[20]?.getD undef = .int .i64 x := by have h := hdep 2 _ rfl (by kernel_rfl); simpa using h
          clear ho hfr hdep
          go_wp2_with fail
          exact ⟨rfl, _, rfl, sblo _ _, _, rfl, Sl.fresh _ _ 1 3 ([i, k, x].map I64) rfl (by decide)⟩
        · intro o ho a' w' hb hfr hdep
          obtain rfl := Option.some.inj ho
          obtain ⟨b21, h21, s21⟩ := hdep 3 _ rfl (by kernel_rfl)
          have g21 : a'.tmps[21]?.getD undef = .slice (some ⟨b21, 0, none⟩) 3 3 := by simpa using h21
          clear ho hfr hdep
          go_wp2_with fail
          refine (rg_ints [i, k, x] HB3.out (by simp) hE.out _ _ _ _ s21).mono ?_
          rintro e w2 ⟨rfl, h2⟩
          go_wp2_with fail
          exact ⟨rfl, _, rfl, h2, rfl⟩
        · intro o ho a' w' hb hfr hdep
          obtain rfl := Option.some.inj ho
          have g9 : a'.tmps[9]?.getD undef = .pointer (some ⟨G1, 0, none⟩) := by have h := hfr 9 (by kernel_rfl); simpa using h
          clear ho hfr hdep
          refine load_box 23 23 _ 23 G1 0 (v.map B8) (v.map B8) isAgg_dig hzv.out (x1.under hb) (by simpa [Act.eval] using g9) (fun j u hj => by rw [Nat.zero_add]; exact hj) ?_
          exact ⟨rfl, _, rfl, Below.refl _ _, rfl⟩
        · intro o ho a' w' hb hfr hdep
          obtain rfl := Option.some.inj ho
          have g23 : a'.tmps[23]?.getD undef = .agg (v.map B8).toArray := by have h := hdep 5 _ rfl (by kernel_rfl); simpa using h
          clear ho hfr hdep
          go_wp2_with fail
          refine (text_any v hv.out _).mono ?_
          rintro e w2 ⟨rfl, h2⟩
          go_wp2_with fail
          exact ⟨rfl, _, rfl, h2, rfl⟩
        · intro o ho a' w' hb hfr hdep
          obtain rfl := Option.some.inj ho
          have g22 : a'.tmps[22]?.getD undef = .string (byB E) := by have h := hdep 4 _ rfl (by kernel_rfl); simpa using h
          have g24 : a'.tmps[24]?.getD undef = .string (byB v) := by have h := hdep 6 _ rfl (by kernel_rfl); simpa using h
          clear ho hfr hdep
          go_wp2_with fail
          exact ⟨rfl, _, rfl, sblo _ _, _, rfl, Sl.fresh _ _ 1 2 ([byB E, byB v].map Value.string) rfl (by decide)⟩
        · intro o ho a' w' hb hfr hdep
          obtain rfl := Option.some.inj ho
          obtain ⟨b25, h25, s25⟩ := hdep 7 _ rfl (by kernel_rfl)
          have g25 : a'.tmps[25]?.getD undef = .slice (some ⟨b25, 0, none⟩) 2 2 := by simpa using h25
          clear ho hfr hdep
          go_wp2_with fail
          refine (rof_at HV2.out (by simp) HSZ.out (hL3.out.below hb) s25).mono ?_
          rintro e w2 ⟨rfl, h2⟩
          go_wp2_with fail
          exact ⟨rfl, _, rfl, h2, rfl⟩
      · intro g w2 hb hp
        have p26 := hp 8 _ rfl
        clear hp
        simp at p26
        simp only [List.drop_succ_cons, List.drop_zero, List.map_cons, List.map_nil, putAll, Act.put, List.setIfInBounds_toArray, List.set_cons_succ, List.set_cons_zero, List.cons_append, List.nil_append, p26]
        refine store_all 23 _ _ 23 G1 (v.map B8) (v2.map B8) (.agg (v2.map B8).toArray) hzv2.out (x1.under hb) (by rfl) (by rfl) rfl (by rw [List.length_map, hv2.out, List.length_map, hv.out]) (one_map _ (fun _ => rfl) _) ?_
        intro w3 x9 hgr hsz'
        have hg1 := x1.lt
        have x2 := (x2.under hb).grown hgr (fun h => by cases h; omega)
        have b3 := (b.trans (hb.mono b.size)).grown hgr (Nat.le_trans b.size hb.size) (fun k hk => by cases hk; omega)
        clear hgr hb p26 hg1
        go_wp2_with fail
        go_roundg (n - (t + 1))
        case measure => have := HG.out; omega
        case rel => exact ⟨t + 1, x + 1, v2, by omega, rfl, hide (by have := HX.out; omega), by go_num, hide (by rw [advL, ← HX.out, ← hE2, HVV.out]), hv2, x9, x2, b3⟩

    · obtain rfl : t = n := by omega
      have hxx := HX.out
      have hzz := hz.out
      have d0 : decide (x < z) = false := decide_eq_false (by omega)
      clear hxx hzz
      have HDv : Hid (v = D) := hide (by rw [HVV.out]; exact HD.out)
      rw [HDv.out] at x1
      go_wp2_with (first
        | (with_reducible refine load_box 27 23 _ 23 G1 0 (D.map B8) (D.map B8) isAgg_dig hzD.out x1 rfl (fun j u hj => by rw [Nat.zero_add]; exact hj) ?_)
        | (with_reducible refine hold_store ?_))
      refine hide ?_
      refine store_all 23 _ _ 23 G2 (Z.map B8) (D.map B8) (.agg (D.map B8).toArray) hzD.out x2 (by rfl) (by rfl) rfl (by rw [List.length_map, HDl.out, List.length_map, hZl.out]) (one_map _ (fun _ => rfl) _) ?_
      intro w6 x9 hgr hsz'
      go_wp2_with fail
      refine bodyPost_ret (run_results_cell rfl rfl isAgg_dig hzD.out x9) rfl ⟨rfl, ?_⟩
      exact b.grown hgr b.size (fun k hk => by cases hk; omega)
end Go.Proofs.YtblgmjnkllkhbaaDoor
end

/- the text S16 -/
section
/- Chapter 03: the reference's digest. -/
namespace Go.Proofs.YtblgmjnkllkhbaaDoor
open Go.RowKit Go.Dx
set_option maxRecDepth 100000 in
set_option maxHeartbeats 2000000 in
theorem ref_digest (S : ByteArray) (hS : 16 ≤ S.size) {D : List UInt8} (hD : S.data.toList.take 16 = D) (w : World) :
    Calls Tryd.prog 42 #[.string S] w fun e w' => e = .returned (.agg (D.map B8).toArray) ∧ Below w.heap.size w w' := by
  obtain ⟨Z, hZ⟩ : ∃ Z, Hid (zero16 = Z) := ⟨_, rfl⟩
  have h16 := zero_16
  rw [hZ.out] at h16
  have hZl : Hid (Z.length = 16) := hide (by rw [← hZ.out]; rfl)
  have hSl : S.data.toList.length = S.size := Array.length_toList
  have hDl : Hid (D.length = 16) := hide (by rw [← hD, List.length_take, hSl]; omega)
  have hzD : Hid ((Tryd.prog.info? 23).map (·.size) = some (D.map B8).length) := hide (by rw [List.length_map, hDl.out]; exact size_dig')
  have hZ0 : Hid (Z = fillA S.data.toList 16 0) := hide (by rw [← hZ.out]; rfl)
  have hSL := hide (show 16 ≤ S.data.toList.length by omega)
  have HD := hide hD
  clear hD hSl
  go_enter Tryd.func42, Tryd.ntmps42
  go_wp2_with fail
  obtain ⟨w1, G2, G3, hw1, e1, e2, x2, x3, b1, l1, l2⟩ := allocs2 w (Z.map B8) (Z.map B8) 23 23
  rw [← e2, ← hw1, ← e1]
  have l0 : w.heap.size ≤ G2 := Nat.le_of_eq e1.symm
  clear hw1 e1 e2
  have x3' := x3
  rw [hZ0.out] at x3'
  clear x3
  go_loopg [4] 16 (fun gh v w' => ∃ k : Nat, k ≤ 16 ∧ gh = 16 - k ∧ v = .int .i64 (k : Int) ∧ Box w' G2 23 (Z.map B8) ∧ Box w' G3 23 ((fillA S.data.toList 16 k).map B8) ∧ Below w.heap.size w w')
  case atStart => exact ⟨0, by omega, by omega, rfl, x2, x3', b1⟩
  case round =>
    clear x2 x3' b1
    obtain ⟨k, hk, hg, rfl, x2, x3, b⟩ := hrel
    have HG := hide hg
    clear hg
    by_cases hlt : k < 16
    · have hkS : k < S.size := by omega
      have hu : S.data.toList[k]? = some (S[k]'hkS) := List.getElem?_eq_getElem (by have := hSL.out; omega)
      have HU := hide hu
      have q3 : wr.cell? ⟨G3, k, none⟩ = some (B8 0) := x3.at_ (box_at (fill_get hSL.out hlt))
      have f3 := x3.free k
      have d0 : decide ((k : Int) < 16) = true := decide_eq_true (by omega)
      clear hu
      go_wp2_with fail
      go_roundg (16 - (k + 1))
      case measure => have := HG.out; omega
      case rel =>
        have x3' := x3.put k (B8 (S[k]'hkS))
        rw [fill_set hSL.out hlt HU.out] at x3'
        exact ⟨k + 1, by omega, rfl, by go_num, x2.far (by simp; omega) _, x3', b.setCell (by simp; omega) _⟩
    · obtain rfl : k = 16 := by omega
      rw [fill_all, HD.out] at x3
      go_wp2_with (first
        | (with_reducible refine load_box 14 23 _ 23 G3 0 (D.map B8) (D.map B8) isAgg_dig hzD.out x3 rfl (fun j u hj => by rw [Nat.zero_add]; exact hj) ?_)
        | (with_reducible refine hold_store ?_))
      refine hide ?_
      refine store_all 23 _ _ 23 G2 (Z.map B8) (D.map B8) (.agg (D.map B8).toArray) hzD.out x2 (by rfl) (by rfl) rfl (by rw [List.length_map, hDl.out, List.length_map, hZl.out]) (one_map _ (fun _ => rfl) _) ?_
      intro w6 x9 hgr hsz'
      go_wp2_with fail
      refine bodyPost_ret (run_results_cell rfl rfl isAgg_dig hzD.out x9) rfl ⟨rfl, ?_⟩
      exact b.grown hgr b.size (fun k hk => by cases hk; omega)
end Go.Proofs.YtblgmjnkllkhbaaDoor
end

/- the text AppF -/
section
/- The laws on append once more: the block that is handed back is the old one or a new one. No program in sight. -/
set_option linter.unusedVariables false
namespace Go.Dx
open Go.RowKit
section laws
variable {P : Program} {w : World} {ops : Array Oper} {rest : List Oper} {o : Oper} {act : Act} {Q : Exit → Act → World → Prop}
theorem run_append_fresh (base : Nat) (t tx ty e : TypeId) (i : TypeInfo) (z : Value) (ht : P.underlying t = some (.slice e)) (hi : P.info? e = some i) (hz : i.zero = some z)
    (hzs : z.cells.size = i.size) (a : Option Addr) (n c : Nat) (xs : List Value) (hown : Own w base e i.size a n c xs)
    (x : Value) (m : Nat) (news : List Value) (hs : Src P i.size tx x m news w)
    (h63 : n + m ≤ maxLen) (hbytes : (n + m) * i.bytes ≤ 140737488355328) (hbase : base ≤ w.heap.size) :
    ∃ a' c' w', (Builtin.append_ #[t, tx] ty #[.slice a n c, x]).run P w = .ok (.slice a' (n + m) c') w' ∧ Own w' base e i.size a' (n + m) c' (xs ++ news) ∧ w.grownBy w' (a.map (·.block)) ∧ (∀ p, a' = some p → (∃ q, a = some q ∧ q.block = p.block) ∨ w.heap.size ≤ p.block) := by
  have hsmall : n + m ≤ 9223372036854775807 := by simp only [maxLen] at h63; omega
  have hlen : (xs ++ news).length = (n + m) * i.size := by rw [List.length_append, hown.1, hs.newsLen, Nat.add_mul]
  have hold : (Builtin.firstCells i.size n (.slice a n c)).run P w.drew = .ok xs.toArray w.drew := by
    have hsl := hown.sl
    cases a with
    | none =>
      have := hsl.nil rfl
      have := hsl.le
      obtain rfl : n = 0 := by omega
      have hnews : xs = [] := List.eq_nil_of_length_eq_zero (by simpa using hsl.len)
      subst hnews
      exact run_firstCells_none w.drew i.size 0 0 c
    | some p => exact run_firstCells_some w.drew i.size n p n c xs hsl.len (by simpa using hsl.cell p rfl)
  by_cases hroom : n + m ≤ c
  · rcases hown.2 with ⟨h1, h2⟩ | ⟨g, cap, cur, h1, hbg, hg, hnc, hcm, hcs, htake⟩
    · injection h1 with h1 h3 h4
      subst h1 h3 h4
      obtain rfl : m = 0 := by omega
      have hx : xs = [] := List.eq_nil_of_length_eq_zero (by simpa using hown.1)
      have hnews : news = [] := List.eq_nil_of_length_eq_zero (by simpa using hs.newsLen)
      subst hx hnews
      refine ⟨none, 0, w, ?_, Own.nil w base e i.size, World.grownBy.refl _ _, fun p hp => by cases hp⟩
      rcases hs.kind with ⟨e', hk⟩ | hk <;> simp [Builtin.append_, run_underlying ht, run_underlying hk, sizeOf, typeInfo, hi, hs.len, hs.cells]
    · injection h1 with h1 h3 h4
      subst h1 h4
      have hfit : n * i.size + news.length ≤ cur.size := by rw [hs.newsLen, hcs, ← Nat.add_mul]; exact Nat.mul_le_mul_right _ hroom
      have hst := run_storeCells_at P g (n * i.size) e news 0 cur w hg (by simpa using hfit) hs.one
      simp only [Nat.add_zero] at hst
      refine ⟨some ⟨g, 0, none⟩, c, w.setRow g (cur.toList.take (n * i.size) ++ news ++ cur.toList.drop (n * i.size + news.length)).toArray, ?_, ⟨hlen, .inr ⟨g, c, _, rfl, hbg, setRow_heap w g cur _ e _ hg, hroom, hcm, ?_, ?_⟩⟩, ⟨rfl, rfl, rfl, by simp, fun k _ hk => setRow_other w g k _ (fun e => hk (by simp [e]))⟩, fun p hp => by cases hp; exact .inl ⟨_, rfl, rfl⟩⟩
      · rcases hs.kind with ⟨e', hk⟩ | hk <;> simp [Builtin.append_, run_underlying ht, run_underlying hk, sizeOf, typeInfo, hi, hs.len, hroom, hs.cells, Addr.add_lit, hst]
      · simp only [List.size_toArray, List.length_append, List.length_take, List.length_drop, Array.length_toList]
        omega
      · rw [htake, ← hlen]
        exact List.take_left
  · have hr := run_append_grow_src (P := P) w t tx ty e i z ht hi hz a n c xs hold x m news hs (by omega) (by omega) (growslice_fits (by omega) hbytes)
    have hge := grownCap_ge w (n + m) c e
    have hcm : grownCap w (n + m) c e ≤ maxLen := grownCap_le_maxLen w (n + m) c e h63
    refine ⟨_, _, _, hr, ⟨hlen, .inr ⟨w.heap.size, _, _, rfl, hbase, heap_alloc_new w.drew _, hge, hcm, ?_, ?_⟩⟩, ⟨rfl, rfl, rfl, by simp, fun k hk _ => Below.heap_alloc w.drew _ k hk⟩, fun p hp => by cases hp; exact .inr (Nat.le_refl _)⟩
    · simp only [Array.size_append, List.size_toArray, size_zeroCells, hzs, hlen, ← Nat.add_mul]
      congr 1
      omega
    · simp only [Array.toList_append, List.append_assoc]
      rw [← List.append_assoc, ← hlen]
      exact List.take_left

/-- 'append(out, x...)', out owned, whatever x is: the general law. -/
theorem append_src_f (hg : o.guard = none) (s x : Operand) (t tx : TypeId) (hop : o.op = Op.call { callee := Callee.builtin Builtin.append, args := #[s, x], argTypes := #[t, tx] })
    (e : TypeId) (z : Value) (sz bytes : Nat) (ht : P.underlying t = some (.slice e)) (hi : (P.info? e).map (fun i => (i.zero, i.size, i.bytes)) = some (some z, sz, bytes)) (hz : z.cells.size = sz)
    (w0 : World) (B : Nat) (a : Option Addr) (n c : Nat) (xs : List Value) (hs : act.eval s = .slice a n c) (hown : Own w B e sz a n c xs)
    (v : Value) (m : Nat) (ys : List Value) (hx : act.eval x = v) (hy : Src P sz tx v m ys w)
    (hn : (n + m) * bytes ≤ 140737488355328) (hn2 : n + m ≤ maxLen) (hB : B ≤ w.heap.size) (hbel : Below B w0 w)
    (hK : ∀ a' c' w', Own w' B e sz a' (n + m) c' (xs ++ ys) → w.grownBy w' (a.map (·.block)) → (∀ p, a' = some p → (∃ q, a = some q ∧ q.block = p.block) ∨ w.heap.size ≤ p.block) → Below B w0 w' → wpList P ops Q rest (act.put o.dst (.slice a' (n + m) c')) w') :
    wpList P ops Q (o :: rest) act w := by
  obtain ⟨i, hi0, hz0, hz1, hz2⟩ := info_parts hi
  subst hz1 hz2
  clear hi
  obtain ⟨a', c', w', hrun, ho, hgr, hfr⟩ := run_append_fresh B t tx o.type e i z ht hi0 hz0 hz a n c xs hown v m ys hy hn2 hn hB
  refine wpList_plain hg fun K hK' => ?_
  unfold Oper.wp
  simp [execOp, hop, resolve, invoke, builtin, hs, hx, hrun, Result.andThen]
  refine hK' _ _ (hK a' c' w' ho hgr hfr (hbel.grown hgr hB ?_))
  intro k hk
  cases a with
  | none => cases hk
  | some p => injection hk with hk; subst hk; exact hown.base.1

/-- 'append(out, ys...)', out owned, ys a slice. -/
theorem append_own_f (hg : o.guard = none) (s x : Operand) (t : TypeId) (hop : o.op = Op.call { callee := Callee.builtin Builtin.append, args := #[s, x], argTypes := #[t, t] })
    (e : TypeId) (z : Value) (sz bytes : Nat) (ht : P.underlying t = some (.slice e)) (hi : (P.info? e).map (fun i => (i.zero, i.size, i.bytes)) = some (some z, sz, bytes)) (hz : z.cells.size = sz)
    (w0 : World) (B : Nat) (a : Option Addr) (n c : Nat) (xs : List Value) (hs : act.eval s = .slice a n c) (hown : Own w B e sz a n c xs)
    (a2 : Option Addr) (m c2 : Nat) (ys : List Value) (hx : act.eval x = .slice a2 m c2) (hy : Sl w sz a2 m c2 ys) (h1 : ∀ u ∈ ys, u.oneCell' = true)
    (hn : (n + m) * bytes ≤ 140737488355328) (hn2 : n + m ≤ maxLen) (hB : B ≤ w.heap.size) (hbel : Below B w0 w)
    (hK : ∀ a' c' w', Own w' B e sz a' (n + m) c' (xs ++ ys) → w.grownBy w' (a.map (·.block)) → (∀ p, a' = some p → (∃ q, a = some q ∧ q.block = p.block) ∨ w.heap.size ≤ p.block) → Below B w0 w' → wpList P ops Q rest (act.put o.dst (.slice a' (n + m) c')) w') :
    wpList P ops Q (o :: rest) act w :=
  append_src_f hg s x t t hop e z sz bytes ht hi hz w0 B a n c xs hs hown _ m ys hx (hy.src ht h1) hn hn2 hB hbel hK

theorem append_lit_f (hg : o.guard = none) (s x : Operand) (t : TypeId) (hop : o.op = Op.call { callee := Callee.builtin Builtin.append, args := #[s, x], argTypes := #[t, t] })
    (e : TypeId) (z : Value) (sz bytes : Nat) (ht : P.underlying t = some (.slice e)) (hi : (P.info? e).map (fun i => (i.zero, i.size, i.bytes)) = some (some z, sz, bytes)) (hz : z.cells.size = sz)
    (w0 : World) (B : Nat) (a : Option Addr) (n c : Nat) (xs : List Value) (hs : act.eval s = .slice a n c) (hown : Own w B e sz a n c xs)
    (m : Nat) (us : List Value) (hx : act.eval x = .slice (some ⟨w.heap.size, 0, none⟩) m m) (hu : us.length = m * sz) (h1 : ∀ u ∈ us, u.oneCell' = true)
    (hn : (n + m) * bytes ≤ 140737488355328) (hn2 : n + m ≤ maxLen) (hB : B ≤ w.heap.size) (hbel : Below B w0 w)
    (hK : ∀ a' c' w', Own w' B e sz a' (n + m) c' (xs ++ us) → w.grownBy w' (a.map (·.block)) → (∀ p, a' = some p → (∃ q, a = some q ∧ q.block = p.block) ∨ w.heap.size ≤ p.block) → Below B w0 w' → wpList P ops Q rest (act.put o.dst (.slice a' (n + m) c')) w') :
    wpList P ops Q (o :: rest) act (w.alloc (.cells us.toArray e)) := by
  refine append_own_f hg s x t hop e z sz bytes ht hi hz w0 B a n c xs hs (hown.alloc _) _ m m us hx ?_ h1 hn hn2 (by simp; omega) (hbel.alloc hB _) ?_
  · have := (Own.built w 0 e sz m us.toArray (Nat.zero_le _) (by simpa using hu) (by omega)).sl
    simpa using this
  · intro a' c' w' ho hgr hfr hb
    refine hK a' c' w' ho ⟨hgr.os, hgr.tape, hgr.output, ?_, ?_⟩ (fun p hp => (hfr p hp).imp id (fun h => by simp at h; omega)) hb
    · have := hgr.size; simp at this; omega
    · intro k hk hne
      rw [hgr.block k (by simp; omega) hne]
      rw [Below.heap_alloc _ _ _ hk]
end laws
end Go.Dx
end

/- the text S21 -/
section
/- Chapter 03: the reference's Digits. -/
set_option linter.unusedVariables false
namespace Go.Proofs.YtblgmjnkllkhbaaDoor
open Go.RowKit Go.Dx
/-- the first k digits -/
def dl (d : List UInt8) (k : Nat) : List Int := (List.range k).map fun j => (digN d j : Int)
theorem dl_succ (d : List UInt8) (k : Nat) : dl d (k + 1) = dl d k ++ [(digN d k : Int)] := by simp [dl, List.range_succ]
theorem dl_len (d : List UInt8) (k : Nat) : (dl d k).length = k := by simp [dl]
theorem dl_all (d : List UInt8) : dl d 64 ++ [(dgs d 64 : Int), (dgs d 65 : Int), (dgs d 66 : Int), (dgs d 67 : Int)] = (List.range 68).map fun j => (dgs d j : Int) := by
  have e : (List.range 68) = List.range 64 ++ [64, 65, 66, 67] := by decide
  rw [e, List.map_append]
  show _ = _ ++ [(dgs d 64 : Int), (dgs d 65 : Int), (dgs d 66 : Int), (dgs d 67 : Int)]
  congr 1
theorem dig_four {d : List UInt8} {i : Nat} {u : UInt8} (hu : d[i]? = some u) : digN d (4 * i) = u.toNat / 64 ∧ digN d (4 * i + 1) = u.toNat / 16 % 4 ∧ digN d (4 * i + 2) = u.toNat / 4 % 4 ∧ digN d (4 * i + 3) = u.toNat % 4 := by
  have h := UInt8.toNat_lt u
  unfold digN
  rw [show 4 * i / 4 = i by omega, show (4 * i + 1) / 4 = i by omega, show (4 * i + 2) / 4 = i by omega, show (4 * i + 3) / 4 = i by omega, show 3 - 4 * i % 4 = 3 by omega, show 3 - (4 * i + 1) % 4 = 2 by omega, show 3 - (4 * i + 2) % 4 = 1 by omega, show 3 - (4 * i + 3) % 4 = 0 by omega]
  rw [List.getD_eq_getElem?_getD, hu, Option.getD_some]
  omega
set_option maxRecDepth 100000 in
set_option maxHeartbeats 2000000 in
theorem ref_Digits (d : List UInt8) (hd : d.length = 16) (w : World) :
    Calls Tryd.prog 11 #[.agg (d.map B8).toArray] w fun e w' => ∃ a c, e = .returned (.slice a 68 c) ∧ Own w' w.heap.size 3 1 a 68 c (((List.range 68).map fun j => (dgs d j : Int)).map I64) ∧ Below w.heap.size w w' := by
  obtain ⟨DL, hDL⟩ : ∃ l, Hid ((((List.range 68).map fun j => (dgs d j : Int)).map I64) = l) := ⟨_, rfl⟩
  rw [hDL.out]
  go_enter Tryd.func11, Tryd.ntmps11
  go_wp2_with fail
  obtain ⟨w1, G1, hw1, e1, x1, b1, l1⟩ := allocs1 w (d.map B8) 23
  rw [← hw1, ← e1]
  have l0 : w.heap.size ≤ G1 := Nat.le_of_eq e1.symm
  clear hw1 e1
  have hd := hide hd
  go_loopg [3, 4, 5] 16 (fun gh p s v w' => ∃ (i : Nat) (a : Option Addr) (c : Nat), i ≤ 16 ∧ gh = 16 - i ∧ p = .slice a (4 * i) c ∧ s = .int .i64 (sumN d (4 * i) : Int) ∧ v = .int .i64 (i : Int) ∧ Own w' w1.heap.size 3 1 a (4 * i) c ((dl d (4 * i)).map I64) ∧ Below w1.heap.size w1 w')
  case atStart => exact ⟨0, none, 0, by omega, by omega, rfl, rfl, rfl, Own.nil _ _ _ _, Below.refl _ _⟩
  case round =>
    obtain ⟨i, a, c, hi, hg, rfl, rfl, rfl, ho, hb⟩ := hrel
    have HG := hide hg
    have y1 := x1.below hb l1
    have bb := b1.trans (hb.mono b1.size)
    have hsl := hide (sumN_le d (4 * i))
    clear hg
    by_cases hlt : i < 16
    · obtain ⟨u, hu⟩ : ∃ u, d[i]? = some u := ⟨d[i]'(by rw [hd.out]; omega), by simp⟩
      have q0 : wr.cell? ⟨G1, i, none⟩ = some (B8 u) := y1.at_ (box_at hu)
      have hu8 := UInt8.toNat_lt u
      have h4 := hide (dig_four hu)
      have d0 : decide ((i : Int) < 16) = true := decide_eq_true (by omega)
      clear hu
      go_wp2_with fail
      obtain ⟨p, hp⟩ : ∃ p : Nat → Nat, Hid (∀ k, p k = digN d (4 * i + k)) := ⟨_, fun _ => rfl⟩
      have e0 : (u.toNat : Int) / 64 = (p 0 : Int) := by rw [hp.out, Nat.add_zero, h4.out.1]; omega
      have e1 : (u.toNat : Int) / 16 % 4 = (p 1 : Int) := by rw [hp.out, h4.out.2.1]; omega
      have e2 : (u.toNat : Int) / 4 % 4 = (p 2 : Int) := by rw [hp.out, h4.out.2.2.1]; omega
      have e3 : (u.toNat : Int) % 4 = (p 3 : Int) := by rw [hp.out, h4.out.2.2.2]; omega
      rw [e0, e1, e2, e3]
      have hp3 : ∀ k, p k ≤ 3 := fun k => by rw [hp.out]; unfold digN; omega
      have hp3 := hide hp3
      clear e0 e1 e2 e3 h4 hu8 q0
      have hsz := hb.size
      obtain ⟨w2, G7, hw2, e7, x7, b2, l7⟩ := allocs1 wr (([p 0, p 1, p 2, p 3] : List Nat).map fun (n : Nat) => I64 (n : Int)) 3
      have ho2 := ho.below b2
      have hbb := hb.trans (b2.mono hb.size)
      have hne : ∀ q, a = some q → q.block ≠ G7 := fun q hq => by
        subst hq
        have := ho.base.2
        rw [e7]; omega
      have HNE := hide hne
      have HP := hide (fun k (hk : k < 4) => (show (([p 0, p 1, p 2, p 3] : List Nat).map fun (n : Nat) => I64 (n : Int))[k]? = some (I64 (p k : Int)) from by
        rcases (by omega : k = 0 ∨ k = 1 ∨ k = 2 ∨ k = 3) with rfl | rfl | rfl | rfl <;> rfl))
      obtain ⟨C7, hC7⟩ : ∃ C, Hid ((([p 0, p 1, p 2, p 3] : List Nat).map fun (n : Nat) => I64 (n : Int)) = C) := ⟨_, rfl⟩
      rw [hC7.out] at x7 HP
      rw [show (#[Value.int IntKind.i64 (p 0 : Int), Value.int IntKind.i64 (p 1 : Int), Value.int IntKind.i64 (p 2 : Int), Value.int IntKind.i64 (p 3 : Int)] : Array Value) = (([p 0, p 1, p 2, p 3] : List Nat).map fun (n : Nat) => I64 (n : Int)).toArray from rfl, ← hw2, ← e7]
      clear hw2 e7 ho hb b2 hne hsz
      go_loopg [3, 4, 8] 4 (fun gh o s v w' => ∃ (k : Nat) (a : Option Addr) (c : Nat), k ≤ 4 ∧ gh = 4 - k ∧ o = .slice a (4 * i + k) c ∧ s = .int .i64 (sumN d (4 * i + k) : Int) ∧ v = .int .i64 (k : Int) ∧ Own w' w1.heap.size 3 1 a (4 * i + k) c ((dl d (4 * i + k)).map I64) ∧ Box w' G7 3 C7 ∧ Hid (∀ q, a = some q → q.block ≠ G7) ∧ Below w1.heap.size w1 w')
      case atStart => exact ⟨0, a, c, by omega, by omega, rfl, rfl, rfl, ho2, x7, HNE, hbb⟩
      case round =>
        clear ho2 x7 HNE hbb
        obtain ⟨k, a3, c3, hk, hg3, rfl, rfl, rfl, ho3, x7, HNE, hb3⟩ := hrel
        have HG3 := hide hg3
        clear hg3
        by_cases hlt3 : k < 4
        · have q7 := x7.at_ (HP.out k hlt3)
          have f7 := x7.lt
          have hpk := hp3.out k
          have hsl3 := sumN_le d (4 * i + k)
          have d3 : decide ((k : Int) < 4) = true := decide_eq_true (by omega)
          have HS3 : Hid (sumN d (4 * i + (k + 1)) = sumN d (4 * i + k) + (3 - p k)) := hide (by rw [← Nat.add_assoc, sumN, hp.out])
          obtain ⟨S3, hS3⟩ : ∃ S, Hid (sumN d (4 * i + k) = S) := ⟨_, rfl⟩
          rw [hS3.out] at hsl3 HS3 ⊢
          obtain ⟨z, hz⟩ : ∃ z, Hid (p k = z) := ⟨_, rfl⟩
          rw [hz.out] at q7 hpk HS3
          have HD3 : Hid (dl d (4 * i + (k + 1)) = dl d (4 * i + k) ++ [(z : Int)]) := hide (by rw [← Nat.add_assoc, dl_succ, ← hp.out, hz.out])
          go_wp2_with (at_builtin; go_loud (refine append_lit_f rfl _ _ 25 rfl 3 (.int .i64 0) 1 8 Tryd.underlying25 info_int rfl w1 w1.heap.size _ _ _ _ rfl ho3 1 _ rfl rfl (by simp [Value.oneCell']) (by omega) (by unfold maxLen; omega) hb3.size hb3 ?_; intro a4 c4 w4 ho4 hgr4 hfr4 hb4; refine shold ?_))
          refine hide ?_
          have x8 := x7.grown hgr4 (fun e => by cases a3 with
            | none => cases e
            | some q => injection e with e; exact HNE.out q rfl e.symm)
          have HNE4 : Hid (∀ q, a4 = some q → q.block ≠ G7) := hide (fun q hq => by
            rcases hfr4 q hq with ⟨q3, h3, h4⟩ | h5
            · rw [← h4]; exact HNE.out q3 h3
            · omega)
          have q8 := x8.at_ (HP.out k hlt3)
          rw [hz.out] at q8
          clear hgr4 hfr4 q7 HNE x7 ho3 hb3 f7
          go_wp2_with fail
          go_roundg (4 - (k + 1))
          case measure => have := HG3.out; omega
          case rel =>
            refine ⟨k + 1, a4, c4, by omega, rfl, rfl, ?_, by go_num, ?_, x8, HNE4, hb4⟩
            · rw [HS3.out]; go_num
            · rw [HD3.out, List.map_append]; exact ho4
        · obtain rfl : k = 4 := by omega
          have d3 : decide ((4 : Int) < 4) = false := by decide
          go_wp2_with fail
          go_roundg (16 - (i + 1))
          case measure => have := HG.out; omega
          case rel => exact ⟨i + 1, a3, c3, by omega, rfl, by rw [show 4 * (i + 1) = 4 * i + 4 by omega], by rw [show 4 * (i + 1) = 4 * i + 4 by omega], by go_num, by rw [show 4 * (i + 1) = 4 * i + 4 by omega]; exact ho3, hb3⟩
    · obtain rfl : i = 16 := by omega
      have hsm : sumN d 64 ≤ 192 := by have := hsl.out; omega
      obtain ⟨S, hS⟩ : ∃ S, Hid (sumN d 64 = S) := ⟨_, rfl⟩
      have d0 : decide ((16 : Int) < 16) = false := by decide
      have HC : Hid (((dl d 64 ++ [((S / 64 : Nat) : Int), ((S / 16 % 4 : Nat) : Int), ((S / 4 % 4 : Nat) : Int), ((S % 4 : Nat) : Int)]).map I64) = DL) := hide (by
        rw [← hDL.out, ← dl_all]
        unfold dgs
        simp only [show ¬ (64 < 64) by omega, show ¬ (65 < 64) by omega, show ¬ (66 < 64) by omega, show ¬ (67 < 64) by omega, if_false]
        rw [hS.out] at hsm ⊢
        rw [show 67 - 64 = 3 by rfl, show 67 - 65 = 2 by rfl, show 67 - 66 = 1 by rfl, show 67 - 67 = 0 by rfl, show 4 ^ 3 = 64 by rfl, show 4 ^ 2 = 16 by rfl, show 4 ^ 1 = 4 by rfl, show 4 ^ 0 = 1 by rfl, Nat.div_one, show S / 64 % 4 = S / 64 by omega])
      rw [hS.out] at hsm
      have HS0 := hS.out
      rw [show 4 * 16 = 64 by rfl] at ho ⊢
      rw [HS0]
      clear HS0
      obtain ⟨s1, g1⟩ : ∃ n : Nat, n = S / 64 := ⟨_, rfl⟩
      obtain ⟨s2, g2⟩ : ∃ n : Nat, n = S / 16 := ⟨_, rfl⟩
      obtain ⟨s3, g3⟩ : ∃ n : Nat, n = S / 4 := ⟨_, rfl⟩
      have f1 : (S : Int) / 64 = (s1 : Int) := by omega
      have f2 : (S : Int) / 16 = (s2 : Int) := by omega
      have f3 : (S : Int) / 4 = (s3 : Int) := by omega
      have h1 : s1 ≤ 192 := by omega
      have h2 : s2 ≤ 192 := by omega
      have h3 : s3 ≤ 192 := by omega
      have HC2 : Hid (DL = (dl d 64).map I64 ++ [.int .i64 (s1 : Int), .int .i64 ((s2 : Int) % 4), .int .i64 ((s3 : Int) % 4), .int .i64 ((S : Int) % 4)]) := hide (by
        rw [← HC.out, List.map_append]
        have k1 : ((S / 64 : Nat) : Int) = (s1 : Int) := by omega
        have k2 : ((S / 16 % 4 : Nat) : Int) = (s2 : Int) % 4 := by omega
        have k3 : ((S / 4 % 4 : Nat) : Int) = (s3 : Int) % 4 := by omega
        have k4 : ((S % 4 : Nat) : Int) = (S : Int) % 4 := by omega
        rw [k1, k2, k3, k4]
        rfl)
      have hsm := hide hsm
      clear g1 g2 g3
      go_wp2_with (at_builtin; go_loud (refine append_lit_f rfl _ _ 25 rfl 3 (.int .i64 0) 1 8 Tryd.underlying25 info_int rfl w1 w1.heap.size _ _ _ _ rfl ho 4 _ rfl rfl (by intro u hu; simp at hu; rcases hu with rfl | rfl | rfl | rfl <;> rfl) (by omega) (by unfold maxLen; omega) hb.size hb ?_; intro a4 c4 w4 ho4 hgr4 hfr4 hb4))
      go_ret
      refine ⟨a4, c4, rfl, ?_, b1.trans (hb4.mono b1.size)⟩
      have ho5 := ho4.mono b1.size
      rw [HC2.out]
      exact ho5
end Go.Proofs.YtblgmjnkllkhbaaDoor
end

/- the text SL2 -/
section
/- Chapter 03: the walk of SignDigitsMatchSpec. -/
set_option linter.unusedVariables false
namespace Go.Proofs.YtblgmjnkllkhbaaDoor
open Go.RowKit Go.Dx
theorem cell_blw {w w' : World} {a : Addr} {v : Value} (h : w.cell? a = some v) (hb : Below w.heap.size w w') : w'.cell? a = some v := by
  rw [hb.cell (World.block_lt_of_cell? w _ h)]; exact h
set_option maxRecDepth 100000 in
set_option maxHeartbeats 4000000 in
theorem walk_Digits (d : List UInt8) (hd : d.length = 16) (w : World) (hL : Laid w) :
    Calls Tryd.prog 3 #[.agg (d.map B8).toArray] w fun e w' => e = .returned (.bool true) ∧ Below w.heap.size w w' := by
  have hd := hide hd
  have hzd : Hid ((Tryd.prog.info? 23).map (·.size) = some (d.map B8).length) := hide (by rw [List.length_map, hd.out]; exact size_dig')
  go_enter Tryd.func3, Tryd.ntmps3
  go_wp2_with fail
  obtain ⟨w1, Ga, hw1, e1, xa, b1, l1⟩ := allocs1 w (d.map B8) 23
  have hL1 := hide (hL.below b1)
  rw [← hw1, ← e1]
  clear hw1 e1 hL
  refine (law3_sanity w1 hL1.out).mono ?_
  rintro e w2 ⟨rfl, h2⟩
  have xa := xa.under h2
  have b2 := b1.trans (h2.mono b1.size)
  clear h2 b1 hL1
  go_wp2_with (with_reducible refine load_box 8 23 _ 23 Ga 0 (d.map B8) (d.map B8) isAgg_dig hzd.out xa rfl (fun j u hj => by rw [Nat.zero_add]; exact hj) ?_)
  refine (sg_Digits d hd.out _).mono ?_
  rintro e w3 ⟨bx, rfl, xx, hbx, h3⟩
  have xa := xa.under h3
  have b3 := b2.trans (h3.mono b2.size)
  clear h3 b2 hbx
  go_wp2_with (with_reducible refine load_box 10 23 _ 23 Ga 0 (d.map B8) (d.map B8) isAgg_dig hzd.out xa rfl (fun j u hj => by rw [Nat.zero_add]; exact hj) ?_)
  refine (ref_Digits d hd.out _).mono ?_
  rintro e w4 ⟨a4, c4, rfl, xy, h4⟩
  have xx := xx.under h4
  have b4 := b3.trans (h4.mono b3.size)
  clear h4 b3 xa
  obtain ⟨la, hla⟩ : ∃ l, Hid (((List.range 68).map fun j => (dgs d j : Int)) = l) := ⟨_, rfl⟩
  have ga : Hid (∀ j : Nat, j < 68 → la[j]? = some (dgs d j : Int)) := hide (fun j hj => by rw [← hla.out, List.getElem?_map, List.getElem?_range hj]; rfl)
  rw [hla.out] at xx xy
  obtain ⟨b5, o5, rfl, _, hc5⟩ := xy.sl.ex (by have := xy.sl.len; rw [List.length_map, ← hla.out, List.length_map, List.length_range] at this; rw [List.length_map, ← hla.out, List.length_map, List.length_range]; decide)
  have HC5 := hide hc5
  clear hc5 xy
  go_wp2_with fail
  go_loopg [6] 68 (fun gh v w' => ∃ k : Nat, k ≤ 68 ∧ gh = 68 - k ∧ v = .int .i64 (k : Int) ∧ Below w4.heap.size w4 w')
  case atStart => exact ⟨0, by omega, by omega, rfl, Below.refl _ _⟩
  case round =>
    obtain ⟨k, hk, hg, rfl, hb⟩ := hrel
    have HG := hide hg
    clear hg
    by_cases hlt : k < 68
    · obtain ⟨x, hx⟩ : ∃ x, Hid (dgs d k = x) := ⟨_, rfl⟩
      have hx3 : x ≤ 3 := by rw [← hx.out]; exact dgs_le d k
      have q1 : wr.cell? ⟨bx, k, none⟩ = some (I64 (x : Int)) := (xx.under hb).at_ (by rw [List.getElem?_map, ga.out k hlt, hx.out]; rfl)
      have q2 : wr.cell? ⟨b5, o5 + k, none⟩ = some (I64 (x : Int)) := cell_blw (HC5.out k _ (by rw [List.getElem?_map, ga.out k hlt, hx.out]; rfl)) hb
      have d0 : decide ((k : Int) < 68) = true := decide_eq_true (by omega)
      have d1 : decide ((x : Int) < 0) = false := decide_eq_false (by omega)
      have d2 : decide ((3 : Int) < (x : Int)) = false := decide_eq_false (by omega)
      have d3 : ((x : Int) != (x : Int)) = false := by simp
      have d4 : decide (3 < x) = false := decide_eq_false (by omega)
      go_wp2_with fail
      go_quiet (fail)
      go_wp2_with fail
      go_roundg (68 - (k + 1))
      case measure => have := HG.out; omega
      case rel => exact ⟨k + 1, by omega, rfl, by go_num, belowN hb _⟩
    · obtain rfl : k = 68 := by omega
      have d0 : decide ((68 : Int) < 68) = false := by decide
      go_wp2_with fail
      go_ret
      exact ⟨rfl, b4.trans (hb.mono b4.size)⟩
end Go.Proofs.YtblgmjnkllkhbaaDoor
end
