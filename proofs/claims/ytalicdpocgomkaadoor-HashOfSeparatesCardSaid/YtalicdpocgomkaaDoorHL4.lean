import Derived.Test.YtalicdpocgomkaaDoorHash19
import Derived.Test.YtalicdpocgomkaaDoorHash15
namespace Go.Proofs.YtalicdpocgomkaaDoor
open Go.RowKit Go.Dx

theorem guard_dig : Tryd.prog.eqGuardType Tryd.prog.depth 44 = false := by kernel_rfl
theorem i64_and255 (n : Int) : bits .and .i64 n 255 = n % 256 := by
  have h : (BitVec.ofInt 64 255).toNat = 2 ^ 8 - 1 := by decide
  have key : (BitVec.ofInt 64 n &&& BitVec.ofInt 64 255).toNat = (n % ((2 ^ 64 : Nat) : Int)).toNat % 2 ^ 8 := by
    rw [BitVec.toNat_and, BitVec.toNat_ofInt, h, Nat.and_two_pow_sub_one_eq_mod]
  show IntKind.i64.wrap ((BitVec.ofInt 64 n &&& BitVec.ofInt 64 255).toNat : Nat) = n % 256
  rw [key, IntKind.wrap_i64]
  omega
theorem input_mod (t : Int) (ps : List ByteArray) : inputL (t % 256) ps = inputL t ps := by
  unfold inputL tagB
  rw [Int.emod_emod_of_dvd _ (Int.dvd_refl 256)]
theorem rof_at {t : Int} {ps : List ByteArray} {r : List UInt8} (h : (sha (inputL t ps)).take 16 = r) (hn : ps.length ≤ 1000) (hsz : ∀ s ∈ ps, s.size ≤ 10000) {a : Option Addr} {n c : Nat} {w : World} (hL : LaidR w) (hs : Sl w 1 a n c (ps.map Value.string)) :
    Calls Tryd.prog 22 #[.int .i64 t, .slice a n c] w fun e w' => e = .returned (.agg (r.map B8).toArray) ∧ Below w.heap.size w w' := by subst h; exact rof_any t ps hn hsz hL hs
theorem few12_at {ps : List ByteArray} {b : Bool} (h : decide (ps.length ≤ 12 ∧ ∀ x ∈ ps, x.size ≤ 400) = b) {a : Option Addr} {n c : Nat} {w : World} (hs : Sl w 1 a n c (ps.map Value.string)) :
    Calls Tryd.prog 13 #[.slice a n c] w fun e w' => e = .returned (.bool b) ∧ w = w' := by subst h; exact few12_any ps hs
set_option maxRecDepth 100000 in
set_option maxHeartbeats 4000000 in
theorem walk_Of (t : Int) (ps : List ByteArray) (a : Option Addr) (n c : Nat) (w : World) (hs : Sl w 1 a n c (ps.map Value.string)) (hL : Laid w) (hR : LaidR w) :
    Calls Tryd.prog 7 #[.int .i64 t, .slice a n c] w fun e w' => e = .returned (.bool true) ∧ Below w.heap.size w w' := by
  obtain rfl := hs.n_eq
  have b0 : Below w.heap.size w w ∧ w.heap.size ≤ w.heap.size := ⟨Below.refl _ _, Nat.le_refl _⟩
  have hL := hide hL
  by_cases q1 : ps.length ≤ 12 ∧ ∀ x ∈ ps, x.size ≤ 400
  · have hF := hide (decide_eq_true q1)
    have hl12 := q1.1
    have HS := hide fun s (h : s ∈ ps) => show s.size ≤ 10000 by have := q1.2 s h; omega
    have h16 := zero_16
    obtain ⟨Z, hZ⟩ : ∃ Z, Hid (zero16.map B8 = Z) := ⟨_, rfl⟩
    rw [hZ.out] at h16
    have hZl : Z.length = 16 := by rw [← hZ.out]; rfl
    have HZl := hide hZl
    obtain ⟨D, hD⟩ : ∃ D, Hid ((sha (inputL t ps)).take 16 = D) := ⟨_, rfl⟩
    have hD2 : Hid ((sha (inputL (t % 256) ps)).take 16 = D) := by show _ = _; rw [input_mod]; exact hD.out
    have hDl : D.length = 16 := by rw [← hD.out, List.length_take, sha_len]; rfl
    have HDl := hide hDl
    have hzD : (Tryd.prog.info? 44).map (·.size) = some (D.map B8).length := by rw [List.length_map, HDl.out]; exact size_dig'
    have HzD := hide hzD
    clear q1 hZl hDl hzD
    go_enter Tryd.func7, Tryd.ntmps7
    go_wp2_with fail
    refine (law2_sanity w hL.out).mono ?_
    rintro e w1 ⟨rfl, h1⟩
    have b1 := bnext b0 h1
    clear h1 b0
    go_wp2_with fail
    refine (few12_at hF.out (hs.below b1.1)).mono ?_
    rintro e w1' ⟨rfl, rfl⟩
    go_wp2_with fail
    refine (of_at hD.out (by omega) HS.out (hL.out.below b1.1) (hs.below b1.1)).mono ?_
    rintro e w2 ⟨rfl, h1⟩
    have b2 := bnext b1 h1
    clear h1 b1
    go_wp2_with (with_reducible refine hold_store ?_)
    refine hide ?_
    refine store_all 44 _ _ 44 w2.heap.size Z (D.map B8) (.agg (D.map B8).toArray) HzD.out (Box.new w2 _ _) (by rfl) (by rfl) rfl (by rw [List.length_map, HDl.out, HZl.out]) (one_map _ (fun _ => rfl) _) ?_
    intro w3 x5 hg3 hs3
    have b3 : Below w.heap.size w w3 ∧ w.heap.size ≤ w3.heap.size := ⟨(b2.1.alloc b2.2 _).grown hg3 (by simp; have := b2.2; omega) (fun k hk => by cases hk; exact b2.2), by rw [hs3]; simp; have := b2.2; omega⟩
    generalize w2.heap.size = G at *
    have hs1 := hs.below b3.1
    have hR1 := hR.below b3.1
    clear hg3 hs3 b2 h16 hs hR
    go_wp2_with fail
    refine wp_region_free 16 [⟨0, 15, [15], fun vs _ => vs = [.bool true]⟩, ⟨1, 16, [16], fun vs _ => vs = [.bool true]⟩, ⟨2, 17, [17], fun vs _ => vs = [.agg (D.map B8).toArray]⟩, ⟨3, 18, [18], fun vs _ => vs = [.int .i64 t]⟩, ⟨4, 19, [19], fun vs _ => vs = [.slice a ps.length c]⟩, ⟨5, 20, [20], fun vs _ => vs = [.agg (D.map B8).toArray]⟩, ⟨6, 21, [21], fun vs _ => vs = [.bool true]⟩, ⟨7, 22, [22], fun vs _ => vs = [.bool true]⟩, ⟨8, 23, [23], fun vs _ => vs = [.bool true]⟩, ⟨9, 24, [24], fun vs _ => vs = [.agg (D.map B8).toArray]⟩, ⟨10, 25, [25], fun vs _ => vs = [.int .i64 t]⟩, ⟨11, 26, [26], fun vs _ => vs = [.int .i64 (t % 256)]⟩, ⟨12, 27, [27], fun vs _ => vs = [.slice a ps.length c]⟩, ⟨13, 28, [28], fun vs _ => vs = [.agg (D.map B8).toArray]⟩, ⟨14, 29, [29], fun vs _ => vs = [.bool true]⟩, ⟨15, 30, [30], fun vs _ => vs = [.bool true]⟩] (by kernel_rfl) (by kernel_rfl) ?_ ?_ ?_
    · simp only [All]
      refine ⟨fun _ _ _ _ h => h, fun _ _ _ _ h => h, fun _ _ _ _ h => h, fun _ _ _ _ h => h, fun _ _ _ _ h => h, fun _ _ _ _ h => h, fun _ _ _ _ h => h, fun _ _ _ _ h => h, fun _ _ _ _ h => h, fun _ _ _ _ h => h, fun _ _ _ _ h => h, fun _ _ _ _ h => h, fun _ _ _ _ h => h, fun _ _ _ _ h => h, fun _ _ _ _ h => h, fun _ _ _ _ h => h, trivial⟩
    · simp only [All]
      refine ⟨?_, ?_, ?_, ?_, ?_, ?_, ?_, ?_, ?_, ?_, ?_, ?_, ?_, ?_, ?_, ?_, trivial⟩
      · intro o ho a' w' hb hfr hdep
        obtain rfl := Option.some.inj ho
        have g5 : a'.tmps[5]?.getD undef = .bool true := by have h := hfr 5 (by kernel_rfl); simpa using h
        clear ho hfr hdep
        go_wp2_with fail
        exact ⟨rfl, _, rfl, Below.refl _ _, rfl⟩
      · intro o ho a' w' hb hfr hdep
        obtain rfl := Option.some.inj ho
        have g15 : a'.tmps[15]?.getD undef = .bool true := by have h := hdep 0 _ rfl (by kernel_rfl); simpa using h
        clear ho hfr hdep
        go_wp2_with fail
        exact ⟨rfl, _, rfl, Below.refl _ _, rfl⟩
      · intro o ho a' w' hb hfr hdep
        obtain rfl := Option.some.inj ho
        have g6 : a'.tmps[6]?.getD undef = .pointer (some ⟨G, 0, none⟩) := by have h := hfr 6 (by kernel_rfl); simpa using h
        have g16 : a'.tmps[16]?.getD undef = .bool true := by have h := hdep 1 _ rfl (by kernel_rfl); simpa using h
        have q16 := opt_bool g16
        clear ho hfr hdep
        refine load_box_g 17 44 _ 44 G 0 (D.map B8) (D.map B8) isAgg_dig HzD.out (x5.under hb) (by simpa [Act.eval] using g6) (fun j u hj => by rw [Nat.zero_add]; exact hj) (by simp [Region.wanted, yielded, q16]) ?_
        exact ⟨rfl, _, rfl, Below.refl _ _, rfl⟩
      · intro o ho a' w' hb hfr hdep
        obtain rfl := Option.some.inj ho
        have g0 : a'.tmps[0]?.getD undef = .int .i64 t := by have h := hfr 0 (by kernel_rfl); simpa using h
        have g16 : a'.tmps[16]?.getD undef = .bool true := by have h := hdep 1 _ rfl (by kernel_rfl); simpa using h
        have q16 := opt_bool g16
        clear ho hfr hdep
        go_wp2_with fail
        exact ⟨rfl, _, rfl, Below.refl _ _, rfl⟩
      · intro o ho a' w' hb hfr hdep
        obtain rfl := Option.some.inj ho
        have g1 : a'.tmps[1]?.getD undef = .slice a ps.length c := by have h := hfr 1 (by kernel_rfl); simpa using h
        have g16 : a'.tmps[16]?.getD undef = .bool true := by have h := hdep 1 _ rfl (by kernel_rfl); simpa using h
        have q16 := opt_bool g16
        clear ho hfr hdep
        go_wp2_with fail
        exact ⟨rfl, _, rfl, Below.refl _ _, rfl⟩
      · intro o ho a' w' hb hfr hdep
        obtain rfl := Option.some.inj ho
        have g18 : a'.tmps[18]?.getD undef = .int .i64 t := by have h := hdep 3 _ rfl (by kernel_rfl); simpa using h
        have g19 : a'.tmps[19]?.getD undef = .slice a ps.length c := by have h := hdep 4 _ rfl (by kernel_rfl); simpa using h
        have g16 : a'.tmps[16]?.getD undef = .bool true := by have h := hdep 1 _ rfl (by kernel_rfl); simpa using h
        have q16 := opt_bool g16
        clear ho hfr hdep
        go_wp2_with fail
        refine (rof_at hD.out (by omega) HS.out (hR1.below hb) (hs1.below hb)).mono ?_
        rintro e w2 ⟨rfl, h2⟩
        go_wp2_with fail
        exact ⟨rfl, _, rfl, h2, rfl⟩
      · intro o ho a' w' hb hfr hdep
        obtain rfl := Option.some.inj ho
        have g17 : a'.tmps[17]?.getD undef = .agg (D.map B8).toArray := by have h := hdep 2 _ rfl (by kernel_rfl); simpa using h
        have g20 : a'.tmps[20]?.getD undef = .agg (D.map B8).toArray := by have h := hdep 5 _ rfl (by kernel_rfl); simpa using h
        have g16 : a'.tmps[16]?.getD undef = .bool true := by have h := hdep 1 _ rfl (by kernel_rfl); simpa using h
        have q16 := opt_bool g16
        clear ho hfr hdep
        refine eql_bytes_g 21 44 _ _ _ _ Tryd.underlying44 Tryd.underlying5 size_u8 guard_dig D D (by simpa [Act.eval] using g17) (by simpa [Act.eval] using g20) HDl.out HDl.out (by simp [Region.wanted, yielded, q16]) ?_
        rw [decide_eq_true (Eq.refl D)]
        exact ⟨rfl, _, rfl, Below.refl _ _, rfl⟩
      · intro o ho a' w' hb hfr hdep
        obtain rfl := Option.some.inj ho
        have g16 : a'.tmps[16]?.getD undef = .bool true := by have h := hdep 1 _ rfl (by kernel_rfl); simpa using h
        have g21 : a'.tmps[21]?.getD undef = .bool true := by have h := hdep 6 _ rfl (by kernel_rfl); simpa using h
        clear ho hfr hdep
        go_wp2_with fail
        exact ⟨rfl, _, rfl, Below.refl _ _, rfl⟩
      · intro o ho a' w' hb hfr hdep
        obtain rfl := Option.some.inj ho
        have g22 : a'.tmps[22]?.getD undef = .bool true := by have h := hdep 7 _ rfl (by kernel_rfl); simpa using h
        clear ho hfr hdep
        go_wp2_with fail
        exact ⟨rfl, _, rfl, Below.refl _ _, rfl⟩
      · intro o ho a' w' hb hfr hdep
        obtain rfl := Option.some.inj ho
        have g6 : a'.tmps[6]?.getD undef = .pointer (some ⟨G, 0, none⟩) := by have h := hfr 6 (by kernel_rfl); simpa using h
        have g23 : a'.tmps[23]?.getD undef = .bool true := by have h := hdep 8 _ rfl (by kernel_rfl); simpa using h
        have q23 := opt_bool g23
        clear ho hfr hdep
        refine load_box_g 24 44 _ 44 G 0 (D.map B8) (D.map B8) isAgg_dig HzD.out (x5.under hb) (by simpa [Act.eval] using g6) (fun j u hj => by rw [Nat.zero_add]; exact hj) (by simp [Region.wanted, yielded, q23]) ?_
        exact ⟨rfl, _, rfl, Below.refl _ _, rfl⟩
      · intro o ho a' w' hb hfr hdep
        obtain rfl := Option.some.inj ho
        have g0 : a'.tmps[0]?.getD undef = .int .i64 t := by have h := hfr 0 (by kernel_rfl); simpa using h
        have g23 : a'.tmps[23]?.getD undef = .bool true := by have h := hdep 8 _ rfl (by kernel_rfl); simpa using h
        have q23 := opt_bool g23
        clear ho hfr hdep
        go_wp2_with fail
        exact ⟨rfl, _, rfl, Below.refl _ _, rfl⟩
      · intro o ho a' w' hb hfr hdep
        obtain rfl := Option.some.inj ho
        have g25 : a'.tmps[25]?.getD undef = .int .i64 t := by have h := hdep 10 _ rfl (by kernel_rfl); simpa using h
        have g23 : a'.tmps[23]?.getD undef = .bool true := by have h := hdep 8 _ rfl (by kernel_rfl); simpa using h
        have q23 := opt_bool g23
        clear ho hfr hdep
        have hand := i64_and255 t
        go_wp2_with fail
        exact ⟨rfl, _, rfl, Below.refl _ _, rfl⟩
      · intro o ho a' w' hb hfr hdep
        obtain rfl := Option.some.inj ho
        have g1 : a'.tmps[1]?.getD undef = .slice a ps.length c := by have h := hfr 1 (by kernel_rfl); simpa using h
        have g23 : a'.tmps[23]?.getD undef = .bool true := by have h := hdep 8 _ rfl (by kernel_rfl); simpa using h
        have q23 := opt_bool g23
        clear ho hfr hdep
        go_wp2_with fail
        exact ⟨rfl, _, rfl, Below.refl _ _, rfl⟩
      · intro o ho a' w' hb hfr hdep
        obtain rfl := Option.some.inj ho
        have g26 : a'.tmps[26]?.getD undef = .int .i64 (t % 256) := by have h := hdep 11 _ rfl (by kernel_rfl); simpa using h
        have g27 : a'.tmps[27]?.getD undef = .slice a ps.length c := by have h := hdep 12 _ rfl (by kernel_rfl); simpa using h
        have g23 : a'.tmps[23]?.getD undef = .bool true := by have h := hdep 8 _ rfl (by kernel_rfl); simpa using h
        have q23 := opt_bool g23
        clear ho hfr hdep
        go_wp2_with fail
        refine (of_at hD2.out (by omega) HS.out (hL.out.below (b3.1.trans (hb.mono b3.2))) (hs1.below hb)).mono ?_
        rintro e w2 ⟨rfl, h2⟩
        go_wp2_with fail
        exact ⟨rfl, _, rfl, h2, rfl⟩
      · intro o ho a' w' hb hfr hdep
        obtain rfl := Option.some.inj ho
        have g24 : a'.tmps[24]?.getD undef = .agg (D.map B8).toArray := by have h := hdep 9 _ rfl (by kernel_rfl); simpa using h
        have g28 : a'.tmps[28]?.getD undef = .agg (D.map B8).toArray := by have h := hdep 13 _ rfl (by kernel_rfl); simpa using h
        have g23 : a'.tmps[23]?.getD undef = .bool true := by have h := hdep 8 _ rfl (by kernel_rfl); simpa using h
        have q23 := opt_bool g23
        clear ho hfr hdep
        refine eql_bytes_g 29 44 _ _ _ _ Tryd.underlying44 Tryd.underlying5 size_u8 guard_dig D D (by simpa [Act.eval] using g24) (by simpa [Act.eval] using g28) HDl.out HDl.out (by simp [Region.wanted, yielded, q23]) ?_
        rw [decide_eq_true (Eq.refl D)]
        exact ⟨rfl, _, rfl, Below.refl _ _, rfl⟩
      · intro o ho a' w' hb hfr hdep
        obtain rfl := Option.some.inj ho
        have g23 : a'.tmps[23]?.getD undef = .bool true := by have h := hdep 8 _ rfl (by kernel_rfl); simpa using h
        have g29 : a'.tmps[29]?.getD undef = .bool true := by have h := hdep 14 _ rfl (by kernel_rfl); simpa using h
        clear ho hfr hdep
        go_wp2_with fail
        exact ⟨rfl, _, rfl, Below.refl _ _, rfl⟩
    · intro g w2 hb hp
      have p15 := hp 15 _ rfl
      clear hp
      simp at p15
      simp only [List.map_cons, List.map_nil, putAll, Act.put, List.setIfInBounds_toArray, List.set_cons_succ, List.set_cons_zero, p15]
      go_wp2_with fail
      go_ret
      exact ⟨rfl, b3.1.trans (hb.mono b3.2)⟩
  · have hF := hide (decide_eq_false q1)
    clear q1
    go_enter Tryd.func7, Tryd.ntmps7
    go_wp2_with fail
    refine (law2_sanity w hL.out).mono ?_
    rintro e w1 ⟨rfl, h1⟩
    have b1 := bnext b0 h1
    clear h1 b0
    go_wp2_with fail
    refine (few12_at hF.out (hs.below b1.1)).mono ?_
    rintro e w1' ⟨rfl, rfl⟩
    go_wp2_with fail
    go_ret
    exact ⟨rfl, b1.1⟩
end Go.Proofs.YtalicdpocgomkaaDoor
