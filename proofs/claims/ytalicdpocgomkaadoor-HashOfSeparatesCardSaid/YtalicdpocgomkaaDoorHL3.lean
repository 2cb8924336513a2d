import Derived.Test.YtalicdpocgomkaaDoorHash19
import Derived.Test.YtalicdpocgomkaaDoorHash15
namespace Go.Proofs.YtalicdpocgomkaaDoor
open Go.RowKit Go.Dx

theorem rsum_at {l r : List UInt8} (h : sha l = r) (hl : l.length ≤ 100000000) {a : Option Addr} {n c : Nat} {w : World} (hL : LaidR w) (hs : Sl w 1 a n c (l.map B8)) :
    Calls Tryd.prog 12 #[.slice a n c] w fun e w' => e = .returned (.agg (r.map B8).toArray) ∧ Below w.heap.size w w' := by subst h; exact ref_Sum l hl a n c w hL hs
set_option maxRecDepth 100000 in
set_option maxHeartbeats 2000000 in
theorem walk_Sum (l : List UInt8) (a : Option Addr) (n c : Nat) (w : World) (hs : Sl w 1 a n c (l.map B8)) (hL : Laid w) (hR : LaidR w) :
    Calls Tryd.prog 3 #[.slice a n c] w fun e w' => e = .returned (.bool true) ∧ Below w.heap.size w w' := by
  obtain rfl := hs.n_eq
  have hm := Nat.le_trans hs.le hs.cap
  unfold maxLen at hm
  by_cases q1 : 1000 < l.length
  · go_enter Tryd.func3, Tryd.ntmps3
    go_wp2_with (go_at_call 10; refine (law2_sanity w hL).mono ?_; rintro e w1 ⟨rfl, hb⟩)
    go_ret
    exact ⟨rfl, hb⟩
  have b0 : Below w.heap.size w w ∧ w.heap.size ≤ w.heap.size := ⟨Below.refl _ _, Nat.le_refl _⟩
  have h32 := zero_32
  obtain ⟨Y, hY⟩ : ∃ Y, Hid (zero32.map B8 = Y) := ⟨_, rfl⟩
  rw [hY.out] at h32
  have hYl : Y.length = 32 := by rw [← hY.out, zero32_len]
  have HYl := hide hYl
  obtain ⟨S, hS⟩ : ∃ S, Hid (sha l = S) := ⟨_, rfl⟩
  have hSl : S.length = 32 := by rw [← hS.out, sha_len]
  have HSl := hide hSl
  have hzS : (Tryd.prog.info? 24).map (·.size) = some (S.map B8).length := by rw [List.length_map, HSl.out]; exact size_32
  have HzS := hide hzS
  have hLm : (⟨l.toArray⟩ : ByteArray).size ≤ maxLen := by show l.toArray.size ≤ maxLen; rw [List.size_toArray]; unfold maxLen; omega
  have HLm := hide hLm
  have hL := hide hL
  clear hYl hSl hzS hLm
  go_enter Tryd.func3, Tryd.ntmps3
  go_wp2_with fail
  refine (law2_sanity w hL.out).mono ?_
  rintro e w1 ⟨rfl, h1⟩
  have b1 := bnext b0 h1
  clear h1 b0
  go_wp2_with (with_reducible refine to_str 12 _ _ _ _ l rfl (hs.below b1.1) ?_)
  refine (hsum_at hS.out (by omega) (hL.out.below b1.1) (hs.below b1.1)).mono ?_
  rintro e w2 ⟨rfl, h1⟩
  have b2 := bnext b1 h1
  clear h1 b1
  go_wp2_with (with_reducible refine hold_store ?_)
  refine hide ?_
  refine store_all 24 _ _ 24 w2.heap.size Y (S.map B8) (.agg (S.map B8).toArray) HzS.out (Box.new w2 _ _) (by rfl) (by rfl) rfl (by rw [List.length_map, HSl.out, HYl.out]) (one_map _ (fun _ => rfl) _) ?_
  intro w3 x5 hg3 hs3
  have b3 : Below w.heap.size w w3 ∧ w.heap.size ≤ w3.heap.size := ⟨(b2.1.alloc b2.2 _).grown hg3 (by simp; have := b2.2; omega) (fun k hk => by cases hk; exact b2.2), by rw [hs3]; simp; have := b2.2; omega⟩
  generalize w2.heap.size = G at *
  have hs1 := hs.below b3.1
  have hR1 := hR.below b3.1
  clear hg3 hs3 b2 h32 hs hR
  go_wp2_with fail
  refine wp_region_free 14 [⟨0, 15, [15], fun vs _ => vs = [.bool true]⟩, ⟨1, 16, [16], fun vs _ => vs = [.bool true]⟩, ⟨2, 17, [17], fun vs _ => vs = [.agg (S.map B8).toArray]⟩, ⟨3, 18, [18], fun vs _ => vs = [.string ⟨l.toArray⟩]⟩, ⟨4, 19, [19], fun vs w => ∃ a c, vs = [.slice a l.length c] ∧ Sl w 1 a l.length c (l.map B8)⟩, ⟨5, 20, [20], fun vs _ => vs = [.agg (S.map B8).toArray]⟩, ⟨6, 21, [21], fun vs _ => vs = [.bool true]⟩, ⟨7, 22, [22], fun vs _ => vs = [.bool true]⟩, ⟨8, 23, [23], fun vs _ => vs = [.bool true]⟩, ⟨9, 24, [24], fun vs _ => vs = [.slice a l.length c]⟩, ⟨10, 25, [25], fun vs _ => vs = [.string ⟨l.toArray⟩]⟩, ⟨11, 26, [26], fun vs _ => vs = [.string ⟨l.toArray⟩]⟩, ⟨12, 27, [27], fun vs _ => vs = [.bool true]⟩, ⟨13, 28, [28], fun vs _ => vs = [.bool true]⟩] (by kernel_rfl) (by kernel_rfl) ?_ ?_ ?_
  · simp only [All]
    refine ⟨fun _ _ _ _ h => h, fun _ _ _ _ h => h, fun _ _ _ _ h => h, fun _ _ _ _ h => h, ?_, fun _ _ _ _ h => h, fun _ _ _ _ h => h, fun _ _ _ _ h => h, fun _ _ _ _ h => h, fun _ _ _ _ h => h, fun _ _ _ _ h => h, fun _ _ _ _ h => h, fun _ _ _ _ h => h, fun _ _ _ _ h => h, trivial⟩
    · rintro vs w2 w3 hb ⟨a, c, h1, h2⟩
      exact ⟨a, c, h1, h2.below hb⟩
  · simp only [All]
    refine ⟨?_, ?_, ?_, ?_, ?_, ?_, ?_, ?_, ?_, ?_, ?_, ?_, ?_, ?_, trivial⟩
    · intro o ho a' w' hb hfr hdep
      obtain rfl := Option.some.inj ho
      have g3 : a'.tmps[3]?.getD undef = .bool true := by have h := hfr 3 (by kernel_rfl); simpa using h
      clear ho hfr hdep
      go_wp2_with fail
      exact ⟨rfl, _, rfl, Below.refl _ _, rfl⟩
    · intro o ho a' w' hb hfr hdep
      obtain rfl := Option.some.inj ho
      have g15 : a'.tmps[15]?.getD undef = .bool true := by have h := hdep 0 _ rfl (by kernel_rfl); simpa using h
      clear ho hfr hdep
      go_wp2_with fail
      exact ⟨rfl, _, rfl, Below.refl _ _, rfl⟩
    · intro o ho a' w' hb hfr hdep
      obtain rfl := Option.some.inj ho
      have g5 : a'.tmps[5]?.getD undef = .pointer (some ⟨G, 0, none⟩) := by have h := hfr 5 (by kernel_rfl); simpa using h
      have g16 : a'.tmps[16]?.getD undef = .bool true := by have h := hdep 1 _ rfl (by kernel_rfl); simpa using h
      have q16 := opt_bool g16
      clear ho hfr hdep
      refine load_box_g 17 24 _ 24 G 0 (S.map B8) (S.map B8) isAgg_32 HzS.out (x5.under hb) (by simpa [Act.eval] using g5) (fun j u hj => by rw [Nat.zero_add]; exact hj) (by simp [Region.wanted, yielded, q16]) ?_
      exact ⟨rfl, _, rfl, Below.refl _ _, rfl⟩
    · intro o ho a' w' hb hfr hdep
      obtain rfl := Option.some.inj ho
      have g4 : a'.tmps[4]?.getD undef = .string ⟨l.toArray⟩ := by have h := hfr 4 (by kernel_rfl); simpa using h
      have g16 : a'.tmps[16]?.getD undef = .bool true := by have h := hdep 1 _ rfl (by kernel_rfl); simpa using h
      have q16 := opt_bool g16
      clear ho hfr hdep
      go_wp2_with fail
      exact ⟨rfl, _, rfl, Below.refl _ _, rfl⟩
    · intro o ho a' w' hb hfr hdep
      obtain rfl := Option.some.inj ho
      have g18 : a'.tmps[18]?.getD undef = .string ⟨l.toArray⟩ := by have h := hdep 3 _ rfl (by kernel_rfl); simpa using h
      have g16 : a'.tmps[16]?.getD undef = .bool true := by have h := hdep 1 _ rfl (by kernel_rfl); simpa using h
      have q16 := opt_bool g16
      clear ho hfr hdep
      refine unguard_any (by simp [Region.wanted, yielded, q16]) ?_
      refine to_bytes 19 _ ⟨l.toArray⟩ (by simpa [Act.eval] using g18) HLm.out ?_
      intro a2 c2 w2 s2 hb2 hp2
      exact ⟨rfl, _, rfl, hb2, a2, c2, rfl, s2⟩
    · intro o ho a' w' hb hfr hdep
      obtain rfl := Option.some.inj ho
      obtain ⟨a2, c2, g19, s2⟩ := hdep 4 _ rfl (by kernel_rfl)
      have g19 : a'.tmps[19]?.getD undef = .slice a2 l.length c2 := by simpa using g19
      have g16 : a'.tmps[16]?.getD undef = .bool true := by have h := hdep 1 _ rfl (by kernel_rfl); simpa using h
      have q16 := opt_bool g16
      clear ho hfr hdep
      go_wp2_with fail
      refine (rsum_at hS.out (by omega) (hR1.below hb) s2).mono ?_
      rintro e w2 ⟨rfl, h2⟩
      go_wp2_with fail
      exact ⟨rfl, _, rfl, h2, rfl⟩
    · intro o ho a' w' hb hfr hdep
      obtain rfl := Option.some.inj ho
      have g17 : a'.tmps[17]?.getD undef = .agg (S.map B8).toArray := by have h := hdep 2 _ rfl (by kernel_rfl); simpa using h
      have g20 : a'.tmps[20]?.getD undef = .agg (S.map B8).toArray := by have h := hdep 5 _ rfl (by kernel_rfl); simpa using h
      have g16 : a'.tmps[16]?.getD undef = .bool true := by have h := hdep 1 _ rfl (by kernel_rfl); simpa using h
      have q16 := opt_bool g16
      clear ho hfr hdep
      refine eql_bytes_g 21 24 _ _ _ _ Tryd.underlying24 Tryd.underlying5 size_u8 guard_32 S S (by simpa [Act.eval] using g17) (by simpa [Act.eval] using g20) HSl.out HSl.out (by simp [Region.wanted, yielded, q16]) ?_
      rw [decide_eq_true (Eq.refl S)]
      exact ⟨rfl, _, rfl, Below.refl _ _, rfl⟩
    · intro o ho a' w' hb hfr hdep
      obtain rfl := Option.some.inj ho
      have g16 : a'.tmps[16]?.getD undef = .bool true := by have h := hdep 1 _ rfl (by kernel_rfl); simpa using h
      have g21 : a'.tmps[21]?.getD undef = .bool true := by have h := hdep 6 _ rfl (by kernel_rfl); simpa using h
      clear ho hfr hdep
      go_wp2_with fail
      exact ⟨rfl, _, rfl, Below.refl _ _, rfl⟩
    · intro o ho a' w' hb hfr hdep
      obtain rfl := Option.some.inj ho
      have g22 : a'.tmps[22]?.getD undef = .bool true := by have h := hdep 7 _ rfl (by kernel_rfl); simpa using h
      clear ho hfr hdep
      go_wp2_with fail
      exact ⟨rfl, _, rfl, Below.refl _ _, rfl⟩
    · intro o ho a' w' hb hfr hdep
      obtain rfl := Option.some.inj ho
      have g0 : a'.tmps[0]?.getD undef = .slice a l.length c := by have h := hfr 0 (by kernel_rfl); simpa using h
      have g23 : a'.tmps[23]?.getD undef = .bool true := by have h := hdep 8 _ rfl (by kernel_rfl); simpa using h
      have q23 := opt_bool g23
      clear ho hfr hdep
      go_wp2_with fail
      exact ⟨rfl, _, rfl, Below.refl _ _, rfl⟩
    · intro o ho a' w' hb hfr hdep
      obtain rfl := Option.some.inj ho
      have g24 : a'.tmps[24]?.getD undef = .slice a l.length c := by have h := hdep 9 _ rfl (by kernel_rfl); simpa using h
      have g23 : a'.tmps[23]?.getD undef = .bool true := by have h := hdep 8 _ rfl (by kernel_rfl); simpa using h
      have q23 := opt_bool g23
      clear ho hfr hdep
      refine unguard_any (by simp [Region.wanted, yielded, q23]) ?_
      refine to_str 25 _ a l.length c l (by simpa [Act.eval] using g24) (hs1.below hb) ?_
      exact ⟨rfl, _, rfl, Below.refl _ _, rfl⟩
    · intro o ho a' w' hb hfr hdep
      obtain rfl := Option.some.inj ho
      have g4 : a'.tmps[4]?.getD undef = .string ⟨l.toArray⟩ := by have h := hfr 4 (by kernel_rfl); simpa using h
      have g23 : a'.tmps[23]?.getD undef = .bool true := by have h := hdep 8 _ rfl (by kernel_rfl); simpa using h
      have q23 := opt_bool g23
      clear ho hfr hdep
      go_wp2_with fail
      exact ⟨rfl, _, rfl, Below.refl _ _, rfl⟩
    · intro o ho a' w' hb hfr hdep
      obtain rfl := Option.some.inj ho
      have g25 : a'.tmps[25]?.getD undef = .string ⟨l.toArray⟩ := by have h := hdep 10 _ rfl (by kernel_rfl); simpa using h
      have g26 : a'.tmps[26]?.getD undef = .string ⟨l.toArray⟩ := by have h := hdep 11 _ rfl (by kernel_rfl); simpa using h
      have g23 : a'.tmps[23]?.getD undef = .bool true := by have h := hdep 8 _ rfl (by kernel_rfl); simpa using h
      have q23 := opt_bool g23
      clear ho hfr hdep
      go_wp2_with fail
      exact ⟨rfl, _, rfl, Below.refl _ _, rfl⟩
    · intro o ho a' w' hb hfr hdep
      obtain rfl := Option.some.inj ho
      have g23 : a'.tmps[23]?.getD undef = .bool true := by have h := hdep 8 _ rfl (by kernel_rfl); simpa using h
      have g27 : a'.tmps[27]?.getD undef = .bool true := by have h := hdep 12 _ rfl (by kernel_rfl); simpa using h
      clear ho hfr hdep
      go_wp2_with fail
      exact ⟨rfl, _, rfl, Below.refl _ _, rfl⟩
  · intro g w2 hb hp
    have p13 := hp 13 _ rfl
    clear hp
    simp at p13
    simp only [List.map_cons, List.map_nil, putAll, Act.put, List.setIfInBounds_toArray, List.set_cons_succ, List.set_cons_zero, p13]
    go_wp2_with fail
    go_ret
    exact ⟨rfl, b3.1.trans (hb.mono b3.2)⟩
end Go.Proofs.YtalicdpocgomkaaDoor
