import Derived.Test.YtalicdpocgomkaaDoorHash12
import Derived.Test.YtalicdpocgomkaaDoorWireB
import Derived.Test.YtalicdpocgomkaaDoorFree
namespace Go.Proofs.YtalicdpocgomkaaDoor
open Go.RowKit Go.Dx

def tagB (t : Int) : UInt8 := UInt8.ofNat (t % 256).toNat
theorem tagB_int (t : Int) : t % 256 = ((tagB t).toNat : Int) := by
  unfold tagB
  rw [UInt8.toNat_ofNat']
  omega
/-- the input of a digest -/
def inputL (t : Int) (ps : List ByteArray) : List UInt8 := tagB t :: ps.flatMap fun s => encBytes s.data.toList
theorem input_next {t : Int} {ps : List ByteArray} {k : Nat} {s : ByteArray} (h : ps[k]? = some s) : inputL t (ps.take (k + 1)) = inputL t (ps.take k) ++ encBytes s.data.toList := by
  unfold inputL
  rw [take_next h, List.flatMap_append]
  simp
theorem input_len {t : Int} {ps : List ByteArray} (h : ∀ s ∈ ps, s.size ≤ 10000) : (inputL t ps).length ≤ 1 + 10009 * ps.length := by
  unfold inputL
  rw [List.length_cons]
  induction ps with
  | nil => simp
  | cons x l ih =>
    have h1 := h x List.mem_cons_self
    have h2 := encInt_le (x.data.toList.length : Int)
    have h3 : x.data.toList.length = x.size := Array.length_toList
    have h4 := ih fun y hy => h y (List.mem_cons_of_mem _ hy)
    rw [List.flatMap_cons, List.length_append, List.length_cons]
    unfold encBytes at *
    rw [List.length_append]
    omega
theorem size_dig'  : (Tryd.prog.info? 44).map (·.size) = some 16 := by kernel_rfl
theorem isAgg_dig : IsAgg Tryd.prog 44 := .inl ⟨_, _, Tryd.underlying44⟩
def zero16 : List UInt8 := List.replicate 16 0
theorem zero_16 (W : World) : (zeroValue 44).run Tryd.prog W = .ok (.agg (zero16.map B8).toArray) W := by kernel_rfl
set_option maxRecDepth 100000 in
set_option maxHeartbeats 2000000 in
theorem of_any (t : Int) (ps : List ByteArray) (hn : ps.length ≤ 1000) (hsz : ∀ s ∈ ps, s.size ≤ 10000) {a : Option Addr} {n c : Nat} {w : World} (hL : Laid w) (hs : Sl w 1 a n c (ps.map Value.string)) :
    Calls Tryd.prog 21 #[.int .i64 t, .slice a n c] w fun e w' => e = .returned (.agg (((sha (inputL t ps)).take 16).map B8).toArray) ∧ Below w.heap.size w w' := by
  obtain rfl := hs.n_eq
  have h16 := zero_16
  obtain ⟨Z, hZ⟩ : ∃ Z, Hid (zero16.map B8 = Z) := ⟨_, rfl⟩
  rw [hZ.out] at h16
  go_enter Tryd.func21, Tryd.ntmps21
  go_wp2_with fail
  have x4 : Box (w.alloc (.cells Z.toArray 44)) w.heap.size 44 Z := Box.new w _ _
  have b1 : Below w.heap.size w (w.alloc (.cells Z.toArray 44)) := (Below.refl _ _).alloc (Nat.le_refl _) _
  have hL1 := hL.below b1
  have hs1 := hs.below b1
  have x4w1 := hide x4.lt
  have hL0w := hL
  have hs0w := hs
  clear hL hs h16
  generalize w.alloc (.cells Z.toArray 44) = w1 at *
  refine wp_region_free 7 [⟨0, 9, [9], fun vs _ => vs = [SV []]⟩, ⟨1, 10, [10], fun vs _ => vs = [.int .i64 t]⟩, ⟨2, 11, [11], fun vs _ => vs = [B8 (tagB t)]⟩,
    ⟨3, 12, [12], fun vs w => ∃ g, vs = [.slice (some ⟨g, 0, none⟩) 1 1] ∧ Box w g 5 [B8 (tagB t)]⟩, ⟨4, 13, [13], fun vs _ => vs = [.string ⟨#[tagB t]⟩]⟩, ⟨5, 14, [14], fun vs _ => vs = [SV [tagB t]]⟩,
    ⟨6, 5, [5], fun vs w => ∃ g S, vs = [.pointer (some ⟨g, 0, none⟩)] ∧ Box w g 34 S ∧ S.length = 73 ∧ w1.heap.size ≤ g⟩] (by kernel_rfl) (by kernel_rfl) ?_ ?_ ?_
  · simp only [All]
    refine ⟨fun _ _ _ _ h => h, fun _ _ _ _ h => h, fun _ _ _ _ h => h, ?_, fun _ _ _ _ h => h, fun _ _ _ _ h => h, ?_, trivial⟩
    · rintro vs w2 w3 hb ⟨g, h1, h2⟩
      exact ⟨g, h1, h2.under hb⟩
    · rintro vs w2 w3 hb ⟨g, S, h1, h2, h3⟩
      exact ⟨g, S, h1, h2.under hb, h3⟩
  · simp only [All]
    refine ⟨?_, ?_, ?_, ?_, ?_, ?_, ?_, trivial⟩
    · intro o ho a' w' hb hfr hdep
      obtain rfl := Option.some.inj ho
      clear ho hfr hdep
      go_wp2_with (go_at_call 14; refine (Begin_at _).mono ?_; rintro e w2 ⟨rfl, h2⟩)
      exact ⟨rfl, _, rfl, h2, rfl⟩
    · intro o ho a' w' hb hfr hdep
      obtain rfl := Option.some.inj ho
      have g0 : a'.tmps[0]?.getD undef = .int .i64 t := by have h := hfr 0 (by kernel_rfl); simpa using h
      clear ho hfr hdep
      go_wp2_with fail
      exact ⟨rfl, _, rfl, Below.refl _ _, rfl⟩
    · intro o ho a' w' hb hfr hdep
      obtain rfl := Option.some.inj ho
      have g0 : a'.tmps[10]?.getD undef = .int .i64 t := by have h := hdep 1 _ rfl (by kernel_rfl); simpa using h
      clear ho hfr hdep
      go_wp2_with fail
      refine ⟨rfl, _, rfl, Below.refl _ _, ?_⟩
      show [Value.int .u8 (t % 256)] = [B8 (tagB t)]
      rw [tagB_int]
    · intro o ho a' w' hb hfr hdep
      obtain rfl := Option.some.inj ho
      have g0 : a'.tmps[11]?.getD undef = B8 (tagB t) := by have h := hdep 2 _ rfl (by kernel_rfl); simpa using h
      clear ho hfr hdep
      go_wp2_with fail
      refine ⟨rfl, _, rfl, (Below.refl _ _).alloc (Nat.le_refl _) _, _, rfl, Box.new _ _ _⟩
    · intro o ho a' w' hb hfr hdep
      obtain rfl := Option.some.inj ho
      obtain ⟨g, g0, x0⟩ := hdep 3 _ rfl (by kernel_rfl)
      have g0 : a'.tmps[12]?.getD undef = .slice (some ⟨g, 0, none⟩) 1 1 := by simpa using g0
      clear ho hfr hdep
      refine to_str 13 _ _ _ _ [tagB t] (by simpa [Act.eval] using g0) (x0.sl 0 1 1 1 _ rfl (Nat.le_refl _) (by decide) (fun j u h => by rw [Nat.zero_add]; exact h)) ?_
      exact ⟨rfl, _, rfl, Below.refl _ _, rfl⟩
    · intro o ho a' w' hb hfr hdep
      obtain rfl := Option.some.inj ho
      have g0 : a'.tmps[9]?.getD undef = SV [] := by have h := hdep 0 _ rfl (by kernel_rfl); simpa using h
      have g1 : a'.tmps[13]?.getD undef = .string ⟨#[tagB t]⟩ := by have h := hdep 4 _ rfl (by kernel_rfl); simpa using h
      clear ho hfr hdep
      go_wp2_with fail
      refine (add_at (m := []) (r := [tagB t]) rfl (by simp) _ (hL1.below hb)).mono ?_
      rintro e w2 ⟨rfl, h2⟩
      go_wp2_with fail
      exact ⟨rfl, _, rfl, h2, rfl⟩
    · intro o ho a' w' hb hfr hdep
      obtain rfl := Option.some.inj ho
      have h3 := zero_strm
      have k2 : (strm Z0 (List.replicate 64 0) 0).length = 73 := strm_length _ (by simp) _
      generalize strm Z0 (List.replicate 64 0) 0 = S at *
      have k2 := hide k2
      clear ho hfr hdep
      go_wp2_with fail
      exact ⟨rfl, _, rfl, (Below.refl _ _).alloc (Nat.le_refl _) _, _, S, rfl, Box.new _ _ _, k2.out, hb.size⟩
  · intro g w2 hb hp
    have p5 := hp 5 _ rfl
    obtain ⟨g5, S, p6, x5, hS, hg⟩ := hp 6 _ rfl
    clear hp
    simp at p5 p6
    simp only [List.map_cons, List.map_nil, putAll, Act.put, List.setIfInBounds_toArray, List.set_cons_succ, List.set_cons_zero, p5, p6]
    have hzs : (Tryd.prog.info? 34).map (·.size) = some (SC [tagB t]).length := by rw [SC_len]; exact size_strm
    refine store_all 34 _ _ 34 g5 S (SC [tagB t]) (.agg (SC [tagB t]).toArray) hzs x5 (by rfl) (by rfl) rfl (by rw [SC_len, hS]) (strm_one _ _ _) ?_
    intro w3 x5 hg3 hs3
    have x4 := (x4.below hb x4.lt).grown hg3 (by simp; have := x4.lt; omega)
    have b3 : Below w.heap.size w w3 := (b1.trans (hb.mono b1.size)).grown hg3 (by have := b1.size; have := hb.size; omega) (fun k hk => by cases hk; have := b1.size; omega)
    have hB5 : w.heap.size < g5 := by have := x4w1.out; omega
    have hS3 : Below w1.heap.size w1 w3 := hb.grown hg3 hb.size (fun k hk => by cases hk; exact hg)
    have hs3' := hs1.below hS3
    have hL3 := hL1.below hS3
    clear hs1 hL1 b1 hb hS3 hg hs3 p5 p6 hzs hg3
    have hB5 : w.heap.size < g5 := hB5
    have hL0 := hide hL0w
    have hs0 := hide hs0w
    obtain ⟨B, hB⟩ : ∃ B, B = w.heap.size := ⟨_, rfl⟩
    rw [← hB] at x4 b3 hB5 ⊢
    have HB := hide hB
    have hsz := hide hsz
    clear hB
    have hc1 := Nat.le_trans hs3'.le hs3'.cap
    unfold maxLen at hc1
    go_wp2_with fail
    go_loopg [17] ps.length (fun g i w' => ∃ k : Nat, k ≤ ps.length ∧ g = ps.length - k ∧ i = .int .i64 k ∧ Box w' g5 34 (SC (inputL t (ps.take k))) ∧ Box w' B 44 Z ∧ Sl w' 1 a ps.length c (ps.map Value.string) ∧ Laid w' ∧ Below B w w')
    case atStart => exact ⟨0, by omega, by omega, rfl, x5, x4, hs3', hL3, b3⟩
    case round =>
      clear x5 x4 hs3' hL3 b3
      obtain ⟨k, hk, hg, rfl, x5, x4, hs3, hL3, b3⟩ := hrel
      have HG := hide hg
      clear hg
      by_cases hlt : k < ps.length
      · obtain ⟨b, o, rfl, hb, hc⟩ := hs3.ex (by simp; omega)
        obtain ⟨s, hs⟩ : ∃ s, ps[k]? = some s := ⟨ps[k], by simp [hlt]⟩
        have hs1 : wr.cell? ⟨b, o + k, none⟩ = some (Value.string s) := hc k _ (by rw [List.getElem?_map, hs]; rfl)
        have hss := hsz.out s (List.mem_of_getElem? hs)
        have hnext := hide (input_next (t := t) hs)
        have hlen := input_len (t := t) (ps := ps.take (k + 1)) (fun s h => hsz.out s (List.mem_of_mem_take h))
        have hlen2 : (ps.take (k + 1)).length ≤ k + 1 := List.length_take_le _ _
        obtain ⟨C, hC⟩ : ∃ C, Hid (inputL t (ps.take k) = C) := ⟨_, rfl⟩
        obtain ⟨D, hD⟩ : ∃ D, Hid (inputL t (ps.take (k + 1)) = D) := ⟨_, rfl⟩
        obtain ⟨E, hE⟩ : ∃ E, Hid (encBytes s.data.toList = E) := ⟨_, rfl⟩
        rw [hC.out] at x5
        rw [hD.out] at hlen
        have hcat : C ++ E = D := by rw [← hC.out, ← hD.out, ← hE.out]; exact hnext.out.symm
        have hcat := hide hcat
        have hDl : D.length ≤ 1000000000 := by omega
        clear hc hs hlen hlen2
        go_wp2_with fail
        refine wp_region_free 5 [⟨0, 21, [21], fun vs _ => vs = [SV C]⟩, ⟨1, 22, [22], fun vs _ => vs = [.string s]⟩, ⟨2, 23, [23], fun vs w => ∃ a c, vs = [.slice a E.length c] ∧ Sl w 1 a E.length c (E.map B8)⟩,
          ⟨3, 24, [24], fun vs _ => vs = [.string ⟨E.toArray⟩]⟩, ⟨4, 25, [25], fun vs _ => vs = [SV D]⟩] (by kernel_rfl) (by kernel_rfl) ?_ ?_ ?_
        · simp only [All]
          refine ⟨fun _ _ _ _ h => h, fun _ _ _ _ h => h, ?_, fun _ _ _ _ h => h, fun _ _ _ _ h => h, trivial⟩
          rintro vs w2 w3 hb ⟨a, c, h1, h2⟩
          exact ⟨a, c, h1, h2.below hb⟩
        · simp only [All]
          refine ⟨?_, ?_, ?_, ?_, ?_, trivial⟩
          · intro o ho a' w' hb hfr hdep
            obtain rfl := Option.some.inj ho
            have g0 : a'.tmps[5]?.getD undef = .pointer (some ⟨g5, 0, none⟩) := by have h := hfr 5 (by kernel_rfl); simpa using h
            have hzs : (Tryd.prog.info? 34).map (·.size) = some (SC C).length := by rw [SC_len]; exact size_strm
            refine load_box 21 34 _ 34 g5 0 (SC C) (SC C) isAgg_strm hzs (x5.under hb) (by simpa [Act.eval] using g0) (fun j u hj => by rw [Nat.zero_add]; exact hj) ?_
            exact ⟨rfl, _, rfl, Below.refl _ _, rfl⟩
          · intro o ho a' w' hb hfr hdep
            obtain rfl := Option.some.inj ho
            have g0 : a'.tmps[7]?.getD undef = .string s := by have h := hfr 7 (by kernel_rfl); simpa using h
            clear ho hfr hdep
            go_wp2_with fail
            exact ⟨rfl, _, rfl, Below.refl _ _, rfl⟩
          · intro o ho a' w' hb hfr hdep
            obtain rfl := Option.some.inj ho
            have g0 : a'.tmps[22]?.getD undef = .string s := by have h := hdep 1 _ rfl (by kernel_rfl); simpa using h
            clear ho hfr hdep
            have hW := wire_Bytes s (by omega) w'
            rw [hE.out] at hW
            have hW := hide hW
            go_wp2_with fail
            refine hW.out.mono ?_
            rintro e w2 ⟨a2, c2, rfl, o2, h2⟩
            go_wp2_with fail
            exact ⟨rfl, _, rfl, h2, _, _, rfl, o2.sl⟩
          · intro o ho a' w' hb hfr hdep
            obtain rfl := Option.some.inj ho
            obtain ⟨a2, c2, g0, s0⟩ := hdep 2 _ rfl (by kernel_rfl)
            have g0 : a'.tmps[23]?.getD undef = .slice a2 E.length c2 := by simpa using g0
            clear ho hfr hdep
            refine to_str 24 _ _ _ _ E (by simpa [Act.eval] using g0) s0 ?_
            exact ⟨rfl, _, rfl, Below.refl _ _, rfl⟩
          · intro o ho a' w' hb hfr hdep
            obtain rfl := Option.some.inj ho
            have g0 : a'.tmps[21]?.getD undef = SV C := by have h := hdep 0 _ rfl (by kernel_rfl); simpa using h
            have g1 : a'.tmps[24]?.getD undef = .string ⟨E.toArray⟩ := by have h := hdep 3 _ rfl (by kernel_rfl); simpa using h
            clear ho hfr hdep
            go_wp2_with fail
            refine (add_at (m := C) (r := D) hcat.out hDl _ (hL3.below hb)).mono ?_
            rintro e w2 ⟨rfl, h2⟩
            go_wp2_with fail
            exact ⟨rfl, _, rfl, h2, rfl⟩
        · intro g w2 hb hp
          have p5 := hp 4 _ rfl
          clear hp
          simp at p5
          simp only [List.map_cons, List.map_nil, putAll, Act.put, List.setIfInBounds_toArray, List.set_cons_succ, List.set_cons_zero, p5]
          have hzs : (Tryd.prog.info? 34).map (·.size) = some (SC D).length := by rw [SC_len]; exact size_strm
          refine store_all 34 _ _ 34 g5 (SC C) (SC D) (.agg (SC D).toArray) hzs (x5.under hb) (by rfl) (by rfl) rfl (by rw [SC_len, SC_len]) (strm_one _ _ _) ?_
          intro w3 x6 hg6 hs6
          have hlt5 := x5.lt
          have hb6 : Below (B + 1) wr w3 := (hb.mono (by omega)).grown hg6 (by have := hb.size; omega) (fun k hk => by cases hk; omega)
          have x4 := ((x4.under hb).grown hg6 (by simp; omega))
          have hL6 := hL0.out.mono (b3.trans (hb6.mono (by omega))) (Nat.le_of_eq HB.out.symm)
          have hs6' := hs0.out.below ((b3.trans (hb6.mono (by omega))).mono (Nat.le_of_eq HB.out.symm))
          have b6 := b3.trans (hb6.mono (by omega))
          clear p5 hb hg6 hb6 hs6 hlt5
          go_wp2_with fail
          go_roundg (ps.length - (k + 1))
          case measure => have := HG.out; omega
          case rel => exact ⟨k + 1, by omega, rfl, by go_num, by rw [hD.out]; exact x6, x4, hs6', hL6, b6⟩
      · obtain rfl : k = ps.length := by omega
        rw [List.take_length] at x5
        have hlen := input_len (t := t) hsz.out
        obtain ⟨C, hC⟩ : ∃ C, Hid (inputL t ps = C) := ⟨_, rfl⟩
        rw [hC.out] at x5 hlen
        obtain ⟨R, hR⟩ : ∃ R, Hid ((sha C).map B8 = R) := ⟨_, rfl⟩
        have hRl : R.length = 32 := by rw [← hR.out, List.length_map, sha_len]
        have hR1 : ∀ u ∈ R, u.oneCell' = true := by rw [← hR.out]; exact one_map _ (fun _ => rfl) _
        have hR1 := hide hR1
        have hzR : (Tryd.prog.info? 24).map (·.size) = some R.length := by rw [hRl]; exact size_32
        have hzT : (Tryd.prog.info? 44).map (·.size) = some (R.take 16).length := by rw [List.length_take, hRl]; exact size_dig'
        have hTl : (R.take 16).length = 16 := by rw [List.length_take, hRl]; rfl
        have hZl : Z.length = 16 := by rw [← hZ.out]; rfl
        have hRl := hide hRl
        have hTl := hide hTl
        have hzR := hide hzR
        have hzT := hide hzT
        have hZl := hide hZl
        have hzs : (Tryd.prog.info? 34).map (·.size) = some (SC C).length := by rw [SC_len]; exact size_strm
        have hzs := hide hzs
        have hCl : C.length ≤ 500000000 := by omega
        have h32 := zero_32
        obtain ⟨Y, hY⟩ : ∃ Y, Hid (zero32.map B8 = Y) := ⟨_, rfl⟩
        rw [hY.out] at h32
        have hYl : Y.length = 32 := by rw [← hY.out, zero32_len]
        have hYl := hide hYl
        clear hlen hs3
        go_wp2_with (with_reducible refine load_box 27 34 _ 34 g5 0 (SC C) (SC C) isAgg_strm hzs.out x5 rfl (fun j u hj => by rw [Nat.zero_add]; exact hj) ?_)
        refine (ssum_any C hCl _ hL3).mono ?_
        rintro e w2 ⟨rfl, h2⟩
        rw [hR.out]
        have x4 := x4.under h2
        have b2 := b3.trans (h2.mono (by have := x5.lt; omega))
        clear h2 b3 hL3
        go_wp2_with (with_reducible refine hold_store ?_)
        refine hide ?_
        have hG : B < w2.heap.size := x4.lt
        refine store_all 24 _ _ 24 w2.heap.size Y R (.agg R.toArray) hzR.out (Box.new w2 _ _) (by rfl) (by rfl) rfl (by rw [hRl.out, hYl.out]) hR1.out ?_
        intro w3 x8 hg3 hs3
        have x4 := (x4.alloc (.cells Y.toArray 24)).grown hg3 (by simp; omega)
        have b3 := (b2.alloc (Nat.le_of_lt hG) (.cells Y.toArray 24)).grown hg3 (by simp; omega) (fun k hk => by cases hk; omega)
        generalize w2.heap.size = G at *
        have ha : ∀ W : World, (Instr.arrayAt 44 (.slice (some ⟨G, 0, none⟩) 16 32)).run Tryd.prog W = .ok (.pointer (some ⟨G, 0, none⟩)) W := fun W => by simp [Instr.arrayAt, run_underlying Tryd.underlying44]
        clear hg3 hs3 b2 h32
        go_wp2_with (first
          | (with_reducible refine cut_var 29 24 5 32 _ _ _ Tryd.underlying24 size_u8 G 0 rfl 0 16 (.inl ⟨rfl, rfl⟩) (.inr ⟨_, rfl⟩) (by omega) (by omega) (by omega) ?_)
          | (with_reducible refine load_box 31 44 _ 24 G 0 R (R.take 16) isAgg_dig hzT.out x8 rfl (fun j u hj => by rw [Nat.zero_add]; rw [List.getElem?_take] at hj; split at hj; exact hj; cases hj) ?_)
          | (with_reducible refine hold_store ?_))
        refine hide ?_
        refine store_all 44 _ _ 44 B Z (R.take 16) (.agg (R.take 16).toArray) hzT.out x4 (by rfl) (by rfl) rfl (by rw [hTl.out, hZl.out]) (fun u hu => hR1.out u (List.mem_of_mem_take hu)) ?_
        intro w4 x9 hg4 hs4
        go_wp2_with fail
        refine bodyPost_ret (run_results_cell rfl rfl isAgg_dig hzT.out x9) rfl ⟨?_, ?_⟩
        · rw [List.map_take, hC.out, hR.out]
        · rw [← HB.out]
          exact b3.grown hg4 (Nat.le_of_lt x4.lt) (fun k hk => by cases hk; omega)
end Go.Proofs.YtalicdpocgomkaaDoor
