import Derived.Test.YtalicdpocgomkaaDoorHL3
import Derived.Test.YtalicdpocgomkaaDoorHL4
namespace Go.Proofs.YtalicdpocgomkaaDoor
open Go.RowKit Go.Dx

theorem to_bytes_g {w : World} {ops : Array Oper} {rest : List Oper} {act : Act} {Q : Exit → Act → World → Prop} {ty : TypeId} {pos : String} {after : Array Edge} {g : Option (Nat × Bool)} (d : Nat) (x : Operand) (s : ByteArray) (hx : act.eval x = .string s) (hm : s.size ≤ maxLen)
    (hw : Region.wanted { dst := some d, op := .convert 9 22 x, type := ty, pos := pos, after := after, guard := g } (yielded ops act.tmps) = true)
    (hK : ∀ a c w', Sl w' 1 a s.size c (s.data.toList.map B8) → Below w.heap.size w w' → (∀ p, a = some p → w.heap.size ≤ p.block) → wpList Tryd.prog ops Q rest (act.put (some d) (.slice a s.size c)) w') :
    wpList Tryd.prog ops Q ({ dst := some d, op := .convert 9 22 x, type := ty, pos := pos, after := after, guard := g } :: rest) act w :=
  unguard_any hw (to_bytes d x s hx hm hK)
theorem joined_at {xs : List ByteArray} {J : ByteArray} (h : joined xs = J) (hn : xs.length ≤ 1000) (hsz : ∀ s ∈ xs, s.size ≤ 10000) {a : Option Addr} {n c : Nat} {w : World} (hs : Sl w 1 a n c (xs.map Value.string)) :
    Calls Tryd.prog 16 #[.slice a n c] w fun e w' => e = .returned (.string J) ∧ w = w' := by subst h; exact joined_any xs hn hsz hs
set_option maxRecDepth 100000 in
set_option maxHeartbeats 2000000 in
theorem walk_Streams (ps : List ByteArray) (O : ByteArray) (A : UInt8) (a : Option Addr) (n c : Nat) (w : World) (hO : O.size ≤ reachBytes) (hs : Sl w 1 a n c (ps.map Value.string)) (hL : Laid w) (hR : LaidR w) :
    Calls Tryd.prog 4 #[.slice a n c, .string O, B8 A] w fun e w' => e = .returned (.bool true) ∧ Below w.heap.size w w' := by
  unfold reachBytes at hO
  obtain rfl := hs.n_eq
  have b0 : Below w.heap.size w w ∧ w.heap.size ≤ w.heap.size := ⟨Below.refl _ _, Nat.le_refl _⟩
  have hL := hide hL
  have hR := hide hR
  by_cases q1 : ps.length ≤ 12 ∧ ∀ x ∈ ps, x.size ≤ 400
  · have hF := hide (decide_eq_true q1)
    have hl12 := q1.1
    have HS := hide fun s (h : s ∈ ps) => show s.size ≤ 10000 by have := q1.2 s h; omega
    clear q1
    by_cases q2 : 400 < O.size
    · go_enter Tryd.func4, Tryd.ntmps4
      go_wp2_with fail
      refine (law2_sanity w hL.out).mono ?_
      rintro e w1 ⟨rfl, h1⟩
      have b1 := bnext b0 h1
      clear h1 b0
      go_wp2_with fail
      refine (few12_at hF.out (hs.below b1.1)).mono ?_
      rintro e w1' ⟨rfl, rfl⟩
      go_wp2_with fail
      go_ret
      exact ⟨rfl, b1.1⟩
    have hA := UInt8.toNat_lt A
    obtain ⟨k, hk⟩ : ∃ k, k = A.toNat % (ps.length + 1) := ⟨_, rfl⟩
    have hkl : k ≤ ps.length := by have := Nat.mod_lt A.toNat (show 0 < ps.length + 1 by omega); omega
    have hkm : (A.toNat : Int) % ((ps.length : Int) + 1) = (k : Int) := by rw [hk]; rfl
    have h3 := zero_strm
    have k2 : (strm Z0 (List.replicate 64 0) 0).length = 73 := strm_length _ (by simp) _
    obtain ⟨Z, hZ⟩ : ∃ Z, Hid (strm Z0 (List.replicate 64 0) 0 = Z) := ⟨_, rfl⟩
    rw [hZ.out] at h3 k2
    have hZl := hide k2
    clear k2 hk
    go_enter Tryd.func4, Tryd.ntmps4
    go_wp2_with fail
    refine (law2_sanity w hL.out).mono ?_
    rintro e w1 ⟨rfl, h1⟩
    have b1 := bnext b0 h1
    clear h1 b0
    go_wp2_with fail
    refine (few12_at hF.out (hs.below b1.1)).mono ?_
    rintro e w1' ⟨rfl, rfl⟩
    go_wp2_with fail
    refine (Begin_at _).mono ?_
    rintro e w2 ⟨rfl, h1⟩
    have b2 := bnext b1 h1
    clear h1 b1
    unfold SV
    go_wp2_with (with_reducible refine hold_store ?_)
    refine hide ?_
    refine store_all 34 _ _ 34 w2.heap.size Z (SC []) (.agg (SC []).toArray) (by rw [SC_len]; exact size_strm) (Box.new w2 _ _) (by rfl) (by rfl) rfl (by rw [SC_len, hZl.out]) (strm_one _ _ _) ?_
    intro w3 x9 hg3 hs3
    have bS : Below w.heap.size w w3 ∧ w.heap.size ≤ w3.heap.size := ⟨(b2.1.alloc b2.2 _).grown hg3 (by simp; have := b2.2; omega) (fun k hk => by cases hk; exact b2.2), by rw [hs3]; simp; have := b2.2; omega⟩
    have hGw : w.heap.size ≤ w2.heap.size := b2.2
    generalize w2.heap.size = G at *
    clear hg3 hs3 b2 h3
    have hc1 := Nat.le_trans hs.le hs.cap
    unfold maxLen at hc1
    go_wp2_with fail
    go_loopg [10] (k - 0) (fun g v w' => ∃ i : Nat, 0 ≤ i ∧ i ≤ k ∧ g = k - i ∧ v = .int .i64 i ∧ Box w' G 34 (SC (joined (ps.take i)).data.toList) ∧ Below w.heap.size w w' ∧ w.heap.size ≤ w'.heap.size)
    case atStart => exact ⟨0, by omega, by omega, by omega, rfl, x9, bS.1, bS.2⟩
    case round =>
      clear x9 bS
      obtain ⟨i, hi0, hi1, hg, rfl, x9, b1, b2⟩ := hrel
      have HG := hide hg
      clear hg
      by_cases hlt : i < k
      · obtain ⟨b, o, rfl, hbk, hc⟩ := (hs.below b1).ex (by simp; omega)
        obtain ⟨s, hss⟩ : ∃ s, ps[i]? = some s := ⟨ps[i]'(by omega), by simp⟩
        have hs1 : wr.cell? ⟨b, o + i, none⟩ = some (Value.string s) := hc i _ (by rw [List.getElem?_map, hss]; rfl)
        have hlen := joined_size (l := ps.take (i + 1)) (fun s h => HS.out s (List.mem_of_mem_take h))
        have hlen2 : (ps.take (i + 1)).length ≤ i + 1 := List.length_take_le _ _
        obtain ⟨C, hC⟩ : ∃ C, Hid ((joined (ps.take i)).data.toList = C) := ⟨_, rfl⟩
        obtain ⟨D, hD⟩ : ∃ D, Hid ((joined (ps.take (i + 1))).data.toList = D) := ⟨_, rfl⟩
        have hDl : D.length = (joined (ps.take (i + 1))).size := by rw [← hD.out]; exact Array.length_toList
        have hcat : C ++ s.data.toList = D := by rw [← hC.out, ← hD.out, joined_next hss]; simp
        have hcat := hide hcat
        rw [hC.out] at x9
        have hDl2 : D.length ≤ 1000000000 := by omega
        have hLw := hL.out.below b1
        have i0 : (0 : Int) ≤ (i : Int) := by omega
        clear hc hss hlen hlen2 hDl
        go_wp2_with fail
        refine wp_region_free 6 [⟨0, 38, [38], fun vs _ => vs = [SV C]⟩, ⟨1, 39, [39], fun vs _ => vs = [.slice (some ⟨b, o, none⟩) ps.length c]⟩, ⟨2, 40, [40], fun vs _ => vs = [.int .i64 (i : Int)]⟩, ⟨3, 41, [41], fun vs _ => vs = [.pointer (some ⟨b, o + i, none⟩)]⟩, ⟨4, 42, [42], fun vs _ => vs = [.string s]⟩, ⟨5, 43, [43], fun vs _ => vs = [SV D]⟩] (by kernel_rfl) (by kernel_rfl) ?_ ?_ ?_
        · simp only [All]
          refine ⟨fun _ _ _ _ h => h, fun _ _ _ _ h => h, fun _ _ _ _ h => h, fun _ _ _ _ h => h, fun _ _ _ _ h => h, fun _ _ _ _ h => h, trivial⟩
        · simp only [All]
          refine ⟨?_, ?_, ?_, ?_, ?_, ?_, trivial⟩
          · intro o ho a' w' hb hfr hdep
            obtain rfl := Option.some.inj ho
            have g9 : a'.tmps[9]?.getD undef = .pointer (some ⟨G, 0, none⟩) := by have h := hfr 9 (by kernel_rfl); simpa using h
            clear ho hfr hdep
            refine load_box 38 34 _ 34 G 0 (SC C) (SC C) isAgg_strm (by rw [SC_len]; exact size_strm) (x9.under hb) (by simpa [Act.eval] using g9) (fun j u hj => by rw [Nat.zero_add]; exact hj) ?_
            exact ⟨rfl, _, rfl, Below.refl _ _, rfl⟩
          · intro o ho a' w' hb hfr hdep
            obtain rfl := Option.some.inj ho
            have g0 : a'.tmps[0]?.getD undef = .slice (some ⟨b, o, none⟩) ps.length c := by have h := hfr 0 (by kernel_rfl); simpa using h
            clear ho hfr hdep
            go_wp2_with fail
            exact ⟨rfl, _, rfl, Below.refl _ _, rfl⟩
          · intro o ho a' w' hb hfr hdep
            obtain rfl := Option.some.inj ho
            have g10 : a'.tmps[10]?.getD undef = .int .i64 (i : Int) := by have h := hfr 10 (by kernel_rfl); simpa using h
            clear ho hfr hdep
            go_wp2_with fail
            exact ⟨rfl, _, rfl, Below.refl _ _, rfl⟩
          · intro o ho a' w' hb hfr hdep
            obtain rfl := Option.some.inj ho
            have g39 : a'.tmps[39]?.getD undef = .slice (some ⟨b, o, none⟩) ps.length c := by have h := hdep 1 _ rfl (by kernel_rfl); simpa using h
            have g40 : a'.tmps[40]?.getD undef = .int .i64 (i : Int) := by have h := hdep 2 _ rfl (by kernel_rfl); simpa using h
            clear ho hfr hdep
            go_wp2_with fail
            exact ⟨rfl, _, rfl, Below.refl _ _, rfl⟩
          · intro o ho a' w' hb hfr hdep
            obtain rfl := Option.some.inj ho
            have g41 : a'.tmps[41]?.getD undef = .pointer (some ⟨b, o + i, none⟩) := by have h := hdep 3 _ rfl (by kernel_rfl); simpa using h
            clear ho hfr hdep
            have hq : w'.cell? ⟨b, o + i, none⟩ = some (.string s) := by rw [hb.cell (World.block_lt_of_cell? wr _ hs1)]; exact hs1
            go_wp2_with fail
            exact ⟨rfl, _, rfl, Below.refl _ _, rfl⟩
          · intro o ho a' w' hb hfr hdep
            obtain rfl := Option.some.inj ho
            have g38 : a'.tmps[38]?.getD undef = SV C := by have h := hdep 0 _ rfl (by kernel_rfl); simpa using h
            have g42 : a'.tmps[42]?.getD undef = .string s := by have h := hdep 4 _ rfl (by kernel_rfl); simpa using h
            clear ho hfr hdep
            go_wp2_with fail
            refine (add_at (m := C) (r := D) hcat.out (by omega) _ (hLw.below hb)).mono ?_
            rintro e w2 ⟨rfl, h2⟩
            go_wp2_with fail
            exact ⟨rfl, _, rfl, h2, rfl⟩
        · intro g w2 hb hp
          have p5 := hp 5 _ rfl
          clear hp
          simp at p5
          simp only [List.map_cons, List.map_nil, putAll, Act.put, List.setIfInBounds_toArray, List.set_cons_succ, List.set_cons_zero, p5]
          have hzs : (Tryd.prog.info? 34).map (·.size) = some (SC D).length := by rw [SC_len]; exact size_strm
          refine store_all 34 _ _ 34 G (SC C) (SC D) (.agg (SC D).toArray) hzs (x9.under hb) (by rfl) (by rfl) rfl (by rw [SC_len, SC_len]) (strm_one _ _ _) ?_
          intro w3 x9' hg3 hs3
          have b3 : Below w.heap.size w w3 := (b1.trans (hb.mono b2)).grown hg3 (Nat.le_trans b2 hb.size) (fun k hk => by cases hk; exact hGw)
          have b4 : w.heap.size ≤ w3.heap.size := by rw [hs3]; exact Nat.le_trans b2 hb.size
          clear p5 hb hg3 hs3 hzs
          go_wp2_with fail
          go_roundg (k - (i + 1))
          case measure => have := HG.out; omega
          case rel => exact ⟨i + 1, by omega, by omega, by omega, by go_num, by rw [hD.out]; exact x9', b3, b4⟩
      · obtain rfl : k = i := by omega
        have hxE := x9.lt
        have h3 := zero_strm
        rw [hZ.out] at h3
        have hzJ : (Tryd.prog.info? 34).map (·.size) = some (SC (joined (ps.take k)).data.toList).length := by rw [SC_len]; exact size_strm
        have HzJ := hide hzJ
        clear hzJ
        obtain ⟨SJ, hSJ⟩ : ∃ S, Hid (SC (joined (ps.take k)).data.toList = S) := ⟨_, rfl⟩
        have hSJl : SJ.length = 73 := by rw [← hSJ.out, SC_len]
        have hSJl := hide hSJl
        rw [hSJ.out] at x9 HzJ
        have hSJ1 : ∀ u ∈ SJ, u.oneCell' = true := by rw [← hSJ.out]; exact strm_one _ _ _
        have hSJ1 := hide hSJ1
        go_wp2_with (first
          | (with_reducible refine load_box 44 34 _ 34 G 0 SJ SJ isAgg_strm HzJ.out x9 rfl (fun j u hj => by rw [Nat.zero_add]; exact hj) ?_)
          | (with_reducible refine hold_store ?_))
        refine hide ?_
        refine store_all 34 _ _ 34 wr.heap.size Z SJ (.agg SJ.toArray) HzJ.out (Box.new wr _ _) (by rfl) (by rfl) rfl (by rw [hSJl.out, hZl.out]) hSJ1.out ?_
        intro w4 xE hg4 hs4
        have x9 := (x9.alloc (.cells Z.toArray 34)).grown hg4 (by simp; omega)
        have bS : Below w.heap.size w w4 ∧ w.heap.size ≤ w4.heap.size := ⟨(b1.alloc b2 _).grown hg4 (by simp; omega) (fun k hk => by cases hk; exact b2), by rw [hs4]; simp; omega⟩
        have hGE : G < wr.heap.size := hxE
        generalize wr.heap.size = E at *
        rw [← hSJ.out] at x9 xE
        have HGE := hGE
        clear hg4 hs4 b1 b2 h3 hxE hSJ1 HG hlt hi0 hi1
        go_wp2_with fail
        go_loopg [12] (ps.length - k) (fun g v w' => ∃ i : Nat, k ≤ i ∧ i ≤ ps.length ∧ g = ps.length - i ∧ v = .int .i64 i ∧ Box w' G 34 (SC (joined (ps.take i)).data.toList) ∧ Box w' E 34 (SC (joined (ps.take k)).data.toList) ∧ Below w.heap.size w w' ∧ w.heap.size ≤ w'.heap.size)
        case atStart => exact ⟨k, by omega, by omega, by omega, rfl, x9, xE, bS.1, bS.2⟩
        case round =>
          clear x9 bS xE
          obtain ⟨i, hi0, hi1, hg, rfl, x9, xE, b1, b2⟩ := hrel
          have HG := hide hg
          clear hg
          by_cases hlt : i < ps.length
          · obtain ⟨b, o, rfl, hbk, hc⟩ := (hs.below b1).ex (by simp; omega)
            obtain ⟨s, hss⟩ : ∃ s, ps[i]? = some s := ⟨ps[i]'(by omega), by simp⟩
            have hs1 : wr.cell? ⟨b, o + i, none⟩ = some (Value.string s) := hc i _ (by rw [List.getElem?_map, hss]; rfl)
            have hlen := joined_size (l := ps.take (i + 1)) (fun s h => HS.out s (List.mem_of_mem_take h))
            have hlen2 : (ps.take (i + 1)).length ≤ i + 1 := List.length_take_le _ _
            obtain ⟨C, hC⟩ : ∃ C, Hid ((joined (ps.take i)).data.toList = C) := ⟨_, rfl⟩
            obtain ⟨D, hD⟩ : ∃ D, Hid ((joined (ps.take (i + 1))).data.toList = D) := ⟨_, rfl⟩
            have hDl : D.length = (joined (ps.take (i + 1))).size := by rw [← hD.out]; exact Array.length_toList
            have hcat : C ++ s.data.toList = D := by rw [← hC.out, ← hD.out, joined_next hss]; simp
            have hcat := hide hcat
            rw [hC.out] at x9
            have hDl2 : D.length ≤ 1000000000 := by omega
            have hLw := hL.out.below b1
            have i0 : (0 : Int) ≤ (i : Int) := by omega
            clear hc hss hlen hlen2 hDl
            go_wp2_with fail
            refine wp_region_free 6 [⟨0, 52, [52], fun vs _ => vs = [SV C]⟩, ⟨1, 53, [53], fun vs _ => vs = [.slice (some ⟨b, o, none⟩) ps.length c]⟩, ⟨2, 54, [54], fun vs _ => vs = [.int .i64 (i : Int)]⟩, ⟨3, 55, [55], fun vs _ => vs = [.pointer (some ⟨b, o + i, none⟩)]⟩, ⟨4, 56, [56], fun vs _ => vs = [.string s]⟩, ⟨5, 57, [57], fun vs _ => vs = [SV D]⟩] (by kernel_rfl) (by kernel_rfl) ?_ ?_ ?_
            · simp only [All]
              refine ⟨fun _ _ _ _ h => h, fun _ _ _ _ h => h, fun _ _ _ _ h => h, fun _ _ _ _ h => h, fun _ _ _ _ h => h, fun _ _ _ _ h => h, trivial⟩
            · simp only [All]
              refine ⟨?_, ?_, ?_, ?_, ?_, ?_, trivial⟩
              · intro o ho a' w' hb hfr hdep
                obtain rfl := Option.some.inj ho
                have g9 : a'.tmps[9]?.getD undef = .pointer (some ⟨G, 0, none⟩) := by have h := hfr 9 (by kernel_rfl); simpa using h
                clear ho hfr hdep
                refine load_box 52 34 _ 34 G 0 (SC C) (SC C) isAgg_strm (by rw [SC_len]; exact size_strm) (x9.under hb) (by simpa [Act.eval] using g9) (fun j u hj => by rw [Nat.zero_add]; exact hj) ?_
                exact ⟨rfl, _, rfl, Below.refl _ _, rfl⟩
              · intro o ho a' w' hb hfr hdep
                obtain rfl := Option.some.inj ho
                have g0 : a'.tmps[0]?.getD undef = .slice (some ⟨b, o, none⟩) ps.length c := by have h := hfr 0 (by kernel_rfl); simpa using h
                clear ho hfr hdep
                go_wp2_with fail
                exact ⟨rfl, _, rfl, Below.refl _ _, rfl⟩
              · intro o ho a' w' hb hfr hdep
                obtain rfl := Option.some.inj ho
                have g12 : a'.tmps[12]?.getD undef = .int .i64 (i : Int) := by have h := hfr 12 (by kernel_rfl); simpa using h
                clear ho hfr hdep
                go_wp2_with fail
                exact ⟨rfl, _, rfl, Below.refl _ _, rfl⟩
              · intro o ho a' w' hb hfr hdep
                obtain rfl := Option.some.inj ho
                have g53 : a'.tmps[53]?.getD undef = .slice (some ⟨b, o, none⟩) ps.length c := by have h := hdep 1 _ rfl (by kernel_rfl); simpa using h
                have g54 : a'.tmps[54]?.getD undef = .int .i64 (i : Int) := by have h := hdep 2 _ rfl (by kernel_rfl); simpa using h
                clear ho hfr hdep
                go_wp2_with fail
                exact ⟨rfl, _, rfl, Below.refl _ _, rfl⟩
              · intro o ho a' w' hb hfr hdep
                obtain rfl := Option.some.inj ho
                have g55 : a'.tmps[55]?.getD undef = .pointer (some ⟨b, o + i, none⟩) := by have h := hdep 3 _ rfl (by kernel_rfl); simpa using h
                clear ho hfr hdep
                have hq : w'.cell? ⟨b, o + i, none⟩ = some (.string s) := by rw [hb.cell (World.block_lt_of_cell? wr _ hs1)]; exact hs1
                go_wp2_with fail
                exact ⟨rfl, _, rfl, Below.refl _ _, rfl⟩
              · intro o ho a' w' hb hfr hdep
                obtain rfl := Option.some.inj ho
                have g52 : a'.tmps[52]?.getD undef = SV C := by have h := hdep 0 _ rfl (by kernel_rfl); simpa using h
                have g56 : a'.tmps[56]?.getD undef = .string s := by have h := hdep 4 _ rfl (by kernel_rfl); simpa using h
                clear ho hfr hdep
                go_wp2_with fail
                refine (add_at (m := C) (r := D) hcat.out (by omega) _ (hLw.below hb)).mono ?_
                rintro e w2 ⟨rfl, h2⟩
                go_wp2_with fail
                exact ⟨rfl, _, rfl, h2, rfl⟩
            · intro g w2 hb hp
              have p5 := hp 5 _ rfl
              clear hp
              simp at p5
              simp only [List.map_cons, List.map_nil, putAll, Act.put, List.setIfInBounds_toArray, List.set_cons_succ, List.set_cons_zero, p5]
              have hzs : (Tryd.prog.info? 34).map (·.size) = some (SC D).length := by rw [SC_len]; exact size_strm
              refine store_all 34 _ _ 34 G (SC C) (SC D) (.agg (SC D).toArray) hzs (x9.under hb) (by rfl) (by rfl) rfl (by rw [SC_len, SC_len]) (strm_one _ _ _) ?_
              intro w3 x9' hg3 hs3
              have b3 : Below w.heap.size w w3 := (b1.trans (hb.mono b2)).grown hg3 (Nat.le_trans b2 hb.size) (fun k hk => by cases hk; exact hGw)
              have b4 : w.heap.size ≤ w3.heap.size := by rw [hs3]; exact Nat.le_trans b2 hb.size
              have xE := (xE.under hb).grown hg3 (by simp; omega)
              clear p5 hb hg3 hs3 hzs
              go_wp2_with fail
              go_roundg (ps.length - (i + 1))
              case measure => have := HG.out; omega
              case rel => exact ⟨i + 1, by omega, by omega, by omega, by go_num, by rw [hD.out]; exact x9', xE, b3, b4⟩
          · obtain rfl : i = ps.length := by omega
            obtain ⟨JW, hJW⟩ : ∃ J, Hid (joined ps = J) := ⟨_, rfl⟩
            obtain ⟨JH, hJH⟩ : ∃ J, Hid (joined (ps.take k) = J) := ⟨_, rfl⟩
            rw [List.take_length] at x9
            rw [hJW.out] at x9
            rw [hJH.out] at xE
            have z1 := joined_size HS.out
            have z2 := joined_size (l := ps.take k) (fun s h => HS.out s (List.mem_of_mem_take h))
            have z3 : (ps.take k).length ≤ k := List.length_take_le _ _
            rw [hJW.out] at z1
            rw [hJH.out] at z2
            have z1 : JW.size ≤ 200000 := by omega
            have z2 : JH.size ≤ 200000 := by omega
            obtain ⟨XW, hXW⟩ : ∃ X, Hid (JW.data.toList = X) := ⟨_, rfl⟩
            obtain ⟨XH, hXH⟩ : ∃ X, Hid (JH.data.toList = X) := ⟨_, rfl⟩
            obtain ⟨XF, hXF⟩ : ∃ X, Hid (XH ++ O.data.toList = X) := ⟨_, rfl⟩
            rw [hXW.out] at x9
            rw [hXH.out] at xE
            have XWl := hide (show XW.length = JW.size by rw [← hXW.out]; exact Array.length_toList)
            have XHl := hide (show XH.length = JH.size by rw [← hXH.out]; exact Array.length_toList)
            have XFl := hide (show XF.length = JH.size + O.size by rw [← hXF.out, List.length_append, XHl.out]; congr 1)
            have JFd := hide (show (JH ++ O).data.toList = XF by rw [← hXF.out, ← hXH.out]; simp)
            have JFs := hide (show (JH ++ O).size = JH.size + O.size by have e : (JH ++ O).size = (JH ++ O).data.toList.length := Array.length_toList.symm; rw [e, JFd.out, XFl.out])
            obtain ⟨SW, hSW⟩ : ∃ S, Hid (sha XW = S) := ⟨_, rfl⟩
            obtain ⟨SH, hSH⟩ : ∃ S, Hid (sha XH = S) := ⟨_, rfl⟩
            obtain ⟨SF, hSF⟩ : ∃ S, Hid (sha XF = S) := ⟨_, rfl⟩
            have SWl := hide (show SW.length = 32 by rw [← hSW.out, sha_len])
            have SHl := hide (show SH.length = 32 by rw [← hSH.out, sha_len])
            have SFl := hide (show SF.length = 32 by rw [← hSF.out, sha_len])
            have JWd := hXW
            have JHd := hXH
            have h3 := zero_strm
            rw [hZ.out] at h3
            have bS : Below w.heap.size w wr ∧ w.heap.size ≤ wr.heap.size := ⟨b1, b2⟩
            have hzE : (Tryd.prog.info? 34).map (·.size) = some (SC XH).length := by rw [SC_len]; exact size_strm
            have HzE := hide hzE
            have HzW := hide (show (Tryd.prog.info? 34).map (·.size) = some (SC XW).length by rw [SC_len]; exact size_strm)
            have HzF := hide (show (Tryd.prog.info? 34).map (·.size) = some (SC XF).length by rw [SC_len]; exact size_strm)
            clear z3 hzE b1 b2 HG hlt hi0 hi1
            go_wp2_with (with_reducible refine load_box 58 34 _ 34 E 0 (SC XH) (SC XH) isAgg_strm HzE.out xE rfl (fun j u hj => by rw [Nat.zero_add]; exact hj) ?_)
            refine (add_at (m := XH) (r := XF) hXF.out (by rw [XFl.out]; omega) _ (hL.out.below bS.1)).mono ?_
            rintro e w6 ⟨rfl, h1⟩
            have x9 := x9.under h1
            have xE := xE.under h1
            have bS := bnext bS h1
            clear h1
            unfold SV
            go_wp2_with (with_reducible refine hold_store ?_)
            refine hide ?_
            refine store_all 34 _ _ 34 w6.heap.size Z (SC XF) (.agg (SC XF).toArray) (by rw [SC_len]; exact size_strm) (Box.new w6 _ _) (by rfl) (by rfl) rfl (by rw [SC_len, hZl.out]) (strm_one _ _ _) ?_
            intro w7 xF hg7 hs7
            have l9 := x9.lt
            have lE := xE.lt
            have x9 := (x9.alloc (.cells Z.toArray 34)).grown hg7 (by simp; omega)
            have xE := (xE.alloc (.cells Z.toArray 34)).grown hg7 (by simp; omega)
            have bS7 : Below w.heap.size w w7 ∧ w.heap.size ≤ w7.heap.size := ⟨(bS.1.alloc bS.2 _).grown hg7 (by simp; have := bS.2; omega) (fun k hk => by cases hk; exact bS.2), by rw [hs7]; simp; have := bS.2; omega⟩
            clear bS
            have bS := bS7
            clear bS7
            generalize w6.heap.size = F at *
            clear hg7 hs7 h3 l9 lE
            go_wp2_with fail
            refine (joined_at hJW.out (by omega) HS.out (hs.below bS.1)).mono ?_
            rintro e w8 ⟨rfl, rfl⟩
            have hsT : Sl w7 1 a k c ((ps.take k).map Value.string) := by have h := (hs.below bS.1).take k hkl; rwa [← List.map_take] at h
            go_wp2_with (with_reducible refine cut_hi 65 27 _ _ 9 Tryd.underlying27 1 size_str _ _ _ _ rfl (hs.below bS.1) _ _ k rfl rfl hkl ?_; intro _)
            refine (joined_at hJH.out (by rw [List.length_take]; omega) (fun s h => HS.out s (List.mem_of_mem_take h)) hsT).mono ?_
            rintro e w9 ⟨rfl, rfl⟩
            clear hsT
            go_wp2_with (with_reducible refine load_box_g 69 34 _ 34 G 0 _ (SC XW) isAgg_strm HzW.out x9 rfl (fun j u hj => by rw [Nat.zero_add]; exact hj) rfl ?_)
            refine (ssum_at hSW.out (by rw [XWl.out]; omega) (hL.out.below bS.1)).mono ?_
            rintro e wa1 ⟨rfl, h1⟩
            have x9 := x9.under h1
            have xE := xE.under h1
            have xF := xF.under h1
            have bS := bnext bS h1
            clear h1
            go_wp2_with (with_reducible refine to_bytes_g 72 _ JW rfl (by unfold maxLen; omega) rfl ?_; intro aa cc ww ss h1 hpp)
            have x9 := x9.under h1
            have xE := xE.under h1
            have xF := xF.under h1
            have bS := bnext bS h1
            clear h1 hpp
            rw [JWd.out] at ss
            refine (rsum_at hSW.out (by rw [XWl.out]; omega) (hR.out.below bS.1) ss).mono ?_
            rintro e wb1 ⟨rfl, h1⟩
            have x9 := x9.under h1
            have xE := xE.under h1
            have xF := xF.under h1
            have bS := bnext bS h1
            clear h1 ss
            go_wp2_with (first
              | (with_reducible refine eql_bytes_g 74 24 _ _ _ _ Tryd.underlying24 Tryd.underlying5 size_u8 guard_32 SW SW rfl rfl SWl.out SWl.out rfl ?_; rw [decide_eq_true (Eq.refl SW)])
              | (with_reducible refine load_box_g 77 34 _ 34 E 0 _ (SC XH) isAgg_strm HzE.out xE rfl (fun j u hj => by rw [Nat.zero_add]; exact hj) rfl ?_))
            refine (ssum_at hSH.out (by rw [XHl.out]; omega) (hL.out.below bS.1)).mono ?_
            rintro e wa2 ⟨rfl, h1⟩
            have x9 := x9.under h1
            have xE := xE.under h1
            have xF := xF.under h1
            have bS := bnext bS h1
            clear h1
            go_wp2_with (with_reducible refine to_bytes_g 80 _ JH rfl (by unfold maxLen; omega) rfl ?_; intro aa cc ww ss h1 hpp)
            have x9 := x9.under h1
            have xE := xE.under h1
            have xF := xF.under h1
            have bS := bnext bS h1
            clear h1 hpp
            rw [JHd.out] at ss
            refine (rsum_at hSH.out (by rw [XHl.out]; omega) (hR.out.below bS.1) ss).mono ?_
            rintro e wb2 ⟨rfl, h1⟩
            have x9 := x9.under h1
            have xE := xE.under h1
            have xF := xF.under h1
            have bS := bnext bS h1
            clear h1 ss
            go_wp2_with (first
              | (with_reducible refine eql_bytes_g 82 24 _ _ _ _ Tryd.underlying24 Tryd.underlying5 size_u8 guard_32 SH SH rfl rfl SHl.out SHl.out rfl ?_; rw [decide_eq_true (Eq.refl SH)])
              | (with_reducible refine load_box_g 85 34 _ 34 F 0 _ (SC XF) isAgg_strm HzF.out xF rfl (fun j u hj => by rw [Nat.zero_add]; exact hj) rfl ?_))
            refine (ssum_at hSF.out (by rw [XFl.out]; omega) (hL.out.below bS.1)).mono ?_
            rintro e wa3 ⟨rfl, h1⟩
            have x9 := x9.under h1
            have xE := xE.under h1
            have xF := xF.under h1
            have bS := bnext bS h1
            clear h1
            go_wp2_with (with_reducible refine to_bytes_g 90 _ (JH ++ O) rfl (by unfold maxLen; rw [JFs.out]; omega) rfl ?_; intro aa cc ww ss h1 hpp)
            have x9 := x9.under h1
            have xE := xE.under h1
            have xF := xF.under h1
            have bS := bnext bS h1
            clear h1 hpp
            rw [JFd.out, JFs.out] at ss
            refine (rsum_at hSF.out (by rw [XFl.out]; omega) (hR.out.below bS.1) ss).mono ?_
            rintro e wb3 ⟨rfl, h1⟩
            have x9 := x9.under h1
            have xE := xE.under h1
            have xF := xF.under h1
            have bS := bnext bS h1
            clear h1 ss
            go_wp2_with (first
              | (with_reducible refine eql_bytes_g 92 24 _ _ _ _ Tryd.underlying24 Tryd.underlying5 size_u8 guard_32 SF SF rfl rfl SFl.out SFl.out rfl ?_; rw [decide_eq_true (Eq.refl SF)])
              | (with_reducible refine load_box_g 95 34 _ 34 G 0 _ (SC XW) isAgg_strm HzW.out x9 rfl (fun j u hj => by rw [Nat.zero_add]; exact hj) rfl ?_))
            refine (ssum_at hSW.out (by rw [XWl.out]; omega) (hL.out.below bS.1)).mono ?_
            rintro e wa4 ⟨rfl, h1⟩
            have x9 := x9.under h1
            have xE := xE.under h1
            have xF := xF.under h1
            have bS := bnext bS h1
            clear h1
            go_wp2_with (with_reducible refine to_bytes_g 98 _ JW rfl (by unfold maxLen; omega) rfl ?_; intro aa cc ww ss h1 hpp)
            have x9 := x9.under h1
            have xE := xE.under h1
            have xF := xF.under h1
            have bS := bnext bS h1
            clear h1 hpp
            rw [JWd.out] at ss
            refine (hsum_at hSW.out (by rw [XWl.out]; omega) (hL.out.below bS.1) ss).mono ?_
            rintro e wb4 ⟨rfl, h1⟩
            have x9 := x9.under h1
            have xE := xE.under h1
            have xF := xF.under h1
            have bS := bnext bS h1
            clear h1 ss
            go_wp2_with (with_reducible refine eql_bytes_g 100 24 _ _ _ _ Tryd.underlying24 Tryd.underlying5 size_u8 guard_32 SW SW rfl rfl SWl.out SWl.out rfl ?_; rw [decide_eq_true (Eq.refl SW)])
            go_ret
            exact ⟨rfl, bS.1⟩
  · have hF := hide (decide_eq_false q1)
    clear q1
    go_enter Tryd.func4, Tryd.ntmps4
    go_wp2_with fail
    refine (law2_sanity w hL.out).mono ?_
    rintro e w1 ⟨rfl, h1⟩
    have b1 := bnext b0 h1
    clear h1 b0
    go_wp2_with fail
    refine (few12_at hF.out (hs.below b1.1)).mono ?_
    rintro e w1' ⟨rfl, rfl⟩
    go_wp2_with fail
    go_ret
    exact ⟨rfl, b1.1⟩
theorem walk_Streams_i (ps : List ByteArray) (O : ByteArray) (A : Int) (h0 : 0 ≤ A) (h1 : A ≤ 255) (a : Option Addr) (n c : Nat) (w : World) (hO : O.size ≤ reachBytes) (hs : Sl w 1 a n c (ps.map Value.string)) (hL : Laid w) (hR : LaidR w) :
    Calls Tryd.prog 4 #[.slice a n c, .string O, .int .u8 A] w fun e w' => e = .returned (.bool true) ∧ Below w.heap.size w w' := by
  have e : A = ((UInt8.ofNat A.toNat).toNat : Int) := by rw [UInt8.toNat_ofNat']; omega
  rw [e]
  exact walk_Streams ps O (UInt8.ofNat A.toNat) a n c w hO hs hL hR
end Go.Proofs.YtalicdpocgomkaaDoor
