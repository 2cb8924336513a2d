import Derived.Test.YtalicdpocgomkaaDoorHL5
import Derived.Test.YtalicdpocgomkaaDoorHL1
import Derived.Test.YtalicdpocgomkaaDoorPure6
namespace Go.Proofs.YtalicdpocgomkaaDoor
open Go.RowKit Go.Dx

theorem tagB_u8 (t : UInt8) : tagB (t.toNat : Int) = t := by
  apply UInt8.toNat_inj.1
  have := UInt8.toNat_lt t
  unfold tagB
  rw [UInt8.toNat_ofNat']
  omega
theorem encs_inj : ∀ (ps qs : List ByteArray), (∀ s ∈ ps, s.size ≤ 10000) → (∀ s ∈ qs, s.size ≤ 10000) → (ps.flatMap fun s => encBytes s.data.toList) = (qs.flatMap fun s => encBytes s.data.toList) → ps = qs
  | [], [], _, _, _ => rfl
  | [], q :: qs, _, hq, h => by
    have h1 : 1 ≤ (encBytes q.data.toList).length := (round_bytes q [] (by show q.size ≤ _; have := hq q List.mem_cons_self; omega)).2
    have h2 := congrArg List.length h
    rw [List.flatMap_cons, List.length_append, List.flatMap_nil, List.length_nil] at h2
    omega
  | p :: ps, [], hp, _, h => by
    have h1 : 1 ≤ (encBytes p.data.toList).length := (round_bytes p [] (by show p.size ≤ _; have := hp p List.mem_cons_self; omega)).2
    have h2 := congrArg List.length h
    rw [List.flatMap_cons, List.length_append, List.flatMap_nil, List.length_nil] at h2
    omega
  | p :: ps, q :: qs, hp, hq, h => by
    rw [List.flatMap_cons, List.flatMap_cons] at h
    have h1 := (round_bytes p (ps.flatMap fun s => encBytes s.data.toList) (by show p.size ≤ _; have := hp p List.mem_cons_self; omega)).1
    have h2 := (round_bytes q (qs.flatMap fun s => encBytes s.data.toList) (by show q.size ≤ _; have := hq q List.mem_cons_self; omega)).1
    rw [h, h2] at h1
    have e : q = p := congrArg Prod.fst h1
    subst e
    rw [encs_inj ps qs (fun s hs => hp s (List.mem_cons_of_mem _ hs)) (fun s hs => hq s (List.mem_cons_of_mem _ hs)) (List.append_cancel_left h)]
theorem input_inj {t u : UInt8} {ps qs : List ByteArray} (hp : ∀ s ∈ ps, s.size ≤ 10000) (hq : ∀ s ∈ qs, s.size ≤ 10000) (h : inputL (t.toNat : Int) ps = inputL (u.toNat : Int) qs) : t = u ∧ ps = qs := by
  unfold inputL at h
  rw [tagB_u8, tagB_u8] at h
  have h2 := List.cons.inj h
  exact ⟨h2.1, encs_inj ps qs hp hq h2.2⟩
theorem input_at {t : Int} {ps : List ByteArray} {r : List UInt8} (h : inputL t ps = r) (hn : ps.length ≤ 1000) (hsz : ∀ s ∈ ps, s.size ≤ 10000) {a : Option Addr} {n c : Nat} {w : World} (hs : Sl w 1 a n c (ps.map Value.string)) :
    Calls Tryd.prog 23 #[.int .i64 t, .slice a n c] w (Gives 5 1 r.length (r.map B8) w) := by subst h; exact input_any t ps hn hsz hs
theorem to_str_g {w : World} {ops : Array Oper} {rest : List Oper} {act : Act} {Q : Exit → Act → World → Prop} {ty : TypeId} {pos : String} {after : Array Edge} {g : Option (Nat × Bool)} (d : Nat) (x : Operand) (a : Option Addr) (n c : Nat) (l : List UInt8) (hx : act.eval x = .slice a n c) (hs : Sl w 1 a n c (l.map B8))
    (hw : Region.wanted { dst := some d, op := .convert 22 9 x, type := ty, pos := pos, after := after, guard := g } (yielded ops act.tmps) = true)
    (hK : wpList Tryd.prog ops Q rest (act.put (some d) (.string ⟨l.toArray⟩)) w) :
    wpList Tryd.prog ops Q ({ dst := some d, op := .convert 22 9 x, type := ty, pos := pos, after := after, guard := g } :: rest) act w :=
  unguard_any hw (to_str d x a n c l hx hs hK)
theorem arr_ne {X Y : List UInt8} (h : X ≠ Y) : ((⟨X.toArray⟩ : ByteArray).toList == (⟨Y.toArray⟩ : ByteArray).toList) = false :=
  toList_ne fun e => h (by have := str_inj.2 e; exact this)
theorem u8_ne {a b : UInt8} (h : a ≠ b) : ((a.toNat : Int) == (b.toNat : Int)) = false := by
  rw [beq_eq_false_iff_ne]
  intro e
  exact h (UInt8.toNat_inj.1 (by omega))
set_option maxRecDepth 100000 in
set_option maxHeartbeats 2000000 in
theorem walk_Separates (T0 T1 : UInt8) (ps qs : List ByteArray) (a1 a2 : Option Addr) (n1 n2 c1 c2 : Nat) (w : World) (hs : Sl w 1 a1 n1 c1 (ps.map Value.string)) (ht : Sl w 1 a2 n2 c2 (qs.map Value.string)) (hL : Laid w) :
    Calls Tryd.prog 8 #[.agg #[B8 T0, B8 T1], .slice a1 n1 c1, .slice a2 n2 c2] w fun e w' => e = .returned (.bool true) ∧ Below w.heap.size w w' := by
  obtain rfl := hs.n_eq
  obtain rfl := ht.n_eq
  have hL := hide hL
  have u0 : T0.toNat ≤ 255 := by have := UInt8.toNat_lt T0; omega
  have u1 : T1.toNat ≤ 255 := by have := UInt8.toNat_lt T1; omega
  have x3 : Box (w.alloc (.cells #[B8 T0, B8 T1] 48)) w.heap.size 48 [B8 T0, B8 T1] := Box.new w _ _
  have b0 : Below w.heap.size w (w.alloc (.cells #[B8 T0, B8 T1] 48)) ∧ w.heap.size ≤ (w.alloc (.cells #[B8 T0, B8 T1] 48)).heap.size := ⟨(Below.refl _ _).alloc (Nat.le_refl _) _, by simp⟩
  by_cases q1 : ps.length ≤ 12 ∧ ∀ x ∈ ps, x.size ≤ 400
  · have hF := hide (decide_eq_true q1)
    have hl1 := q1.1
    have HS := hide fun s (h : s ∈ ps) => show s.size ≤ 10000 by have := q1.2 s h; omega
    clear q1
    by_cases q2 : qs.length ≤ 12 ∧ ∀ x ∈ qs, x.size ≤ 400
    · have hF2 := hide (decide_eq_true q2)
      have hl2 := q2.1
      have HT := hide fun s (h : s ∈ qs) => show s.size ≤ 10000 by have := q2.2 s h; omega
      clear q2
      go_enter Tryd.func8, Tryd.ntmps8
      go_wp2_with fail
      refine (law2_sanity _ (hL.out.below b0.1)).mono ?_
      rintro e w1 ⟨rfl, h1⟩
      have x3 := x3.under h1
      have b1 := bnext b0 h1
      clear h1 b0
      go_wp2_with fail
      refine (few12_at hF.out (hs.below b1.1)).mono ?_
      rintro e w1' ⟨rfl, rfl⟩
      go_wp2_with fail
      refine (few12_at hF2.out (ht.below b1.1)).mono ?_
      rintro e w1' ⟨rfl, rfl⟩
      obtain ⟨B, hB⟩ : ∃ B, B = w.heap.size := ⟨_, rfl⟩
      rw [← hB] at x3 ⊢
      have HB := hide hB
      clear hB
      have k0 : w1.cell? ⟨B, 0, none⟩ = some (B8 T0) := x3.at_ rfl
      have k1 : w1.cell? ⟨B, 1, none⟩ = some (B8 T1) := x3.at_ rfl
      obtain ⟨d1, d2, t1, t2, hsb⟩ : ∃ d1 d2 : Bool, ((T0.toNat : Int) == (T1.toNat : Int)) = d1 ∧ ((ps.length : Int) == (qs.length : Int)) = d2 ∧
          Hid (((d1 && d2) = true → T0 = T1 ∧ ps.length = qs.length ∧ ps.take 0 = qs.take 0) ∧ ((d1 && d2) = false → ¬ (T0 = T1 ∧ ps = qs))) := by
        refine ⟨_, _, rfl, rfl, hide ⟨fun h => ?_, fun h => ?_⟩⟩
        · simp only [Bool.and_eq_true, beq_iff_eq] at h
          exact ⟨UInt8.toNat_inj.1 (by omega), by omega, rfl⟩
        · rintro ⟨e1, e2⟩
          rw [e1, e2] at h
          simp at h
      have hm1 := Nat.le_trans hs.le hs.cap
      unfold maxLen at hm1
      go_upto_region 4 with (fail)
      go_cut [8] from 28 to 39 (fun s w' => ∃ sb : Bool, s = .bool sb ∧ Hid ((sb = true → T0 = T1 ∧ ps.length = qs.length ∧ ps.take 0 = qs.take 0) ∧ (sb = false → ¬ (T0 = T1 ∧ ps = qs))) ∧ w1 = w')
      case first =>
        rcases d1 with _ | _ <;> rcases d2 with _ | _
        all_goals
          go_wp2_with fail
          go_meet
          exact ⟨_, rfl, hsb, rfl⟩
      case rest =>
        clear hsb t1 t2 d1 d2
        obtain ⟨sb, rfl, hsb, rfl⟩ := hcut
        go_wp2_with fail
        go_loopg [8, 9] ps.length (fun g s v w' => ∃ (i m : Nat) (sb : Bool), i ≤ ps.length ∧ g = ps.length - i ∧ v = .int .i64 i ∧ s = .bool sb ∧ Hid ((sb = true → T0 = T1 ∧ ps.length = qs.length ∧ ps.take i = qs.take i) ∧ (sb = false → ¬ (T0 = T1 ∧ ps = qs))) ∧ w' = w1.drewN m)
        case atStart => exact ⟨0, 0, _, by omega, by omega, rfl, rfl, hsb, rfl⟩
        case round =>
          clear hsb
          obtain ⟨i, m, sb, hi, hg, rfl, rfl, hsb, rfl⟩ := hrel
          have HG := hide hg
          clear hg
          have fin : (sb = true → i = ps.length) → Hid (sb = decide (T0 = T1 ∧ ps = qs)) := fun h => by
            show sb = _
            cases sb with
            | true =>
              have h1 := hsb.out.1 rfl
              have h2 := h rfl
              rw [h2, List.take_length, h1.2.1, List.take_length] at h1
              rw [decide_eq_true ⟨h1.1, h1.2.2⟩]
            | false => rw [decide_eq_false (hsb.out.2 rfl)]
          have fin := hide fin
          rcases sb with _ | _
          · have hP := fin.out ((fun h => by cases h))
            have hP := hide (hsb.out.2 rfl)
            clear hsb fin
            by_cases hlt : i < ps.length
            all_goals
              go_wp2_with fail
              have b2 : Below w.heap.size w (w1.drewN m) ∧ w.heap.size ≤ (w1.drewN m).heap.size := ⟨belowN b1.1 m, b1.2⟩
              have x3 : Box (w1.drewN m) B 48 [B8 T0, B8 T1] := x3.drewN m
              clear k0 k1 b1
              obtain ⟨X, hX⟩ : ∃ X, Hid (inputL (T0.toNat : Int) ps = X) := ⟨_, rfl⟩
              obtain ⟨Y, hY⟩ : ∃ X, Hid (inputL (T1.toNat : Int) qs = X) := ⟨_, rfl⟩
              have hne : X ≠ Y := fun e => hP.out (input_inj HS.out HT.out (by rw [hX.out, hY.out, e]))
              have HNE := hide (arr_ne hne)
              have HXY := hide hne
              have hXl := input_len (t := (T0.toNat : Int)) HS.out
              have hYl := input_len (t := (T1.toNat : Int)) HT.out
              rw [hX.out] at hXl
              rw [hY.out] at hYl
              have hXl : X.length ≤ 200000 := by omega
              have hYl : Y.length ≤ 200000 := by omega
              obtain ⟨G1, hG1⟩ : ∃ S, Hid (sha X = S) := ⟨_, rfl⟩
              obtain ⟨H1, hH1⟩ : ∃ S, Hid (sha Y = S) := ⟨_, rfl⟩
              have G1l := hide (show G1.length = 32 by rw [← hG1.out, sha_len])
              have H1l := hide (show H1.length = 32 by rw [← hH1.out, sha_len])
              have hD1 : Hid ((sha (inputL (T0.toNat : Int) ps)).take 16 = G1.take 16) := by show _ = _; rw [hX.out, hG1.out]
              have hD2 : Hid ((sha (inputL (T1.toNat : Int) qs)).take 16 = H1.take 16) := by show _ = _; rw [hY.out, hH1.out]
              obtain ⟨D1, hE1⟩ : ∃ D, Hid (G1.take 16 = D) := ⟨_, rfl⟩
              obtain ⟨D2, hE2⟩ : ∃ D, Hid (H1.take 16 = D) := ⟨_, rfl⟩
              rw [hE1.out] at hD1
              rw [hE2.out] at hD2
              have D1l := hide (show D1.length = 16 by rw [← hE1.out, List.length_take, G1l.out]; rfl)
              have D2l := hide (show D2.length = 16 by rw [← hE2.out, List.length_take, H1l.out]; rfl)
              have HzD1 := hide (show (Tryd.prog.info? 44).map (·.size) = some (D1.map B8).length by rw [List.length_map, D1l.out]; exact size_dig')
              have HzD2 := hide (show (Tryd.prog.info? 44).map (·.size) = some (D2.map B8).length by rw [List.length_map, D2l.out]; exact size_dig')
              have HzG := hide (show (Tryd.prog.info? 24).map (·.size) = some (G1.map B8).length by rw [List.length_map, G1l.out]; exact size_32)
              have HzH := hide (show (Tryd.prog.info? 24).map (·.size) = some (H1.map B8).length by rw [List.length_map, H1l.out]; exact size_32)
              have h16 := zero_16
              have h32 := zero_32
              obtain ⟨Z, hZ⟩ : ∃ Z, Hid (zero16.map B8 = Z) := ⟨_, rfl⟩
              obtain ⟨W, hW⟩ : ∃ Z, Hid (zero32.map B8 = Z) := ⟨_, rfl⟩
              rw [hZ.out] at h16
              rw [hW.out] at h32
              have hZl := hide (show Z.length = 16 by rw [← hZ.out]; rfl)
              have hWl := hide (show W.length = 32 by rw [← hW.out, zero32_len])
              clear hne hP
              refine (input_at hX.out (by omega) HS.out (hs.below b2.1)).mono ?_
              rintro e w4 ⟨a4, c4, rfl, o4, h1⟩
              have b4 := bnext b2 h1
              have x3 := x3.under h1
              have k1 : w4.cell? ⟨B, 1, none⟩ = some (B8 T1) := x3.at_ rfl
              have o4 := o4.sl
              clear h1 b2
              go_wp2_with fail
              refine (input_at hY.out (by omega) HT.out (ht.below b4.1)).mono ?_
              rintro e w5 ⟨a5, c5, rfl, o5, h1⟩
              have b5 := bnext b4 h1
              have o4 := o4.below h1
              have o5 := o5.sl
              have x3 := x3.under h1
              clear k1
              have k0 : w5.cell? ⟨B, 0, none⟩ = some (B8 T0) := x3.at_ rfl
              clear h1 b4
              go_wp2_with fail
              refine (of_at hD1.out (by omega) HS.out (hL.out.below b5.1) (hs.below b5.1)).mono ?_
              rintro e w6 ⟨rfl, h1⟩
              have b6 := bnext b5 h1
              have o4 := o4.below h1
              have o5 := o5.below h1
              have x3 := x3.under h1
              clear h1 b5 k0
              go_wp2_with (with_reducible refine hold_store ?_)
              refine hide ?_
              refine store_all 44 _ _ 44 w6.heap.size Z (D1.map B8) (.agg (D1.map B8).toArray) HzD1.out (Box.new w6 _ _) (by rfl) (by rfl) rfl (by rw [List.length_map, D1l.out, hZl.out]) (one_map _ (fun _ => rfl) _) ?_
              intro w7 y1 hg7 hs7
              have bb : Below w6.heap.size w6 w7 := ((Below.refl _ _).alloc (Nat.le_refl _) _).grown hg7 (by simp) (fun k hk => by cases hk; exact Nat.le_refl _)
              have b7 := bnext b6 bb
              have o4 := o4.below bb
              have o5 := o5.below bb
              have x3 := x3.under bb
              have k1 : w7.cell? ⟨B, 1, none⟩ = some (B8 T1) := x3.at_ rfl
              clear bb hg7 hs7 b6
              generalize w6.heap.size = J1 at *
              go_wp2_with fail
              refine (of_at hD2.out (by omega) HT.out (hL.out.below b7.1) (ht.below b7.1)).mono ?_
              rintro e w8 ⟨rfl, h1⟩
              have b8 := bnext b7 h1
              have o4 := o4.below h1
              have o5 := o5.below h1
              have y1 := y1.under h1
              clear h1 b7 k1 x3
              go_wp2_with (with_reducible refine hold_store ?_)
              refine hide ?_
              refine store_all 44 _ _ 44 w8.heap.size Z (D2.map B8) (.agg (D2.map B8).toArray) HzD2.out (Box.new w8 _ _) (by rfl) (by rfl) rfl (by rw [List.length_map, D2l.out, hZl.out]) (one_map _ (fun _ => rfl) _) ?_
              intro w9 y2 hg9 hs9
              have bb : Below w8.heap.size w8 w9 := ((Below.refl _ _).alloc (Nat.le_refl _) _).grown hg9 (by simp) (fun k hk => by cases hk; exact Nat.le_refl _)
              have b9 := bnext b8 bb
              have o4 := o4.below bb
              have o5 := o5.below bb
              have y1 := y1.under bb
              clear bb hg9 hs9 b8
              generalize w8.heap.size = J2 at *
              go_wp2_with fail
              refine (hsum_at hG1.out (by omega) (hL.out.below b9.1) o4).mono ?_
              rintro e w10 ⟨rfl, h1⟩
              have b10 := bnext b9 h1
              have o4 := o4.below h1
              have o5 := o5.below h1
              have y1 := y1.under h1
              have y2 := y2.under h1
              clear h1 b9
              go_wp2_with (with_reducible refine hold_store ?_)
              refine hide ?_
              refine store_all 24 _ _ 24 w10.heap.size W (G1.map B8) (.agg (G1.map B8).toArray) HzG.out (Box.new w10 _ _) (by rfl) (by rfl) rfl (by rw [List.length_map, G1l.out, hWl.out]) (one_map _ (fun _ => rfl) _) ?_
              intro w11 y3 hg11 hs11
              have bb : Below w10.heap.size w10 w11 := ((Below.refl _ _).alloc (Nat.le_refl _) _).grown hg11 (by simp) (fun k hk => by cases hk; exact Nat.le_refl _)
              have b11 := bnext b10 bb
              have o4 := o4.below bb
              have o5 := o5.below bb
              have y1 := y1.under bb
              have y2 := y2.under bb
              clear bb hg11 hs11 b10
              generalize w10.heap.size = J3 at *
              go_wp2_with fail
              refine (hsum_at hH1.out (by omega) (hL.out.below b11.1) o5).mono ?_
              rintro e w12 ⟨rfl, h1⟩
              have b12 := bnext b11 h1
              have o4 := o4.below h1
              have o5 := o5.below h1
              have y1 := y1.under h1
              have y2 := y2.under h1
              have y3 := y3.under h1
              clear h1 b11
              go_wp2_with (with_reducible refine hold_store ?_)
              refine hide ?_
              refine store_all 24 _ _ 24 w12.heap.size W (H1.map B8) (.agg (H1.map B8).toArray) HzH.out (Box.new w12 _ _) (by rfl) (by rfl) rfl (by rw [List.length_map, H1l.out, hWl.out]) (one_map _ (fun _ => rfl) _) ?_
              intro w13 y4 hg13 hs13
              have bb : Below w12.heap.size w12 w13 := ((Below.refl _ _).alloc (Nat.le_refl _) _).grown hg13 (by simp) (fun k hk => by cases hk; exact Nat.le_refl _)
              have b13 := bnext b12 bb
              have o4 := o4.below bb
              have o5 := o5.below bb
              have y1 := y1.under bb
              have y2 := y2.under bb
              have y3 := y3.under bb
              clear bb hg13 hs13 b12 h16 h32
              generalize w12.heap.size = J4 at *
              go_wp2_with fail
              obtain ⟨wo, rfl⟩ : ∃ wo : World, wo = w13 := ⟨_, rfl⟩
              go_loopg [16, 17] 16 (fun g s v w' => ∃ (j m : Nat) (sb : Bool), j ≤ 16 ∧ g = 16 - j ∧ v = .int .i64 j ∧ s = .bool sb ∧ Hid (sb = true ↔ G1.take j = H1.take j) ∧ w' = wo.drewN m)
              case atStart => exact ⟨0, 0, true, by omega, by omega, rfl, rfl, hide (by simp), rfl⟩
              case round =>
                obtain ⟨j, m2, sb, hj, hg2, rfl, rfl, hsb2, rfl⟩ := hrel
                have HG2 := hide hg2
                clear hg2
                by_cases hl16 : j < 16
                · obtain ⟨u, hu⟩ : ∃ u, G1[j]? = some u := ⟨G1[j]'(by rw [G1l.out]; omega), by simp⟩
                  obtain ⟨v, hv⟩ : ∃ u, H1[j]? = some u := ⟨H1[j]'(by rw [H1l.out]; omega), by simp⟩
                  have q3 : wo.cell? ⟨J3, j, none⟩ = some (B8 u) := y3.at_ (box_at hu)
                  have q4 : wo.cell? ⟨J4, j, none⟩ = some (B8 v) := y4.at_ (box_at hv)
                  have HN := hide (eq_next hu hv)
                  have i0 : (0 : Int) ≤ (j : Int) := by omega
                  have i1 : (j : Int) < 32 := by omega
                  clear hu hv
                  rcases sb with _ | _
                  · go_wp2_with fail
                    go_quiet (fail)
                    go_wp2_with fail
                    go_roundg (16 - (j + 1))
                    case measure => have := HG2.out; omega
                    case rel => exact ⟨j + 1, _, false, by omega, rfl, by go_num, rfl, hide ⟨(fun h => by cases h), fun h => hsb2.out.2 (HN.out.1 h).1⟩, rfl⟩
                  · by_cases huv : u = v
                    · have he : ((u.toNat : Int) == (v.toNat : Int)) = true := by rw [huv]; simp
                      have HUV := hide huv
                      clear huv
                      go_wp2_with fail
                      go_quiet (fail)
                      go_wp2_with fail
                      go_roundg (16 - (j + 1))
                      case measure => have := HG2.out; omega
                      case rel => exact ⟨j + 1, _, true, by omega, rfl, by go_num, rfl, hide ⟨fun _ => HN.out.2 ⟨hsb2.out.1 (by simp), HUV.out⟩, fun _ => rfl⟩, rfl⟩
                    · have he := u8_ne huv
                      have HUV := hide huv
                      clear huv
                      go_wp2_with fail
                      go_quiet (fail)
                      go_wp2_with fail
                      go_roundg (16 - (j + 1))
                      case measure => have := HG2.out; omega
                      case rel => exact ⟨j + 1, _, false, by omega, rfl, by go_num, rfl, hide ⟨(fun h => by cases h), fun h => absurd (HN.out.1 h).2 HUV.out⟩, rfl⟩
                · obtain rfl : j = 16 := by omega
                  have hcl : sb = decide (D1 = D2) := by
                    rw [← hE1.out, ← hE2.out]
                    cases sb with
                    | true => rw [decide_eq_true (hsb2.out.1 rfl)]
                    | false => rw [decide_eq_false (fun h => by have := hsb2.out.2 h; cases this)]
                  have HCL := hide hcl
                  have y1 := y1.drewN m2
                  have y2 := y2.drewN m2
                  have o4 : Sl (wo.drewN m2) 1 a4 X.length c4 (X.map B8) := ⟨o4.len, o4.le, o4.cap, o4.nil, o4.cell⟩
                  have o5 : Sl (wo.drewN m2) 1 a5 Y.length c5 (Y.map B8) := ⟨o5.len, o5.le, o5.cap, o5.nil, o5.cell⟩
                  have bF : Below w.heap.size w (wo.drewN m2) := belowN b13.1 m2
                  have hne := HNE.out
                  have hne2 : ¬ X = Y := HXY.out
                  have hne3 : (X == Y) = false := by simpa using hne2
                  clear hcl hsb2 y3 y4 b13
                  rcases sb with _ | _
                  all_goals
                    go_wp2_with (first
                      | (with_reducible refine to_str_g 108 _ _ _ _ X rfl o4 rfl ?_)
                      | (with_reducible refine to_str_g 110 _ _ _ _ Y rfl o5 rfl ?_)
                      | (with_reducible refine load_box_g 114 44 _ 44 J1 0 _ (D1.map B8) isAgg_dig HzD1.out y1 rfl (fun j u hj => by rw [Nat.zero_add]; exact hj) rfl ?_)
                      | (with_reducible refine load_box_g 115 44 _ 44 J2 0 _ (D2.map B8) isAgg_dig HzD2.out y2 rfl (fun j u hj => by rw [Nat.zero_add]; exact hj) rfl ?_)
                      | (with_reducible refine eql_bytes_g 116 44 _ _ _ _ Tryd.underlying44 Tryd.underlying5 size_u8 guard_dig D1 D2 rfl rfl D1l.out D2l.out rfl ?_; rw [← HCL.out]))
                    go_ret
                    exact ⟨rfl, bF⟩
          · by_cases hlt : i < ps.length
            · have h1 := hsb.out.1 rfl
              obtain ⟨hT, hlen, htk⟩ := h1
              have HTK := hide htk
              have HTT := hide hT
              have hlq : i < qs.length := by omega
              have HLEN := hide hlen
              clear hlen htk hT hsb fin
              obtain ⟨e1, o1, rfl, hb1, hc1⟩ := hs.ex (by simp; omega)
              obtain ⟨e2, o2, rfl, hb2, hc2⟩ := ht.ex (by simp; omega)
              obtain ⟨s1, hs1⟩ : ∃ s, ps[i]? = some s := ⟨ps[i], by simp [hlt]⟩
              obtain ⟨s2, hs2⟩ : ∃ s, qs[i]? = some s := ⟨qs[i], by simp [hlq]⟩
              have r1 : w1.cell? ⟨e1, o1 + i, none⟩ = some (Value.string s1) := by
                have h := hc1 i _ (by rw [List.getElem?_map, hs1]; rfl)
                rw [b1.1.cell (World.block_lt_of_cell? w _ h)]; exact h
              have r2 : w1.cell? ⟨e2, o2 + i, none⟩ = some (Value.string s2) := by
                have h := hc2 i _ (by rw [List.getElem?_map, hs2]; rfl)
                rw [b1.1.cell (World.block_lt_of_cell? w _ h)]; exact h
              have HN := hide (eq_next hs1 hs2)
              have HP1 := hide hs1
              have HP2 := hide hs2
              have i0 : (0 : Int) ≤ (i : Int) := by omega
              have i1 : (i : Int) < (ps.length : Int) := by omega
              have i2 : (i : Int) < (qs.length : Int) := by omega
              clear hc1 hc2 hs1 hs2
              by_cases hss : s1 = s2
              · have he : (s1.toList == s2.toList) = true := by rw [hss]; simp
                have HSS := hide hss
                clear hss
                go_wp2_with fail
                go_quiet (fail)
                go_wp2_with fail
                go_roundg (ps.length - (i + 1))
                case measure => have := HG.out; omega
                case rel => exact ⟨i + 1, _, true, by omega, rfl, by go_num, rfl, hide ⟨fun _ => ⟨HTT.out, HLEN.out, HN.out.2 ⟨HTK.out, HSS.out⟩⟩, (fun h => by cases h)⟩, rfl⟩
              · have he := toList_ne hss
                have HSS := hide hss
                clear hss
                go_wp2_with fail
                go_quiet (fail)
                go_wp2_with fail
                go_roundg (ps.length - (i + 1))
                case measure => have := HG.out; omega
                case rel => exact ⟨i + 1, _, false, by omega, rfl, by go_num, rfl, hide ⟨(fun h => by cases h), fun _ hp => HSS.out (by have e := hp.2; have h1 := HP1.out; rw [e, HP2.out] at h1; exact (Option.some.inj h1).symm)⟩, rfl⟩
            · have hP := fin.out (fun _ => by omega)
              have hP := hide (of_decide_eq_true hP.out.symm)
              clear hsb fin
              go_wp2_with fail
              have b2 : Below w.heap.size w (w1.drewN m) ∧ w.heap.size ≤ (w1.drewN m).heap.size := ⟨belowN b1.1 m, b1.2⟩
              have x3 : Box (w1.drewN m) B 48 [B8 T0, B8 T1] := x3.drewN m
              clear k0 k1 b1
              obtain ⟨X, hX⟩ : ∃ X, Hid (inputL (T0.toNat : Int) ps = X) := ⟨_, rfl⟩
              have hY : Hid (inputL (T1.toNat : Int) qs = X) := by show _ = _; rw [← hX.out, hP.out.1, hP.out.2]
              refine (input_at hX.out (by omega) HS.out (hs.below b2.1)).mono ?_
              rintro e w4 ⟨a4, c4, rfl, o4, h1⟩
              have b4 := bnext b2 h1
              have x3 := x3.under h1
              have k1 : w4.cell? ⟨B, 1, none⟩ = some (B8 T1) := x3.at_ rfl
              have o4 := o4.sl
              clear h1 b2
              go_wp2_with fail
              refine (input_at hY.out (by omega) HT.out (ht.below b4.1)).mono ?_
              rintro e w5 ⟨a5, c5, rfl, o5, h1⟩
              have b5 := bnext b4 h1
              have o4 := o4.below h1
              have o5 := o5.sl
              clear h1 b4 k1 x3
              go_wp2_with (first
                | (with_reducible refine to_str_g 72 _ _ _ _ X rfl o4 rfl ?_)
                | (with_reducible refine to_str_g 74 _ _ _ _ X rfl o5 rfl ?_))
              go_ret
              exact ⟨rfl, b5.1⟩
    · have hF2 := hide (decide_eq_false q2)
      clear q2
      go_enter Tryd.func8, Tryd.ntmps8
      go_wp2_with fail
      refine (law2_sanity _ (hL.out.below b0.1)).mono ?_
      rintro e w1 ⟨rfl, h1⟩
      have b1 := bnext b0 h1
      clear h1 b0
      go_wp2_with fail
      refine (few12_at hF.out (hs.below b1.1)).mono ?_
      rintro e w1' ⟨rfl, rfl⟩
      go_wp2_with fail
      refine (few12_at hF2.out (ht.below b1.1)).mono ?_
      rintro e w1' ⟨rfl, rfl⟩
      go_wp2_with fail
      go_ret
      exact ⟨rfl, b1.1⟩
  · have hF := hide (decide_eq_false q1)
    clear q1
    go_enter Tryd.func8, Tryd.ntmps8
    go_wp2_with fail
    refine (law2_sanity _ (hL.out.below b0.1)).mono ?_
    rintro e w1 ⟨rfl, h1⟩
    have b1 := bnext b0 h1
    clear h1 b0
    go_wp2_with fail
    refine (few12_at hF.out (hs.below b1.1)).mono ?_
    rintro e w1' ⟨rfl, rfl⟩
    go_wp2_with fail
    go_ret
    exact ⟨rfl, b1.1⟩
theorem walk_Separates_i (A B : Int) (h0 : 0 ≤ A ∧ A ≤ 255) (h1 : 0 ≤ B ∧ B ≤ 255) (ps qs : List ByteArray) (a1 a2 : Option Addr) (n1 n2 c1 c2 : Nat) (w : World) (hs : Sl w 1 a1 n1 c1 (ps.map Value.string)) (ht : Sl w 1 a2 n2 c2 (qs.map Value.string)) (hL : Laid w) :
    Calls Tryd.prog 8 #[.agg #[.int .u8 A, .int .u8 B], .slice a1 n1 c1, .slice a2 n2 c2] w fun e w' => e = .returned (.bool true) ∧ Below w.heap.size w w' := by
  have e : A = ((UInt8.ofNat A.toNat).toNat : Int) := by rw [UInt8.toNat_ofNat']; omega
  have f : B = ((UInt8.ofNat B.toNat).toNat : Int) := by rw [UInt8.toNat_ofNat']; omega
  rw [e, f]
  exact walk_Separates (UInt8.ofNat A.toNat) (UInt8.ofNat B.toNat) ps qs a1 a2 n1 n2 c1 c2 w hs ht hL
end Go.Proofs.YtalicdpocgomkaaDoor
