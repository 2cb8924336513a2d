/- The contracts of the functions that the law reaches, joined into one text. -/
import Derived.Test.YtmjkhmebpciopaaLawT55b
set_option linter.unusedVariables false
set_option linter.unusedSimpArgs false

/- the text T55 -/
section
/- Chapter 15: the walk of TabularReads. -/
namespace Go.Proofs.Ytmjkhmebpciopaa
open Go.RowKit Go.Dx

set_option maxRecDepth 100000 in
set_option maxHeartbeats 2000000 in
theorem walk_TabularReads (l : List Int) (a : Option Addr) (n c : Nat) (wd at_ how by_ : Int) (l2 : List Int) (a2 : Option Addr) (n2 c2 : Nat) (w : World) (hs : Sl w 1 a n c (l.map I64)) (hl : ∀ x ∈ l, -9223372036854775808 ≤ x ∧ x ≤ 9223372036854775807)
    (hwd : -9223372036854775808 ≤ wd ∧ wd ≤ 9223372036854775807) (hat : -9223372036854775808 ≤ at_ ∧ at_ ≤ 9223372036854775807) (hho : -9223372036854775808 ≤ how ∧ how ≤ 9223372036854775807) (hby : -9223372036854775808 ≤ by_ ∧ by_ ≤ 9223372036854775807)
    (hs2 : Sl w 1 a2 n2 c2 (l2.map I64)) (hl2 : ∀ x ∈ l2, -9223372036854775808 ≤ x ∧ x ≤ 9223372036854775807) :
    Calls Try.prog 4 #[.slice a n c, .int .i64 wd, .int .i64 at_, .int .i64 how, .int .i64 by_, .slice a2 n2 c2] w fun e w' => e = .returned (.bool true) ∧ Below w.heap.size w w' := by
  have hM : ∀ w', Below w.heap.size w w' → Calls Try.prog 19 #[.slice a2 n2 c2] w' fun e w2 => ∃ P a' c' hs', e = .returned (.slice a' P.length c') ∧ P.length ≤ 4 ∧ (∀ r ∈ P, r.length ≤ 8) ∧ OPage w2 w'.heap.size a' c' hs' P ∧ Below w'.heap.size w' w2 := fun w' hb => law15_some l2 a2 n2 c2 w' (hs2.below hb) hl2
  clear hl2 hs2
  obtain ⟨r, Hr⟩ : ∃ r, Hid (aroundF wd 30 = r) := ⟨_, hide rfl⟩
  have hr : r < 30 := by rw [← Hr.out]; exact aroundF_lt (by omega)
  have hA := fun (w : World) => Around_at (w := w) Hr.out (v := 30) rfl (by omega) (by omega) hwd.1 hwd.2
  have hE := ref15_Entries l a n c w hs hl
  go_enter Try.func4, Try.ntmps4
  go_wp2_with fail
  refine hE.mono ?_
  rintro e w1 ⟨X, aX, cX, hsX, rfl, HX, hX4, hC6, hO, hb1⟩
  have hp1 := hO.pg
  clear hE hO hs hl
  go_wp2_with fail
  refine (hA _).mono ?_
  rintro e w2 ⟨rfl, rfl⟩
  obtain ⟨P0, F, Ls, hlay⟩ := LayOf.ex X (4 + (r : Int))
  obtain ⟨E, HE⟩ : ∃ E, Hid (errT X (4 + (r : Int)) = E) := ⟨_, hide rfl⟩
  have HLR : Hid (E = 0 → Reads P0 X) := hide (fun h => lay_reads HX hlay (HE.out.trans h))
  have hly := lay_any hlay hsX aX X.length cX w1 hp1
  rw [HE.out] at hly
  clear hlay
  go_wp2_with fail
  refine hly.mono ?_
  rintro e w2 ⟨ap, cp, hsp, af, cf, al, cl, rfl, hpgP, _, _, hb2⟩
  have b12 := hb1.trans (hb2.mono hb1.size)
  clear hly hA
  obtain ⟨x0, hx0⟩ : ∃ z, X[0]? = some z := ⟨X[0]'(by have := HX.r1; omega), by simp⟩
  obtain ⟨ax0, cx0, ks0, hu0, hpx0⟩ := hp1.get hx0
  have hx0l : x0.length = nCols X := HX.row x0 (List.mem_of_getElem? hx0)
  rw [hx0l] at hu0
  have HU0 := hide hu0
  obtain ⟨N, HN⟩ : ∃ N, Hid (nCols X = N) := ⟨_, hide rfl⟩
  rw [HN.out] at HU0
  have hr1 := HX.r1
  clear hx0 hu0 hpx0 hx0l
  go_upto_if 45 with (with_reducible refine store_all 31 _ _ 31 _ _ [.slice af F.length cf, .slice al Ls.length cl] _ (size_tcert _ _) (Box.new w2 _ _) rfl rfl rfl (Eq.refl 2) (by simp [Value.oneCell']) ?_; intro w3 hx3 hg3 hs3)
  have b23 : Below w2.heap.size w2 w3 := (blo w2 _).grown hg3 (by simp) (fun k hk => by cases hk; exact Nat.le_refl _)
  have b13 := b12.trans (b23.mono b12.size)
  have hp3 := hp1.below (hb2.trans (b23.mono hb2.size))
  have hpg3 := hpgP.below b23
  clear hx3 hg3 hs3 b23 b12 hb2 hpgP
  go_cut [14] (fun p w' => ∃ (aP : Option Addr) (cP : Nat) (hsP : List Hd) (P : List (List UInt8)), p = .slice aP P.length cP ∧ Pg w' aP P.length cP hsP P ∧ Below w3.heap.size w3 w' ∧ Hid (Reads P X))
  case first =>
    by_cases hE0 : E = 0
    · subst hE0
      have HR0 := hide (HLR.out rfl)
      go_wp2_with fail
      go_meet
      exact ⟨ap, cp, hsp, P0, rfl, hpg3, Below.refl _ _, HR0⟩
    · have e0 : (E == 0) = false := by simpa using hE0
      have hln := ref15_Lines X hsX aX X.length cX 1 (nCols X) w3 hp3 HX.row HX.r2 HX.c1 HX.c2 HX.le HX.c1 (Nat.le_refl _)
      have HR1 := hide (reads_one HX)
      have HPL : Hid ((linesL (colW X) X 1 (nCols X - 1)).length = X.length) := hide (linesL_len _ _ _ _)
      generalize linesL (colW X) X 1 (nCols X - 1) = PL at *
      rw [HN.out] at hln
      clear hE0
      go_wp2_with (with_reducible refine idx_3 48 _ _ _ _ _ hsX rfl hp3.top _ _ 0 rfl rfl _ HU0.out ?_; intro b o hcell hbo)
      refine hln.mono ?_
      rintro e w4 ⟨a5, c5, hs5, rfl, ho5, hb5⟩
      have hpg5 := ho5.pg
      go_wp2_with fail
      go_meet
      exact ⟨a5, c5, hs5, PL, by rw [HPL.out], hpg5, hb5, HR1⟩
  case rest =>
    obtain ⟨aP, cP, hsP, P, rfl, hpP, hb3c, HRD⟩ := hcut
    have b1c := b13.trans (hb3c.mono b13.size)
    have hpX := hp3.below hb3c
    obtain ⟨hP1, hP2, hP3, hP4⟩ := reads_facts HRD.out
    have HP3 := hide hP3
    have HP4 := hide hP4
    clear hp1 hp3 hpg3 hb3c b13 HLR HE hP3 hP4 HU0
    have htr := tab_Read P hsP aP P.length cP wc hpP (by omega) (fun r hr => by have := HP3.out r hr; omega)
    go_wp2_with fail
    refine htr.mono ?_
    rintro e w4 ⟨Z, x, aZ, cZ, hsZ, rfl, hZ, hpZ, hb4⟩
    obtain ⟨rfl, rfl⟩ := hZ.uniq (.inl ⟨rfl, HRD.out⟩)
    have hsm := ref15_Same Z Z hsX hsZ aX aZ Z.length Z.length cX cZ w4 (hpX.below hb4) hpZ
    rw [decide_eq_true rfl] at hsm
    have hP0 : ((P.length : Int) == 0) = false := by simp; intro h; rw [h] at hP1; simp at hP1
    have b14 := b1c.trans (hb4.mono b1c.size)
    have hpX4 := hpX.below hb4
    have hpP4 := hpP.below hb4
    clear htr hZ hpZ hb4 hpX hpP
    go_wp2_with fail
    refine hsm.mono ?_
    rintro e w5 ⟨rfl, hb5⟩
    have b15 := b14.trans (hb5.mono b14.size)
    have hpX5 := hpX4.below hb5
    have hpP5 := hpP4.below hb5
    clear hpX4 hpP4 hb5 b14 hsm b1c
    go_wp2_with fail
    go_loopg [19, 20] P.length (fun g q' i' w' => ∃ (i : Nat) (aQ : Option Addr) (cQ : Nat) (hsQ : List Hd), i ≤ P.length ∧ g = P.length - i ∧ i' = .int .i64 (i : Int) ∧ q' = .slice aQ i cQ ∧ QPage w' w5.heap.size aQ cQ hsQ (P.take i) ∧ Below w5.heap.size w5 w')
    case atStart => exact ⟨0, none, 0, [], by omega, by omega, rfl, rfl, QPage.nil _ _, Below.refl _ _⟩
    case round =>
      obtain ⟨i, aQ, cQ, hsQ, hi, hg, rfl, rfl, hQ, hbk⟩ := hrel
      have HG := hide hg
      clear hg
      have hpr := hpP5.below hbk
      by_cases hil : i < P.length
      · have d1 : decide ((i : Int) < (P.length : Int)) = true := decide_eq_true (by omega)
        obtain ⟨r0, hr0⟩ : ∃ r, P[i]? = some r := ⟨P[i], by simp [hil]⟩
        have hrl := HP3.out r0 (List.mem_of_getElem? hr0)
        obtain ⟨ar, cr, hur, hsr⟩ := hpr.get hr0
        have HUR := hide hur
        have HTK := hide (take_snoc hr0)
        have HTL : Hid ((P.take i).length = i) := hide (by rw [List.length_take]; omega)
        obtain ⟨wy, rfl⟩ : ∃ wy : World, wy = wr := ⟨_, rfl⟩
        have hbz := blo wy (.cells #[] 5)
        have hoz := Own.built wy wy.heap.size 5 1 0 #[] (Nat.le_refl _) rfl (by decide)
        have hptz := hpr.top.below hbz
        have hsr2 := hsr.below hbz
        clear hur hr0 hsr
        go_wp2_with (first
          | (with_reducible refine idx_p 80 _ _ _ _ _ hsP rfl hptz _ _ i rfl rfl _ HUR.out ?_; intro b o hcell hbo)
          | (at_builtin; refine app_bs rfl _ _ rfl wy wy.heap.size _ 0 0 _ rfl hoz _ r0.length cr r0 rfl hsr2 (by omega) hbz.size hbz ?_; intro a3 c3 w3 ho3 hgr3 hb3; rw [Nat.zero_add] at ho3; rw [Nat.zero_add])
          | (at_builtin; refine app_p rfl _ _ rfl w5 w5.heap.size _ _ _ hsQ (P.take i) HTL.out rfl (hQ.pg.below hb3) (a3, r0.length, c3) r0 (ho3.mono hbk.size) rfl (by omega) (Nat.le_trans hbk.size hb3.size) (hbk.trans (hb3.mono hbk.size)) ?_; intro a' c' w' ho' hb'))
        have hnew : ∀ q, (a3, r0.length, c3).1 = some q → wy.heap.size ≤ q.block := fun q hq => by
          have hq' : a3 = some q := hq
          subst hq'
          exact ho3.base.1
        go_roundg (P.length - (i + 1))
        case measure => have := HG.out; omega
        case rel => exact ⟨i + 1, a', c', _, by omega, rfl, by go_num, rfl, by rw [HTK.out]; exact hQ.push hnew ho', hb'⟩
      · obtain rfl : P.length = i := by omega
        have d1 : decide ((P.length : Int) < (P.length : Int)) = false := decide_eq_false (by omega)
        rw [List.take_length] at hQ
        obtain ⟨k, Hk⟩ : ∃ k, Hid (aroundF at_ P.length = k) := ⟨_, hide rfl⟩
        have hk : k < P.length := by rw [← Hk.out]; exact aroundF_lt (by omega)
        have hA2 := fun (w : World) => Around_at (w := w) Hk.out (v := (P.length : Int)) rfl (by omega) (by omega) hat.1 hat.2
        obtain ⟨rk, hrk⟩ : ∃ r, P[k]? = some r := ⟨P[k], by simp [hk]⟩
        obtain ⟨⟨ak, nk, ck⟩, hxk⟩ : ∃ x, hsQ[k]? = some x := ⟨hsQ[k]'(by rw [hQ.pg.len]; exact hk), by simp⟩
        have hrow := hQ.pg.row k _ rk hxk hrk
        have hnk : rk.length = nk := hrow.sl.n_eq.symm
        subst hnk
        have HUK : Hid ((hsQ.map hv)[k]? = some (.slice ak rk.length ck)) := hide (by rw [List.getElem?_map, hxk]; rfl)
        have HRK := hide hrk
        have HXK := hide hxk
        have hrkl := HP3.out rk (List.mem_of_getElem? hrk)
        have HRKC := hide (HP4.out rk (List.mem_of_getElem? hrk))
        have hqt := hQ.pg.pg.top
        clear hrk hxk
        go_wp2_with fail
        refine (hA2 _).mono ?_
        rintro e w6 ⟨rfl, rfl⟩
        go_upto_if 94 with (with_reducible refine idx_p 91 _ _ _ _ _ hsQ rfl hqt _ _ k rfl rfl _ HUK.out ?_; intro b o hcell hbo)
        go_cut [22] (fun _ w' => ∃ Q, OPage w' w5.heap.size aQ cQ hsQ Q ∧ Q.length = P.length ∧ Below w5.heap.size w5 w' ∧ Hid (∀ r ∈ Q, r.length ≤ 1000))
        case first =>
          by_cases h0 : 0 < rk.length
          · have d2 : decide (0 < (rk.length : Int)) = true := decide_eq_true (by omega)
            obtain ⟨kb, rfl⟩ : ∃ b, ak = some ⟨b, 0, none⟩ := by
              cases ak with
              | none => have h1 := hrow.sl.nil rfl; have h2 := hrow.sl.le; omega
              | some q => exact ⟨q.block, congrArg some hrow.zero⟩
            obtain ⟨qb, rfl⟩ : ∃ b, aQ = some ⟨b, 0, none⟩ := by
              cases aQ with
              | none => have h1 := hqt.nil rfl; have h2 := hqt.le; omega
              | some q => exact ⟨q.block, congrArg some hQ.pg.top.zero⟩
            obtain ⟨j, Hj⟩ : ∃ j, Hid (aroundF by_ rk.length = j) := ⟨_, hide rfl⟩
            have hj : j < rk.length := by rw [← Hj.out]; exact aroundF_lt (by omega)
            have hA3 := fun (w : World) => Around_at (w := w) Hj.out (v := (rk.length : Int)) rfl (by omega) (by omega) hby.1 hby.2
            obtain ⟨u0, hu0⟩ : ∃ u, rk[j]? = some u := ⟨rk[j], by simp [hj]⟩
            have hu63 := HRKC.out u0 (List.mem_of_getElem? hu0)
            obtain ⟨h, Hh⟩ : ∃ h, Hid (aroundF how 62 = h) := ⟨_, hide rfl⟩
            have hh : h < 62 := by rw [← Hh.out]; exact aroundF_lt (by omega)
            have hA4 := fun (w : World) => Around_at (w := w) Hh.out (v := 62) rfl (by omega) (by omega) hho.1 hho.2
            obtain ⟨v, Hv⟩ : ∃ v, Hid (aroundF ((u0.toNat : Int) + 1 + (h : Int)) 64 = v) := ⟨_, hide rfl⟩
            have hv : v < 64 := by rw [← Hv.out]; exact aroundF_lt (by omega)
            have hA5 := fun (w : World) => Around_at (w := w) Hv.out (v := 64) rfl (by omega) (by omega) (by omega) (by omega)
            have HNE : Hid (UInt8.ofNat v ≠ u0) := hide (fun e => by
              have h1 := aroundF_eq (n := (u0.toNat : Int) + 1 + (h : Int)) (m := 64) (by omega)
              rw [Hv.out] at h1
              have h2 := congrArg UInt8.toNat e
              rw [u8_nat (by omega)] at h2
              split at h1 <;> omega)
            have HU := hide hu0
            have HUC : Hid ((rk.map B8)[j]? = some (.int .u8 (u0.toNat : Int))) := hide (by rw [List.getElem?_map, hu0]; rfl)
            have hkb := hrow.base.1
            have hcQ : ∀ w', Below wr.heap.size wr w' → w'.cell? ⟨qb, k, none⟩ = some (.slice (some ⟨kb, 0, none⟩) rk.length ck) := fun w' h => (hQ.pg.top.below h).at_ HUK.out
            have hcK : ∀ w', Below wr.heap.size wr w' → w'.cell? ⟨kb, j, none⟩ = some (.int .u8 (u0.toNat : Int)) := fun w' h => (hrow.below h).at_ HUC.out
            clear hu0 hcell hbo
            go_wp2_with (with_reducible refine idx_p 98 _ _ _ _ _ hsQ rfl hqt _ _ k rfl rfl _ HUK.out ?_; intro b2 o2 hcell2 hbo2)
            refine (hA3 _).mono ?_
            rintro e w6 ⟨rfl, rfl⟩
            clear hcell2 hbo2 hA3
            go_upto_region 16 with fail
            refine wp_region_free 19 [⟨0, 102, [102], fun vs _ => vs = [.slice (some ⟨qb, 0, none⟩) P.length cQ]⟩, ⟨1, 103, [103], fun vs _ => vs = [.int .i64 (k : Int)]⟩, ⟨2, 104, [104], fun vs _ => vs = [.pointer (some ⟨qb, k, none⟩)]⟩, ⟨3, 105, [105], fun vs _ => vs = [.slice (some ⟨kb, 0, none⟩) rk.length ck]⟩, ⟨4, 106, [106], fun vs _ => vs = [.int .i64 (j : Int)]⟩, ⟨5, 107, [107], fun vs _ => vs = [.slice (some ⟨qb, 0, none⟩) P.length cQ]⟩, ⟨6, 108, [108], fun vs _ => vs = [.int .i64 (k : Int)]⟩, ⟨7, 109, [109], fun vs _ => vs = [.pointer (some ⟨qb, k, none⟩)]⟩, ⟨8, 110, [110], fun vs _ => vs = [.slice (some ⟨kb, 0, none⟩) rk.length ck]⟩, ⟨9, 111, [111], fun vs _ => vs = [.int .i64 (j : Int)]⟩, ⟨10, 112, [112], fun vs _ => vs = [.pointer (some ⟨kb, j, none⟩)]⟩, ⟨11, 113, [113], fun vs _ => vs = [.int .u8 (u0.toNat : Int)]⟩, ⟨12, 114, [114], fun vs _ => vs = [.int .i64 (u0.toNat : Int)]⟩, ⟨13, 115, [115], fun vs _ => vs = [.int .i64 ((u0.toNat : Int) + 1)]⟩, ⟨14, 116, [116], fun vs _ => vs = [.int .i64 how]⟩, ⟨15, 117, [117], fun vs _ => vs = [.int .i64 (h : Int)]⟩, ⟨16, 118, [118], fun vs _ => vs = [.int .i64 ((u0.toNat : Int) + 1 + (h : Int))]⟩, ⟨17, 119, [119], fun vs _ => vs = [.int .i64 (v : Int)]⟩, ⟨18, 120, [120], fun vs _ => vs = [.int .u8 (v : Int)]⟩] (by kernel_rfl) (by kernel_rfl) ?_ ?_ ?_
            · simp only [All]
              refine ⟨fun _ _ _ _ h => h, fun _ _ _ _ h => h, fun _ _ _ _ h => h, fun _ _ _ _ h => h, fun _ _ _ _ h => h, fun _ _ _ _ h => h, fun _ _ _ _ h => h, fun _ _ _ _ h => h, fun _ _ _ _ h => h, fun _ _ _ _ h => h, fun _ _ _ _ h => h, fun _ _ _ _ h => h, fun _ _ _ _ h => h, fun _ _ _ _ h => h, fun _ _ _ _ h => h, fun _ _ _ _ h => h, fun _ _ _ _ h => h, fun _ _ _ _ h => h, fun _ _ _ _ h => h, trivial⟩
            · simp only [All]
              refine ⟨?_, ?_, ?_, ?_, ?_, ?_, ?_, ?_, ?_, ?_, ?_, ?_, ?_, ?_, ?_, ?_, ?_, ?_, ?_, trivial⟩
              · intro o ho a' w' hb hfr hdep
                obtain rfl := Option.some.inj ho
                have g19 : a'.tmps[19]?.getD undef = .slice (some ⟨qb, 0, none⟩) P.length cQ := by have h := hfr 19 (by kernel_rfl); simpa using h
                clear ho hfr hdep
                go_wp2_with fail
                exact ⟨rfl, _, rfl, Below.refl _ _, rfl⟩
              · intro o ho a' w' hb hfr hdep
                obtain rfl := Option.some.inj ho
                have g21 : a'.tmps[21]?.getD undef = .int .i64 (k : Int) := by have h := hfr 21 (by kernel_rfl); simpa using h
                clear ho hfr hdep
                go_wp2_with fail
                exact ⟨rfl, _, rfl, Below.refl _ _, rfl⟩
              · intro o ho a' w' hb hfr hdep
                obtain rfl := Option.some.inj ho
                have g102 : a'.tmps[102]?.getD undef = .slice (some ⟨qb, 0, none⟩) P.length cQ := by have h := hdep 0 _ rfl (by kernel_rfl); simpa using h
                have g103 : a'.tmps[103]?.getD undef = .int .i64 (k : Int) := by have h := hdep 1 _ rfl (by kernel_rfl); simpa using h
                clear ho hfr hdep
                go_wp2_with fail
                exact ⟨rfl, _, rfl, Below.refl _ _, rfl⟩
              · intro o ho a' w' hb hfr hdep
                obtain rfl := Option.some.inj ho
                have g104 : a'.tmps[104]?.getD undef = .pointer (some ⟨qb, k, none⟩) := by have h := hdep 2 _ rfl (by kernel_rfl); simpa using h
                clear ho hfr hdep
                have hcl := hcQ _ hb
                go_wp2_with fail
                exact ⟨rfl, _, rfl, Below.refl _ _, rfl⟩
              · intro o ho a' w' hb hfr hdep
                obtain rfl := Option.some.inj ho
                have g22 : a'.tmps[22]?.getD undef = .int .i64 (j : Int) := by have h := hfr 22 (by kernel_rfl); simpa using h
                clear ho hfr hdep
                go_wp2_with fail
                exact ⟨rfl, _, rfl, Below.refl _ _, rfl⟩
              · intro o ho a' w' hb hfr hdep
                obtain rfl := Option.some.inj ho
                have g19 : a'.tmps[19]?.getD undef = .slice (some ⟨qb, 0, none⟩) P.length cQ := by have h := hfr 19 (by kernel_rfl); simpa using h
                clear ho hfr hdep
                go_wp2_with fail
                exact ⟨rfl, _, rfl, Below.refl _ _, rfl⟩
              · intro o ho a' w' hb hfr hdep
                obtain rfl := Option.some.inj ho
                have g21 : a'.tmps[21]?.getD undef = .int .i64 (k : Int) := by have h := hfr 21 (by kernel_rfl); simpa using h
                clear ho hfr hdep
                go_wp2_with fail
                exact ⟨rfl, _, rfl, Below.refl _ _, rfl⟩
              · intro o ho a' w' hb hfr hdep
                obtain rfl := Option.some.inj ho
                have g107 : a'.tmps[107]?.getD undef = .slice (some ⟨qb, 0, none⟩) P.length cQ := by have h := hdep 5 _ rfl (by kernel_rfl); simpa using h
                have g108 : a'.tmps[108]?.getD undef = .int .i64 (k : Int) := by have h := hdep 6 _ rfl (by kernel_rfl); simpa using h
                clear ho hfr hdep
                go_wp2_with fail
                exact ⟨rfl, _, rfl, Below.refl _ _, rfl⟩
              · intro o ho a' w' hb hfr hdep
                obtain rfl := Option.some.inj ho
                have g109 : a'.tmps[109]?.getD undef = .pointer (some ⟨qb, k, none⟩) := by have h := hdep 7 _ rfl (by kernel_rfl); simpa using h
                clear ho hfr hdep
                have hcl := hcQ _ hb
                go_wp2_with fail
                exact ⟨rfl, _, rfl, Below.refl _ _, rfl⟩
              · intro o ho a' w' hb hfr hdep
                obtain rfl := Option.some.inj ho
                have g22 : a'.tmps[22]?.getD undef = .int .i64 (j : Int) := by have h := hfr 22 (by kernel_rfl); simpa using h
                clear ho hfr hdep
                go_wp2_with fail
                exact ⟨rfl, _, rfl, Below.refl _ _, rfl⟩
              · intro o ho a' w' hb hfr hdep
                obtain rfl := Option.some.inj ho
                have g110 : a'.tmps[110]?.getD undef = .slice (some ⟨kb, 0, none⟩) rk.length ck := by have h := hdep 8 _ rfl (by kernel_rfl); simpa using h
                have g111 : a'.tmps[111]?.getD undef = .int .i64 (j : Int) := by have h := hdep 9 _ rfl (by kernel_rfl); simpa using h
                clear ho hfr hdep
                go_wp2_with fail
                exact ⟨rfl, _, rfl, Below.refl _ _, rfl⟩
              · intro o ho a' w' hb hfr hdep
                obtain rfl := Option.some.inj ho
                have g112 : a'.tmps[112]?.getD undef = .pointer (some ⟨kb, j, none⟩) := by have h := hdep 10 _ rfl (by kernel_rfl); simpa using h
                clear ho hfr hdep
                have hcl := hcK _ hb
                go_wp2_with fail
                exact ⟨rfl, _, rfl, Below.refl _ _, rfl⟩
              · intro o ho a' w' hb hfr hdep
                obtain rfl := Option.some.inj ho
                have g113 : a'.tmps[113]?.getD undef = .int .u8 (u0.toNat : Int) := by have h := hdep 11 _ rfl (by kernel_rfl); simpa using h
                clear ho hfr hdep
                go_wp2_with fail
                exact ⟨rfl, _, rfl, Below.refl _ _, rfl⟩
              · intro o ho a' w' hb hfr hdep
                obtain rfl := Option.some.inj ho
                have g114 : a'.tmps[114]?.getD undef = .int .i64 (u0.toNat : Int) := by have h := hdep 12 _ rfl (by kernel_rfl); simpa using h
                clear ho hfr hdep
                go_wp2_with fail
                exact ⟨rfl, _, rfl, Below.refl _ _, rfl⟩
              · intro o ho a' w' hb hfr hdep
                obtain rfl := Option.some.inj ho
                have g3 : a'.tmps[3]?.getD undef = .int .i64 how := by have h := hfr 3 (by kernel_rfl); simpa using h
                clear ho hfr hdep
                go_wp2_with fail
                exact ⟨rfl, _, rfl, Below.refl _ _, rfl⟩
              · intro o ho a' w' hb hfr hdep
                obtain rfl := Option.some.inj ho
                have g116 : a'.tmps[116]?.getD undef = .int .i64 how := by have h := hdep 14 _ rfl (by kernel_rfl); simpa using h
                clear ho hfr hdep
                go_wp2_with fail
                refine (hA4 _).mono ?_
                rintro e w2 ⟨rfl, rfl⟩
                go_wp2_with fail
                exact ⟨rfl, _, rfl, Below.refl _ _, rfl⟩
              · intro o ho a' w' hb hfr hdep
                obtain rfl := Option.some.inj ho
                have g115 : a'.tmps[115]?.getD undef = .int .i64 ((u0.toNat : Int) + 1) := by have h := hdep 13 _ rfl (by kernel_rfl); simpa using h
                have g117 : a'.tmps[117]?.getD undef = .int .i64 (h : Int) := by have h := hdep 15 _ rfl (by kernel_rfl); simpa using h
                clear ho hfr hdep
                go_wp2_with fail
                exact ⟨rfl, _, rfl, Below.refl _ _, rfl⟩
              · intro o ho a' w' hb hfr hdep
                obtain rfl := Option.some.inj ho
                have g118 : a'.tmps[118]?.getD undef = .int .i64 ((u0.toNat : Int) + 1 + (h : Int)) := by have h := hdep 16 _ rfl (by kernel_rfl); simpa using h
                clear ho hfr hdep
                go_wp2_with fail
                refine (hA5 _).mono ?_
                rintro e w2 ⟨rfl, rfl⟩
                go_wp2_with fail
                exact ⟨rfl, _, rfl, Below.refl _ _, rfl⟩
              · intro o ho a' w' hb hfr hdep
                obtain rfl := Option.some.inj ho
                have g119 : a'.tmps[119]?.getD undef = .int .i64 (v : Int) := by have h := hdep 17 _ rfl (by kernel_rfl); simpa using h
                clear ho hfr hdep
                go_wp2_with fail
                exact ⟨rfl, _, rfl, Below.refl _ _, rfl⟩
            · intro g w3 hb3 hp3
              have p105 := hp3 3 _ rfl
              have p106 := hp3 4 _ rfl
              have p120 := hp3 18 _ rfl
              clear hp3
              simp at p105 p106 p120
              simp only [List.drop_succ_cons, List.drop_zero, List.map_cons, List.map_nil, putAll, Act.put, List.setIfInBounds_toArray, List.set_cons_succ, List.set_cons_zero, p105, p106, p120]
              clear p105 p106 p120
              have hc7 := hcK _ hb3
              have hf7 := (hrow.below hb3).free j
              have hpk := (hQ.below hb3).poke HXK.out HRK.out j (UInt8.ofNat v)
              rw [u8_small' (show v < 256 by omega)] at hpk
              have hbk3 := (hbk.trans (hb3.mono hbk.size)).setCell (p := ⟨kb, j, none⟩) hkb (.int .u8 (v : Int))
              have HNC := hide (reads_changed HRD.out HRK.out HU.out HNE.out)
              have HQL : Hid ((P.set k (rk.set j (UInt8.ofNat v))).length = P.length) := hide (List.length_set ..)
              have HQ3 : Hid (∀ r ∈ P.set k (rk.set j (UInt8.ofNat v)), r.length ≤ 1000) := hide (fun r hr => by
                rcases List.mem_or_eq_of_mem_set hr with h | h
                · exact HP3.out r h
                · rw [h, List.length_set]; exact hrkl)
              generalize P.set k (rk.set j (UInt8.ofNat v)) = Q at *
              clear hcQ hcK hA4 hA5 hQ hrow hqt hbk hpr
              refine index_known 121 47 _ _ 5 Try.underlying47 size_u8 kb rk.length ck rfl _ _ j rfl rfl hj ?_
              go_wp2_with fail
              generalize (w3.setCell ⟨kb, j, none⟩ (.int .u8 (v : Int))) = w4 at *
              have hpgq := hpk.pg
              rw [HQL.out] at hpgq
              refine (tab_Read Q hsQ (some ⟨qb, 0, none⟩) P.length cQ w4 hpgq (by rw [HQL.out]; omega) (fun r hr => by have := HQ3.out r hr; omega)).mono ?_
              rintro e w6 ⟨Z2, x2, aY, cY, hsY, rfl, hZ2, hpY, hb6⟩
              have hpk6 := hpk.below hb6
              have hbk6 := hbk3.trans (hb6.mono hbk3.size)
              have hsm2 := ref15_Same Z Z2 hsX hsY aX aY Z.length Z2.length cX cY w6 (hpX5.below hbk6) hpY
              rcases hZ2 with ⟨rfl, hR2⟩ | ⟨rfl, _, _⟩
              · have hne2 : ¬ Z = Z2 := fun e => HNC.out (by rw [e]; exact hR2)
                rw [decide_eq_false hne2] at hsm2
                clear hR2 hpk hbk3 hb6 hpgq hne2
                go_wp2_with fail
                refine hsm2.mono ?_
                rintro e w7 ⟨rfl, hb7⟩
                have hpk7 := hpk6.below hb7
                have hbk7 := hbk6.trans (hb7.mono hbk6.size)
                go_wp2_with fail
                go_meet
                exact ⟨Q, hpk7, HQL.out, hbk7, HQ3⟩
              · clear hsm2 hpk hbk3 hb6 hpgq
                go_wp2_with fail
                go_meet
                exact ⟨Q, hpk6, HQL.out, hbk6, HQ3⟩
          · have d2 : decide (0 < (rk.length : Int)) = false := decide_eq_false (by omega)
            go_wp2_with fail
            go_meet
            exact ⟨P, hQ.pg, rfl, hbk, HP3⟩
        case rest =>
          obtain ⟨Q, hoQ, hQl, hbQ, HQ3⟩ := hcut
          have HQL := hide hQl
          have hpPc := hpP5.below hbQ
          have hbc := b15.trans (hbQ.mono b15.size)
          obtain ⟨Pb, Po, rfl, _, _⟩ := hpPc.top.ex (by rw [List.length_map, hpPc.len]; omega)
          have hPm := Nat.le_trans hpPc.top.le hpPc.top.cap
          unfold maxLen at hPm
          clear hQl hQ hqt hrow HUK HXK HRKC hpr hbk hpX5 hpP5 hA2
          have hkc : k ≤ cP := by have := hpPc.top.le; omega
          have hTK := hpPc.top.take k (by omega)
          rw [← List.map_take] at hTK
          have hDR := hpPc.top.from (s := k + 1) hk
          obtain ⟨ar, har⟩ : ∃ ar, (if cP = k + 1 then some (⟨Pb, Po, none⟩ : Addr) else (some (⟨Pb, Po, none⟩ : Addr)).map (·.add (k + 1))) = ar := ⟨_, rfl⟩
          rw [har] at hDR
          have HAR := hide har
          clear har
          go_upto_region 20 with fail
          refine wp_region_chain4 13 (fun _ _ => True) (GZ wc k (P.length - (k + 1)) (hsP.take k) (hsP.drop (k + 1))) [⟨0, 134, [], fun _ _ => True⟩, ⟨4, 138, [], fun _ _ => True⟩, ⟨12, 146, [], fun _ _ => True⟩] [⟨1, 135, [135], fun vs _ => vs = [.slice (some ⟨Pb, Po, none⟩) P.length cP]⟩, ⟨2, 136, [136], fun vs _ => vs = [.int .i64 (k : Int)]⟩, ⟨3, 137, [137], fun vs _ => vs = [.slice (some ⟨Pb, Po, none⟩) k cP]⟩, ⟨5, 139, [139], fun vs _ => vs = [.slice (some ⟨Pb, Po, none⟩) P.length cP]⟩, ⟨6, 140, [140], fun vs _ => vs = [.int .i64 (k : Int)]⟩, ⟨7, 141, [141], fun vs _ => vs = [.int .i64 ((k + 1 : Nat) : Int)]⟩, ⟨8, 142, [142], fun vs _ => vs = [.slice (some ⟨Pb, Po, none⟩) P.length cP]⟩, ⟨9, 143, [143], fun vs _ => vs = [.int .i64 (P.length : Int)]⟩, ⟨10, 144, [144], fun vs _ => vs = [.int .i64 ((k + 1 : Nat) : Int)]⟩, ⟨11, 145, [145], fun vs _ => vs = [.slice ar (P.length - (k + 1)) (cP - (k + 1))]⟩] (by kernel_rfl) (by kernel_rfl) ?_ (fun _ _ _ => trivial) GZ.mono ?_ ?_ ?_ ?_
          · exact (Still.below 1 : Below wc.heap.size wc (wc.drewN 1))
          · simp only [All]
            refine ⟨(fun _ _ _ _ h => h), (fun _ _ _ _ h => h), (fun _ _ _ _ h => h), (fun _ _ _ _ h => h), (fun _ _ _ _ h => h), (fun _ _ _ _ h => h), (fun _ _ _ _ h => h), (fun _ _ _ _ h => h), (fun _ _ _ _ h => h), (fun _ _ _ _ h => h), trivial⟩
          · intro m c hc o ho a w' hG hfr hdep
            rcases m with _ | _ | _ | m
            · cases hc
              obtain rfl := Option.some.inj ho
              have hB : Below wc.heap.size wc w' := hG
              clear hfr hdep
              have hbl := (Below.refl w'.heap.size w').alloc (Nat.le_refl _) (.cells #[] 47)
              go_wp2_with fail
              exact ⟨rfl, _, rfl, w'.heap.size, rfl, Own.built w' wc.heap.size 47 1 0 #[] hB.size rfl (by decide), hB.alloc hB.size _⟩
            · cases hc
              obtain rfl := Option.some.inj ho
              obtain ⟨b, g134, hob, hB⟩ := hG
              replace g134 : a.tmps.getD 134 undef = .slice (some ⟨b, 0, none⟩) 0 0 := g134
              have g137 : a.tmps.getD 137 undef = .slice (some ⟨Pb, Po, none⟩) k cP := by have h := hdep 2 _ rfl (by kernel_rfl); simpa using h
              clear hfr hdep
              refine append_own rfl _ _ 29 rfl 47 (.slice none 0 0) 1 24 Try.underlying29 info_row rfl wc wc.heap.size _ 0 0 _ g134 hob (some ⟨Pb, Po, none⟩) k cP ((hsP.take k).map hv) g137 (hTK.below hB) (one_map _ (fun _ => rfl) _) (by omega) (by unfold maxLen; omega) hB.size hB ?_
              intro a3 c3 w5' ho3 _ hb5
              rw [Nat.zero_add, List.nil_append] at ho3
              rw [Nat.zero_add]
              go_wp2
              exact ⟨rfl, _, rfl, a3, c3, rfl, by simpa using ho3, hb5⟩
            · cases hc
              obtain rfl := Option.some.inj ho
              obtain ⟨a3, c3, g138, ho3, hB⟩ := hG
              replace g138 : a.tmps.getD 138 undef = _ := g138
              have g145 : a.tmps.getD 145 undef = .slice ar (P.length - (k + 1)) (cP - (k + 1)) := by have h := hdep 9 _ rfl (by kernel_rfl); simpa using h
              clear hfr hdep
              refine append_own rfl _ _ 29 rfl 47 (.slice none 0 0) 1 24 Try.underlying29 info_row rfl wc wc.heap.size a3 k c3 _ g138 ho3 ar (P.length - (k + 1)) (cP - (k + 1)) ((hsP.drop (k + 1)).map hv) g145 (hDR.below hB) (one_map _ (fun _ => rfl) _) (by omega) (by unfold maxLen; omega) hB.size hB ?_
              intro a4 c4 w5' ho4 _ hb5
              go_wp2
              exact ⟨rfl, _, rfl, a4, c4, rfl, by simpa using ho4, hb5⟩
            · cases hc
          · simp only [All]
            refine ⟨?_, ?_, ?_, ?_, ?_, ?_, ?_, ?_, ?_, ?_, trivial⟩
            · intro o ho a' w' hfr hdep hst
              obtain rfl := Option.some.inj ho
              have g14 : a'.tmps[14]?.getD undef = .slice (some ⟨Pb, Po, none⟩) P.length cP := by have h := hfr 14 (by kernel_rfl); simpa using h
              clear ho hfr hdep hst
              go_wp2_with fail
              exact ⟨rfl, _, rfl, Below.refl _ _, rfl⟩
            · intro o ho a' w' hfr hdep hst
              obtain rfl := Option.some.inj ho
              have g21 : a'.tmps[21]?.getD undef = .int .i64 (k : Int) := by have h := hfr 21 (by kernel_rfl); simpa using h
              clear ho hfr hdep hst
              go_wp2_with fail
              exact ⟨rfl, _, rfl, Below.refl _ _, rfl⟩
            · intro o ho a' w' hfr hdep hst
              obtain rfl := Option.some.inj ho
              have g135 : a'.tmps[135]?.getD undef = .slice (some ⟨Pb, Po, none⟩) P.length cP := by have h := hdep 0 _ rfl (by kernel_rfl); simpa using h
              have g136 : a'.tmps[136]?.getD undef = .int .i64 (k : Int) := by have h := hdep 1 _ rfl (by kernel_rfl); simpa using h
              clear ho hfr hdep hst
              refine cut_hi_any 137 29 _ _ 47 Try.underlying29 1 size_row (some ⟨Pb, Po, none⟩) P.length cP (by show a'.tmps.getD 135 undef = _; simpa using g135) .i64 k (by show a'.tmps.getD 136 undef = _; simpa using g136) hkc ?_
              go_wp2_with fail
              exact ⟨rfl, _, rfl, Below.refl _ _, rfl⟩
            · intro o ho a' w' hfr hdep hst
              obtain rfl := Option.some.inj ho
              have g14 : a'.tmps[14]?.getD undef = .slice (some ⟨Pb, Po, none⟩) P.length cP := by have h := hfr 14 (by kernel_rfl); simpa using h
              clear ho hfr hdep hst
              go_wp2_with fail
              exact ⟨rfl, _, rfl, Below.refl _ _, rfl⟩
            · intro o ho a' w' hfr hdep hst
              obtain rfl := Option.some.inj ho
              have g21 : a'.tmps[21]?.getD undef = .int .i64 (k : Int) := by have h := hfr 21 (by kernel_rfl); simpa using h
              clear ho hfr hdep hst
              go_wp2_with fail
              exact ⟨rfl, _, rfl, Below.refl _ _, rfl⟩
            · intro o ho a' w' hfr hdep hst
              obtain rfl := Option.some.inj ho
              have g140 : a'.tmps[140]?.getD undef = .int .i64 (k : Int) := by have h := hdep 4 _ rfl (by kernel_rfl); simpa using h
              clear ho hfr hdep hst
              go_wp2_with fail
              exact ⟨rfl, _, rfl, Below.refl _ _, by simp⟩
            · intro o ho a' w' hfr hdep hst
              obtain rfl := Option.some.inj ho
              have g14 : a'.tmps[14]?.getD undef = .slice (some ⟨Pb, Po, none⟩) P.length cP := by have h := hfr 14 (by kernel_rfl); simpa using h
              clear ho hfr hdep hst
              go_wp2_with fail
              exact ⟨rfl, _, rfl, Below.refl _ _, rfl⟩
            · intro o ho a' w' hfr hdep hst
              obtain rfl := Option.some.inj ho
              have g142 : a'.tmps[142]?.getD undef = .slice (some ⟨Pb, Po, none⟩) P.length cP := by have h := hdep 6 _ rfl (by kernel_rfl); simpa using h
              clear ho hfr hdep hst
              go_wp2_with fail
              exact ⟨rfl, _, rfl, Below.refl _ _, rfl⟩
            · intro o ho a' w' hfr hdep hst
              obtain rfl := Option.some.inj ho
              have g141 : a'.tmps[141]?.getD undef = .int .i64 ((k + 1 : Nat) : Int) := by have h := hdep 5 _ rfl (by kernel_rfl); simpa using h
              have g143 : a'.tmps[143]?.getD undef = .int .i64 (P.length : Int) := by have h := hdep 7 _ rfl (by kernel_rfl); simpa using h
              clear ho hfr hdep hst
              have hmin : min (((k + 1 : Nat) : Int)) (P.length : Int) = ((k + 1 : Nat) : Int) := Int.min_eq_left (by omega)
              go_wp2_with fail
              exact ⟨rfl, _, rfl, Below.refl _ _, rfl⟩
            · intro o ho a' w' hfr hdep hst
              obtain rfl := Option.some.inj ho
              have g139 : a'.tmps[139]?.getD undef = .slice (some ⟨Pb, Po, none⟩) P.length cP := by have h := hdep 3 _ rfl (by kernel_rfl); simpa using h
              have g144 : a'.tmps[144]?.getD undef = .int .i64 ((k + 1 : Nat) : Int) := by have h := hdep 8 _ rfl (by kernel_rfl); simpa using h
              clear ho hfr hdep hst
              refine cut_lo_any 145 29 _ _ 47 Try.underlying29 size_row (some ⟨Pb, Po, none⟩) P.length cP (by show a'.tmps.getD 139 undef = _; simpa using g139) .i64 (k + 1) (by show a'.tmps.getD 144 undef = _; simpa using g144) hk ?_
              rw [HAR.out]
              go_wp2_with fail
              exact ⟨rfl, _, rfl, Below.refl _ _, rfl⟩
          · intro g w8 hG hp
            obtain ⟨a8, c8, g146, ho8, hb8⟩ := hG
            replace g146 : g 146 = .slice a8 (k + (P.length - (k + 1))) c8 := g146
            clear hp
            simp only [List.drop_succ_cons, List.drop_zero, List.map_cons, List.map_nil, List.cons_append, List.nil_append, putAll, Act.put, List.setIfInBounds_toArray, List.set_cons_succ, List.set_cons_zero, g146]
            clear g146
            have hpP8 := hpPc.below hb8
            have hoQ8 := hoQ.below hb8
            have hb58 := hbQ.trans (hb8.mono hbQ.size)
            have hbw8 := hbc.trans (hb8.mono hbc.size)
            have hTK8 := hTK.below hb8
            have hkle : k ≤ P.length := by omega
            have hDR8 := hpP8.top.from (s := k) hkle
            obtain ⟨ar2, har2⟩ : ∃ ar, (if cP = k then some (⟨Pb, Po, none⟩ : Addr) else (some (⟨Pb, Po, none⟩ : Addr)).map (·.add k)) = ar := ⟨_, rfl⟩
            rw [har2] at hDR8
            have HAR2 := hide har2
            have hpg8 : Pg w8 a8 (k + (P.length - (k + 1))) c8 (hsP.take k ++ hsP.drop (k + 1)) (P.take k ++ P.drop (k + 1)) := by
              refine ⟨by rw [List.map_append]; exact ho8.sl, by rw [List.length_append, List.length_append, List.length_take, List.length_take, List.length_drop, List.length_drop, hpP8.len], fun i x r h1 h2 => ?_⟩
              rw [List.getElem?_append, List.length_take, hpP8.len] at h1
              rw [List.getElem?_append, List.length_take] at h2
              split at h1
              · rename_i hi
                rw [if_pos hi, List.getElem?_take] at h2
                rw [List.getElem?_take] at h1
                split at h1
                · rename_i hi2
                  rw [if_pos hi2] at h2
                  exact hpP8.row i x r h1 h2
                · cases h1
              · rename_i hi
                rw [if_neg hi, List.getElem?_drop] at h2
                rw [List.getElem?_drop] at h1
                exact hpP8.row _ x r h1 h2
            clear har2 hpPc hoQ hbQ hbc hb8 hTK hDR HAR ho8
            go_upto_region 21 with fail
            refine wp_region_chain4 11 KeepP (GN w8 k (P.length - k) hsP) [⟨0, 147, [], fun _ _ => True⟩, ⟨4, 151, [], fun _ _ => True⟩, ⟨6, 153, [], fun _ _ => True⟩, ⟨10, 157, [], fun _ _ => True⟩] [⟨1, 148, [148], fun vs _ => vs = [.slice (some ⟨Pb, Po, none⟩) P.length cP]⟩, ⟨2, 149, [149], fun vs _ => vs = [.int .i64 (k : Int)]⟩, ⟨3, 150, [150], fun vs _ => vs = [.slice (some ⟨Pb, Po, none⟩) k cP]⟩, ⟨5, 152, [152], fun vs w => ∃ b, vs = [.slice (some ⟨b, 0, none⟩) 1 1] ∧ Box w b 47 [.slice none 0 0]⟩, ⟨7, 154, [154], fun vs _ => vs = [.slice (some ⟨Pb, Po, none⟩) P.length cP]⟩, ⟨8, 155, [155], fun vs _ => vs = [.int .i64 (k : Int)]⟩, ⟨9, 156, [156], fun vs _ => vs = [.slice ar2 (P.length - k) (cP - k)]⟩] (by kernel_rfl) (by kernel_rfl) ?_ (fun _ _ h => KeepP.of h) GN.mono ?_ ?_ ?_ ?_
            · exact (Still.below 1 : Below w8.heap.size w8 (w8.drewN 1))
            · simp only [All]
              refine ⟨(fun _ _ _ _ h => h), (fun _ _ _ _ h => h), (fun _ _ _ _ h => h), (fun vs w1 w2 hr ⟨b, h1, h2⟩ => ⟨b, h1, hr.box h2 (by simp)⟩), (fun _ _ _ _ h => h), (fun _ _ _ _ h => h), (fun _ _ _ _ h => h), trivial⟩
            · intro m c hc o ho a w' hG hfr hdep
              rcases m with _ | _ | _ | _ | m
              · cases hc
                obtain rfl := Option.some.inj ho
                have hB : Below w8.heap.size w8 w' := hG
                clear hfr hdep
                have hbl := (Below.refl w'.heap.size w').alloc (Nat.le_refl _) (.cells #[] 47)
                go_wp2_with fail
                exact ⟨rfl, _, rfl, KeepP.of hbl, w'.heap.size, rfl, Own.built w' w8.heap.size 47 1 0 #[] hB.size rfl (by decide), hB.alloc hB.size _⟩
              · cases hc
                obtain rfl := Option.some.inj ho
                obtain ⟨b, g147, hob, hB⟩ := hG
                replace g147 : a.tmps.getD 147 undef = .slice (some ⟨b, 0, none⟩) 0 0 := g147
                have g150 : a.tmps.getD 150 undef = .slice (some ⟨Pb, Po, none⟩) k cP := by have h := hdep 2 _ rfl (by kernel_rfl); simpa using h
                clear hfr hdep
                refine append_empty rfl _ _ 29 rfl 47 (.slice none 0 0) 1 24 Try.underlying29 info_row rfl w8.heap.size _ g147 hob (some ⟨Pb, Po, none⟩) k cP ((hsP.take k).map hv) g150 (hTK8.below hB) (one_map _ (fun _ => rfl) _) (by omega) (by unfold maxLen; omega) hB.size ?_
                intro a3 c3 w3' ho3 hb3' hf3
                have hB3 := hB.trans (hb3'.mono hB.size)
                have hkp := KeepP.of hb3'
                go_wp2
                refine ⟨rfl, _, rfl, hkp, a3, c3, rfl, by simpa using ho3, fun h => ?_, hB3⟩
                rcases hf3 with ⟨_, h2⟩ | ⟨h2, _⟩
                · exact h2
                · exact absurd h h2
              · cases hc
                obtain rfl := Option.some.inj ho
                obtain ⟨a3, c3, g151, ho3, hz3, hB⟩ := hG
                replace g151 : a.tmps.getD 151 undef = .slice a3 k c3 := g151
                obtain ⟨b, g152, hxb2⟩ := hdep 3 _ rfl (by kernel_rfl)
                replace g152 : a.tmps.getD 152 undef = .slice (some ⟨b, 0, none⟩) 1 1 := by simpa using g152
                clear hfr hdep
                have hsl := hxb2.sl 0 1 1 1 [.slice none 0 0] rfl (Nat.le_refl _) (by unfold maxLen; omega) (fun j u hj => by rw [Nat.zero_add]; exact hj)
                refine append_where rfl _ _ 29 rfl 47 (.slice none 0 0) 1 24 Try.underlying29 info_row rfl w8.heap.size a3 k c3 _ g151 ho3 _ 1 1 [.slice none 0 0] g152 hsl (by simp [Value.oneCell']) (by omega) (by unfold maxLen; omega) hB.size ?_
                intro a4 c4 w4' ho4 hg4 hor4
                have hkp := KeepP.app ho3 hg4 hor4 hz3
                have hB4 := hB.grown hg4 hB.size (fun k hk => by cases a3 with | none => cases hk | some q => cases hk; exact ho3.base.1)
                go_wp2
                exact ⟨rfl, _, rfl, hkp, a4, c4, rfl, by simpa using ho4, hB4⟩
              · cases hc
                obtain rfl := Option.some.inj ho
                obtain ⟨a3, c3, g153, ho3, hB⟩ := hG
                replace g153 : a.tmps.getD 153 undef = .slice a3 (k + 1) c3 := g153
                have g156 : a.tmps.getD 156 undef = .slice ar2 (P.length - k) (cP - k) := by have h := hdep 6 _ rfl (by kernel_rfl); simpa using h
                clear hfr hdep
                refine append_where rfl _ _ 29 rfl 47 (.slice none 0 0) 1 24 Try.underlying29 info_row rfl w8.heap.size a3 (k + 1) c3 _ g153 ho3 ar2 (P.length - k) (cP - k) ((hsP.drop k).map hv) g156 (hDR8.below hB) (one_map _ (fun _ => rfl) _) (by omega) (by unfold maxLen; omega) hB.size ?_
                intro a4 c4 w4' ho4 hg4 hor4
                have hkp := KeepP.app ho3 hg4 (hor4.imp (fun h => by omega) id) (fun h => by omega)
                have hB4 := hB.grown hg4 hB.size (fun k hk => by cases a3 with | none => cases hk | some q => cases hk; exact ho3.base.1)
                go_wp2
                exact ⟨rfl, _, rfl, hkp, a4, c4, rfl, by simpa using ho4, hB4⟩
              · cases hc
            · simp only [All]
              refine ⟨?_, ?_, ?_, ?_, ?_, ?_, ?_, trivial⟩
              · intro o ho a' w' hfr hdep hst
                obtain rfl := Option.some.inj ho
                have g14 : a'.tmps[14]?.getD undef = .slice (some ⟨Pb, Po, none⟩) P.length cP := by have h := hfr 14 (by kernel_rfl); simpa using h
                clear ho hfr hdep hst
                go_wp2_with fail
                exact ⟨rfl, _, rfl, Below.refl _ _, rfl⟩
              · intro o ho a' w' hfr hdep hst
                obtain rfl := Option.some.inj ho
                have g21 : a'.tmps[21]?.getD undef = .int .i64 (k : Int) := by have h := hfr 21 (by kernel_rfl); simpa using h
                clear ho hfr hdep hst
                go_wp2_with fail
                exact ⟨rfl, _, rfl, Below.refl _ _, rfl⟩
              · intro o ho a' w' hfr hdep hst
                obtain rfl := Option.some.inj ho
                have g148 : a'.tmps[148]?.getD undef = .slice (some ⟨Pb, Po, none⟩) P.length cP := by have h := hdep 0 _ rfl (by kernel_rfl); simpa using h
                have g149 : a'.tmps[149]?.getD undef = .int .i64 (k : Int) := by have h := hdep 1 _ rfl (by kernel_rfl); simpa using h
                clear ho hfr hdep hst
                refine cut_hi_any 150 29 _ _ 47 Try.underlying29 1 size_row (some ⟨Pb, Po, none⟩) P.length cP (by show a'.tmps.getD 148 undef = _; simpa using g148) .i64 k (by show a'.tmps.getD 149 undef = _; simpa using g149) hkc ?_
                go_wp2_with fail
                exact ⟨rfl, _, rfl, Below.refl _ _, rfl⟩
              · intro o ho a' w' hfr hdep hst
                obtain rfl := Option.some.inj ho
                clear ho hfr hdep hst
                have hxn := Box.new w' 47 #[.slice none 0 0]
                go_wp2_with fail
                exact ⟨rfl, _, rfl, blo _ _, w'.heap.size, rfl, hxn⟩
              · intro o ho a' w' hfr hdep hst
                obtain rfl := Option.some.inj ho
                have g14 : a'.tmps[14]?.getD undef = .slice (some ⟨Pb, Po, none⟩) P.length cP := by have h := hfr 14 (by kernel_rfl); simpa using h
                clear ho hfr hdep hst
                go_wp2_with fail
                exact ⟨rfl, _, rfl, Below.refl _ _, rfl⟩
              · intro o ho a' w' hfr hdep hst
                obtain rfl := Option.some.inj ho
                have g21 : a'.tmps[21]?.getD undef = .int .i64 (k : Int) := by have h := hfr 21 (by kernel_rfl); simpa using h
                clear ho hfr hdep hst
                go_wp2_with fail
                exact ⟨rfl, _, rfl, Below.refl _ _, rfl⟩
              · intro o ho a' w' hfr hdep hst
                obtain rfl := Option.some.inj ho
                have g154 : a'.tmps[154]?.getD undef = .slice (some ⟨Pb, Po, none⟩) P.length cP := by have h := hdep 4 _ rfl (by kernel_rfl); simpa using h
                have g155 : a'.tmps[155]?.getD undef = .int .i64 (k : Int) := by have h := hdep 5 _ rfl (by kernel_rfl); simpa using h
                clear ho hfr hdep hst
                refine cut_lo_any 156 29 _ _ 47 Try.underlying29 size_row (some ⟨Pb, Po, none⟩) P.length cP (by show a'.tmps.getD 154 undef = _; simpa using g154) .i64 k (by show a'.tmps.getD 155 undef = _; simpa using g155) hkle ?_
                rw [HAR2.out]
                go_wp2_with fail
                exact ⟨rfl, _, rfl, Below.refl _ _, rfl⟩
            · intro g w9 hG hp
              obtain ⟨a9, c9, g157, ho9, hb9⟩ := hG
              replace g157 : g 157 = .slice a9 (k + 1 + (P.length - k)) c9 := g157
              clear hp
              simp only [List.drop_succ_cons, List.drop_zero, List.map_cons, List.map_nil, List.cons_append, List.nil_append, putAll, Act.put, List.setIfInBounds_toArray, List.set_cons_succ, List.set_cons_zero, g157]
              clear g157
              have hpP9 := hpP8.below hb9
              have hbw9 := hbw8.trans (hb9.mono hbw8.size)
              have hR8 := rows_of hpP8 HP3.out
              have hR9 := hR8.below hb9
              have iQ9 : IsP w9 (.slice aQ P.length cQ) := ⟨aQ, Q.length, cQ, hsQ, Q, by rw [HQL.out], (hoQ8.below hb9).pg, by rw [HQL.out]; omega, HQ3.out⟩
              have iS9 := (((hR8.take k).app (hR8.drop (k + 1))).isP hpg8.top (by omega)).below hb9
              have iL9 : IsP w9 (.slice a9 (k + 1 + (P.length - k)) c9) := (((hR9.take k).app (PRows.none w9)).app (hR9.drop k)).isP (by have h := ho9.sl; simpa [hv] using h) (by omega)
              clear hpP8 hoQ8 hb58 hbw8 hTK8 hDR8 HAR2 hpg8 hb9 ho9 hR8
              go_wp2_with fail
              refine (hM w9 hbw9).mono ?_
              rintro e w10 ⟨M1, aM1, cM1, hsM1, rfl, hM1l, hM1r, hoM1, hb10⟩
              have iQ10 := iQ9.below hb10
              have iS10 := iS9.below hb10
              have iL10 := iL9.below hb10
              have iM10 : IsP w10 (.slice aM1 M1.length cM1) := ⟨_, _, _, _, _, rfl, hoM1.pg, by omega, fun r hr => by have := hM1r r hr; omega⟩
              have hpP10 := hpP9.below hb10
              have hR10 := hR9.below hb10
              have hbw10 := hbw9.trans (hb10.mono hbw9.size)
              clear iQ9 iS9 iL9 hoM1 hb10 hpP9 hR9 hbw9 hM1l hM1r
              have hbA := blo w10 (.cells #[.slice none 0 0] 47)
              have hown : Own ((w10.alloc (.cells #[.slice none 0 0] 47)).alloc (.cells #[] 47)) w10.heap.size 47 1 (some ⟨w10.heap.size + 1, 0, none⟩) 0 0 [] := by
                have h := Own.built (w10.alloc (.cells #[.slice none 0 0] 47)) w10.heap.size 47 1 0 #[] hbA.size rfl (by decide)
                have e : (w10.alloc (.cells #[.slice none 0 0] 47)).heap.size = w10.heap.size + 1 := by simp
                rw [e] at h
                exact h
              have hbL : Below w10.heap.size w10 ((w10.alloc (.cells #[.slice none 0 0] 47)).alloc (.cells #[] 47)) := hbA.alloc hbA.size _
              have hxN : Box ((w10.alloc (.cells #[.slice none 0 0] 47)).alloc (.cells #[] 47)) w10.heap.size 47 [.slice none 0 0] := (Box.new w10 47 #[.slice none 0 0]).under (blo _ _)
              have hPL := hpP10.top.below hbL
              have hbig : w10.heap.size < ((w10.alloc (.cells #[.slice none 0 0] 47)).alloc (.cells #[] 47)).heap.size := by simp; omega
              go_wp2_with (at_builtin; refine append_empty rfl _ _ 29 rfl 47 (.slice none 0 0) 1 24 Try.underlying29 info_row rfl w10.heap.size _ rfl hown (some ⟨Pb, Po, none⟩) P.length cP (hsP.map hv) rfl hPL (one_map _ (fun _ => rfl) _) (by omega) (by unfold maxLen; omega) hbL.size ?_; intro a11 c11 w11 ho11 hb11 hf11)
              have hb1011 : Below w10.heap.size w10 w11 := hbL.trans (hb11.mono hbL.size)
              have hne11 : ∀ p, a11 = some p → w10.heap.size < p.block := fun p hp => by
                rcases hf11 with ⟨h, _⟩ | ⟨_, h⟩
                · omega
                · exact Nat.lt_of_lt_of_le hbig (h p hp)
              have hxN11 := hxN.under hb11
              clear hbA hown hPL hbL hxN hf11 hb11 hbig
              have hbw11 := hbw10.trans (hb1011.mono hbw10.size)
              refine (hM w11 hbw11).mono ?_
              rintro e w12 ⟨M2, aM2, cM2, hsM2, rfl, hM2l, hM2r, hoM2, hb12⟩
              have ho12 := ho11.below hb12
              have hxN12 := hxN11.under hb12
              have hb1012 := hb1011.trans (hb12.mono hb1011.size)
              have hmt := hoM2.top.sl
              go_wp2_with (at_builtin; refine append_own rfl _ _ 29 rfl 47 (.slice none 0 0) 1 24 Try.underlying29 info_row rfl w10 w10.heap.size a11 P.length c11 _ rfl ho12 aM2 M2.length cM2 (hsM2.map hv) rfl hmt (one_map _ (fun _ => rfl) _) (by omega) (by unfold maxLen; omega) hb1012.size hb1012 ?_; intro a13 c13 w13 ho13 hg13 hb13)
              have ha11 : ∀ t, a11 = some t → t.block < w11.heap.size := fun t ht => by rw [ht] at ho11; exact ho11.base.2
              have iN13 : IsP w13 (.slice (some ⟨w10.heap.size, 0, none⟩) 1 1) := by
                have hbx : Box w13 w10.heap.size 47 [.slice none 0 0] := (hg13.block _ (Array.getElem?_eq_some_iff.1 hxN12).1 (fun e => by
                  cases ha : a11 with
                  | none => rw [ha] at e; cases e
                  | some q =>
                    rw [ha] at e
                    have h1 := hne11 q ha
                    have e' : w10.heap.size = q.block := by simpa using e
                    omega)).trans hxN12
                exact (PRows.none w13).isP (hbx.sl 0 1 1 1 [.slice none 0 0] rfl (Nat.le_refl _) (by unfold maxLen; omega) (fun j u hj => by rw [Nat.zero_add]; exact hj)) (by omega)
              have hRM : PRows w13 hsM2 := fun x hx => by
                obtain ⟨i, hi, rfl⟩ := List.mem_iff_getElem.1 hx
                have hi2 : i < M2.length := by rw [← hoM2.len]; exact hi
                have ho := hoM2.row i hsM2[i] M2[i] (by simp [hi]) (by simp [hi2])
                refine ⟨M2[i], ho.sl.grown hg13 (fun q hq e => ?_), by have := hM2r M2[i] (List.getElem_mem hi2); omega⟩
                rw [hq] at ho
                have h1 := ho.base.1
                cases ha : a11 with
                | none => rw [ha] at e; cases e
                | some t =>
                  rw [ha] at e
                  have e' : q.block = t.block := by simpa using e
                  have h2 := ha11 t ha
                  omega
              have iA13 : IsP w13 (.slice a13 (P.length + M2.length) c13) := ((hR10.below hb13).app hRM).isP (by rw [List.map_append]; exact ho13.sl) (by omega)
              have hcells : ∀ i, i < 7 → ∃ v, (#[.slice aQ P.length cQ, .slice a8 (k + (P.length - (k + 1))) c8, .slice a9 (k + 1 + (P.length - k)) c9, .slice aM1 M1.length cM1, .slice none 0 0, .slice (some ⟨w10.heap.size, 0, none⟩) 1 1, .slice a13 (P.length + M2.length) c13] : Array Value).toList[i]? = some v ∧ IsP w13 v := fun i hi => by
                rcases i with _ | _ | _ | _ | _ | _ | _ | i
                · exact ⟨_, rfl, iQ10.below hb13⟩
                · exact ⟨_, rfl, iS10.below hb13⟩
                · exact ⟨_, rfl, iL10.below hb13⟩
                · exact ⟨_, rfl, iM10.below hb13⟩
                · exact ⟨_, rfl, IsP.nil _⟩
                · exact ⟨_, rfl, iN13⟩
                · exact ⟨_, rfl, iA13⟩
                · omega
              have hbx14 := Box.new w13 29 #[.slice aQ P.length cQ, .slice a8 (k + (P.length - (k + 1))) c8, .slice a9 (k + 1 + (P.length - k)) c9, .slice aM1 M1.length cM1, .slice none 0 0, .slice (some ⟨w10.heap.size, 0, none⟩) 1 1, .slice a13 (P.length + M2.length) c13]
              have hb14 := blo w13 (.cells #[.slice aQ P.length cQ, .slice a8 (k + (P.length - (k + 1))) c8, .slice a9 (k + 1 + (P.length - k)) c9, .slice aM1 M1.length cM1, .slice none 0 0, .slice (some ⟨w10.heap.size, 0, none⟩) 1 1, .slice a13 (P.length + M2.length) c13] 29)
              have hbw14 := (hbw10.trans (hb13.mono hbw10.size)).trans (hb14.mono (Nat.le_trans hbw10.size hb13.size))
              have hlt14 : w13.heap.size < (w13.alloc (.cells #[.slice aQ P.length cQ, .slice a8 (k + (P.length - (k + 1))) c8, .slice a9 (k + 1 + (P.length - k)) c9, .slice aM1 M1.length cM1, .slice none 0 0, .slice (some ⟨w10.heap.size, 0, none⟩) 1 1, .slice a13 (P.length + M2.length) c13] 29)).heap.size := by simp
              have hcell : ∀ i, i < 7 → ∃ v, (w13.alloc (.cells #[.slice aQ P.length cQ, .slice a8 (k + (P.length - (k + 1))) c8, .slice a9 (k + 1 + (P.length - k)) c9, .slice aM1 M1.length cM1, .slice none 0 0, .slice (some ⟨w10.heap.size, 0, none⟩) 1 1, .slice a13 (P.length + M2.length) c13] 29)).cell? ⟨w13.heap.size, i, none⟩ = some v ∧ IsP (w13.alloc (.cells #[.slice aQ P.length cQ, .slice a8 (k + (P.length - (k + 1))) c8, .slice a9 (k + 1 + (P.length - k)) c9, .slice aM1 M1.length cM1, .slice none 0 0, .slice (some ⟨w10.heap.size, 0, none⟩) 1 1, .slice a13 (P.length + M2.length) c13] 29)) v := fun i hi => by
                obtain ⟨v, h1, h2⟩ := hcells i hi
                exact ⟨v, hbx14.at_ h1, h2.below hb14⟩
              clear hcells hbx14 hb14 iA13 hRM iN13 ha11 hb13 hg13 ho13 iQ10 iS10 iL10 iM10 hpP10 hR10 hmt hb1012 hxN12 ho12 hb12 hoM2 hM2l hM2r hbw11 hxN11 hne11 hb1011 ho11 hbw10 hM
              generalize (w13.alloc (.cells #[.slice aQ P.length cQ, .slice a8 (k + (P.length - (k + 1))) c8, .slice a9 (k + 1 + (P.length - k)) c9, .slice aM1 M1.length cM1, .slice none 0 0, .slice (some ⟨w10.heap.size, 0, none⟩) 1 1, .slice a13 (P.length + M2.length) c13] 29)) = w14 at *
              generalize w13.heap.size = b14 at *
              go_loopg [28] 7 (fun g i' w' => ∃ i : Nat, i ≤ 7 ∧ g = 7 - i ∧ i' = .int .i64 (i : Int) ∧ Below w14.heap.size w14 w')
              case atStart => exact ⟨0, by omega, rfl, rfl, Below.refl _ _⟩
              case round =>
                obtain ⟨i, hi, hg, rfl, hbk⟩ := hrel
                have HG := hide hg
                clear hg
                by_cases hi7 : i < 7
                · have d1 : decide ((i : Int) < 7) = true := decide_eq_true (by omega)
                  obtain ⟨v, hcv, aV, nV, cV, hsV, pV, rfl, hpV, hlV, hrV⟩ := hcell i hi7
                  have HRV := hide hrV
                  have hcw : ∀ w', Below w14.heap.size w14 w' → w'.cell? ⟨b14, i, none⟩ = some (.slice aV nV cV) := fun w' h => (h.cell (p := ⟨b14, i, none⟩) hlt14).trans hcv
                  have hpr := hpV.below hbk
                  have hcr := hcw _ hbk
                  have htr := tab_Read pV hsV aV nV cV wr hpr (by omega) (fun r hr => by have := HRV.out r hr; omega)
                  clear hrV hcv hpV
                  go_wp2_with fail
                  refine htr.mono ?_
                  rintro e w15 ⟨Z1, x1, aZ1, cZ1, hsZ1, rfl, hZ1, hpZ1, hb15⟩
                  have hbk15 := hbk.trans (hb15.mono hbk.size)
                  have hcr2 := hcw w15 hbk15
                  have hrr := ref15_Read pV hsV aV nV cV w15 (hpr.below hb15) (by omega) (fun r hr => by have := HRV.out r hr; omega)
                  clear htr hcr hcw hpr hb15 hbk
                  go_wp2_with fail
                  refine hrr.mono ?_
                  rintro e w16 ⟨Z2, x2, aZ2, cZ2, hsZ2, rfl, hZ2, hpZ2, hb16⟩
                  obtain ⟨rfl, rfl⟩ := hZ1.uniq hZ2
                  have hsm := ref15_Same Z1 Z1 hsZ1 hsZ2 aZ1 aZ2 Z1.length Z1.length cZ1 cZ2 w16 (hpZ1.below hb16) hpZ2
                  rw [decide_eq_true rfl] at hsm
                  have hbk16 := hbk15.trans (hb16.mono hbk15.size)
                  clear hrr hcr2 hZ1 hZ2 hpZ1 hpZ2 hb16 hbk15
                  go_wp2_with fail
                  refine hsm.mono ?_
                  rintro e w17 ⟨rfl, hb17⟩
                  have hbk17 := hbk16.trans (hb17.mono hbk16.size)
                  clear hsm hb17 hbk16
                  go_wp2_with fail
                  go_roundg (7 - (i + 1))
                  case measure => have := HG.out; omega
                  case rel => exact ⟨i + 1, by omega, rfl, by go_num, hbk17⟩
                · obtain rfl : 7 = i := by omega
                  go_wp2_with fail
                  refine (law15_lives wr).mono ?_
                  rintro e w18 ⟨rfl, hb18⟩
                  go_wp2_with fail
                  go_ret
                  have hbz := hbw14.trans (hbk.mono hbw14.size)
                  exact ⟨rfl, hbz.trans (hb18.mono hbz.size)⟩
end Go.Proofs.Ytmjkhmebpciopaa
end
