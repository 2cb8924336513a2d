/- The contracts of the functions that the law reaches, joined into one text. -/
import Derived.Test.YthfljnlankmoiaaBaseC22B
import Derived.Shelf.Strings.Builder1
import Derived.Test.YthfljnlankmoiaaProg
import Derived.Lib.Strings

/- the text C20 -/
section
namespace Go.Proofs.Ythfljnlankmoiaa
open Go.RowKit Go.Dx

set_option maxRecDepth 100000 in
set_option maxHeartbeats 1000000 in
theorem ref_Unpack_bad (p : List (List UInt8)) (hs : List Hd) (a : Option Addr) (n c : Nat) (w : World) (hp : Pg w a n c hs p) (hv : p.any (fun l => !validB l) = true) :
    Calls Try.prog 28 #[.slice a n c] w fun e w' => e = .returned (.tuple #[RV 0 0 none 0 0, .int .i64 1]) ∧ Below w.heap.size w w' := by
  obtain rfl := hp.n_eq
  have hm1 := Nat.le_trans hp.top.le hp.top.cap
  unfold maxLen at hm1
  have HV := hide hv
  clear hv
  go_enter Try.func28, Try.ntmps28
  go_wp2_with fail
  go_loopg [4, 5] p.length (fun g x i w' => ∃ (k m : Nat), k ≤ p.length ∧ g = p.length - k ∧ (p.take k).any (fun l => !validB l) = false ∧ x = .int .i64 m ∧ i = .int .i64 k ∧ w' = w.alloc (.cells #[.int .i64 0, .int .i64 0, .slice none 0 0] 36))
  case atStart => exact ⟨0, 0, by omega, by omega, rfl, rfl, rfl, rfl⟩
  case round =>
    obtain ⟨k, m, hk, hg, hm, rfl, rfl, rfl⟩ := hrel
    have HG := hide hg
    have HM := hide hm
    clear hg hm
    by_cases hkl : k < p.length
    · obtain ⟨r, hr⟩ : ∃ r, p[k]? = some r := ⟨p[k], by simp [hkl]⟩
      obtain ⟨a1, c1, hu, hsr⟩ := (hp.below (bl1 w (.cells #[.int .i64 0, .int .i64 0, .slice none 0 0] 36))).get hr
      have HU := hide hu
      have hrl := Nat.le_trans hsr.le hsr.cap
      unfold maxLen at hrl
      have hval := ref_Valid r a1 _ c1 _ hsr
      have HR := hide hr
      clear hu hr
      cases hvr : validB r
      · rw [hvr] at hval
        clear hvr
        go_wp2_with (first
          | (with_reducible refine idx_p 17 _ _ _ _ _ hs rfl (hp.below (bl1 w _)).top _ _ k rfl rfl _ HU.out ?_; intro b o hcell hbo)
          | (with_reducible refine idx_p 25 _ _ _ _ _ hs rfl (hp.below (bl1 w _)).top _ _ k rfl rfl _ HU.out ?_; intro b9 o9 hcell9 hbo9)
          | (go_at_call 18; refine hval.mono ?_; rintro e w2 ⟨rfl, rfl⟩)
          | (with_reducible refine store_all 36 _ _ 36 _ _ [.int .i64 0, .int .i64 0, .slice none 0 0] _ (size_raster _ _ _) (zero_box w) rfl rfl rfl (Eq.refl 3) (by simp [Value.oneCell']) ?_; intro w7 hx7 hg7 hs7))
        exact bodyPost_ret (run_results_cell2 rfl rfl rfl isAgg_raster (size_raster _ _ _) hx7) rfl ⟨rfl, (bl1 w _).grown hg7 (by simp) (fun k hk => by cases hk; exact Nat.le_refl _)⟩
      · rw [hvr] at hval
        have HN := hide (bad_take HR.out HM.out hvr)
        clear hvr
        by_cases hmr : m < r.length
        · go_wp2_with (first
            | (with_reducible refine idx_p 17 _ _ _ _ _ hs rfl (hp.below (bl1 w _)).top _ _ k rfl rfl _ HU.out ?_; intro b o hcell hbo)
            | (with_reducible refine idx_p 25 _ _ _ _ _ hs rfl (hp.below (bl1 w _)).top _ _ k rfl rfl _ HU.out ?_; intro b9 o9 hcell9 hbo9)
            | (go_at_call 18; refine hval.mono ?_; rintro e w2 ⟨rfl, rfl⟩))
          go_roundg (p.length - (k + 1))
          case measure => have := HG.out; omega
          case rel => exact ⟨k + 1, r.length, by omega, rfl, HN.out, by go_num, by go_num, rfl⟩
        · go_wp2_with (first
            | (with_reducible refine idx_p 17 _ _ _ _ _ hs rfl (hp.below (bl1 w _)).top _ _ k rfl rfl _ HU.out ?_; intro b o hcell hbo)
            | (with_reducible refine idx_p 25 _ _ _ _ _ hs rfl (hp.below (bl1 w _)).top _ _ k rfl rfl _ HU.out ?_; intro b9 o9 hcell9 hbo9)
            | (go_at_call 18; refine hval.mono ?_; rintro e w2 ⟨rfl, rfl⟩))
          go_roundg (p.length - (k + 1))
          case measure => have := HG.out; omega
          case rel => exact ⟨k + 1, m, by omega, rfl, HN.out, by go_num, by go_num, rfl⟩
    · exfalso
      have h1 := HM.out
      rw [List.take_of_length_le (by omega), HV.out] at h1
      cases h1

set_option maxRecDepth 100000 in
set_option maxHeartbeats 1000000 in
theorem ref_Unpack_limit (p : List (List UInt8)) (hs : List Hd) (a : Option Addr) (n c : Nat) (w : World) (hp : Pg w a n c hs p) (hv : p.any (fun l => !validB l) = false) (hbig : wideL p ≤ 1000000) (hbig2 : p.length ≤ 1000000) (h1 : 65536 < 2 * wideL p ∨ 65536 < 3 * p.length ∨ 65536 < 2 * wideL p * (3 * p.length)) :
    Calls Try.prog 28 #[.slice a n c] w fun e w' => e = .returned (.tuple #[RV 0 0 none 0 0, .int .i64 4]) ∧ Below w.heap.size w w' := by
  obtain rfl := hp.n_eq
  have hm1 := Nat.le_trans hp.top.le hp.top.cap
  unfold maxLen at hm1
  obtain ⟨wd, Hwd⟩ : ∃ wd, Hid (wideL p = wd) := ⟨_, hide rfl⟩
  obtain ⟨W, HW⟩ : ∃ W, Hid (2 * wd = W) := ⟨_, hide rfl⟩
  obtain ⟨H, HH⟩ : ∃ H, Hid (3 * p.length = H) := ⟨_, hide rfl⟩
  obtain ⟨N, HN⟩ : ∃ N, Hid (W * H = N) := ⟨_, hide rfl⟩
  rw [Hwd.out, HW.out, HH.out, HN.out] at h1
  rw [Hwd.out] at hbig
  have HV := hide hv
  have H1 := hide h1
  clear hv h1
  go_enter Try.func28, Try.ntmps28
  go_wp2_with fail
  go_loopg [4, 5] p.length (fun g x i w' => ∃ (k m : Nat), k ≤ p.length ∧ g = p.length - k ∧ m = wideL (p.take k) ∧ x = .int .i64 m ∧ i = .int .i64 k ∧ w' = w.alloc (.cells #[.int .i64 0, .int .i64 0, .slice none 0 0] 36))
  case atStart => exact ⟨0, 0, by omega, by omega, rfl, rfl, rfl, rfl⟩
  case round =>
    obtain ⟨k, m, hk, hg, hm, rfl, rfl, rfl⟩ := hrel
    have HG := hide hg
    have HM := hide hm
    have hml : m ≤ 1000000 := by rw [hm]; have := wide_take_le p k; rw [Hwd.out] at this; omega
    clear hg hm
    by_cases hkl : k < p.length
    · obtain ⟨r, hr⟩ : ∃ r, p[k]? = some r := ⟨p[k], by simp [hkl]⟩
      obtain ⟨a1, c1, hu, hsr⟩ := (hp.below (bl1 w (.cells #[.int .i64 0, .int .i64 0, .slice none 0 0] 36))).get hr
      have HU := hide hu
      have hrl := Nat.le_trans hsr.le hsr.cap
      unfold maxLen at hrl
      have hval := ref_Valid r a1 _ c1 _ hsr
      have hvr : validB r = true := by
        have := List.any_eq_false.1 HV.out r (List.mem_of_getElem? hr)
        simpa using this
      rw [hvr] at hval
      have HM2 := hide (wide_next hr)
      clear hu hr hvr
      by_cases hmr : m < r.length
      · go_wp2_with (first
          | (with_reducible refine idx_p 17 _ _ _ _ _ hs rfl (hp.below (bl1 w _)).top _ _ k rfl rfl _ HU.out ?_; intro b o hcell hbo)
          | (with_reducible refine idx_p 25 _ _ _ _ _ hs rfl (hp.below (bl1 w _)).top _ _ k rfl rfl _ HU.out ?_; intro b9 o9 hcell9 hbo9)
          | (go_at_call 18; refine hval.mono ?_; rintro e w2 ⟨rfl, rfl⟩))
        go_roundg (p.length - (k + 1))
        case measure => have := HG.out; omega
        case rel => exact ⟨k + 1, r.length, by omega, rfl, by rw [HM2.out, ← HM.out]; omega, by go_num, by go_num, rfl⟩
      · go_wp2_with (first
          | (with_reducible refine idx_p 17 _ _ _ _ _ hs rfl (hp.below (bl1 w _)).top _ _ k rfl rfl _ HU.out ?_; intro b o hcell hbo)
          | (with_reducible refine idx_p 25 _ _ _ _ _ hs rfl (hp.below (bl1 w _)).top _ _ k rfl rfl _ HU.out ?_; intro b9 o9 hcell9 hbo9)
          | (go_at_call 18; refine hval.mono ?_; rintro e w2 ⟨rfl, rfl⟩))
        go_roundg (p.length - (k + 1))
        case measure => have := HG.out; omega
        case rel => exact ⟨k + 1, m, by omega, rfl, by rw [HM2.out, ← HM.out]; omega, by go_num, by go_num, rfl⟩
    · obtain rfl : k = p.length := by omega
      have hmw : m = wd := by rw [HM.out, List.take_length, Hwd.out]
      clear HM
      subst hmw
      have hWle : W ≤ 2000000 := by have := HW.out; omega
      have hHle : H ≤ 3000000 := by have := HH.out; omega
      have hsp : decide (65536 < (W : Int)) = true ∨ (decide (65536 < (W : Int)) = false ∧ decide (65536 < (H : Int)) = true) ∨ (decide (65536 < (W : Int)) = false ∧ decide (65536 < (H : Int)) = false ∧ decide (65536 < (N : Int)) = true ∧ wrap64 ((W : Int) * (H : Int)) = (N : Int)) := by
        have h0 := H1.out
        by_cases e1 : 65536 < W
        · exact .inl (decide_eq_true (by omega))
        · by_cases e2 : 65536 < H
          · exact .inr (.inl ⟨decide_eq_false (by omega), decide_eq_true (by omega)⟩)
          · refine .inr (.inr ⟨decide_eq_false (by omega), decide_eq_false (by omega), decide_eq_true (by omega), ?_⟩)
            have hN : N ≤ 65536 * 65536 := by rw [← HN.out]; exact Nat.mul_le_mul (by omega) (by omega)
            rw [← Int.natCast_mul, HN.out]; exact IntWalk.wrap64_in _ (by omega)
      have mW : 2 * (m : Int) = (W : Int) := by have := HW.out; omega
      have mH : 3 * (p.length : Int) = (H : Int) := by have := HH.out; omega
      rcases hsp with d1 | ⟨d1, d2⟩ | ⟨d1, d2, d3, mN⟩
      all_goals
        go_wp2_with (with_reducible refine store_all 36 _ _ 36 _ _ [.int .i64 0, .int .i64 0, .slice none 0 0] _ (size_raster _ _ _) ((zero_box w).alloc _) rfl rfl rfl (Eq.refl 3) (by simp [Value.oneCell']) ?_; intro w7 hx7 hg7 hs7)
        exact bodyPost_ret (run_results_cell2 rfl rfl rfl isAgg_raster (size_raster _ _ _) hx7) rfl ⟨rfl, (bl2 w _ _).grown hg7 (by simp; omega) (fun k hk => by cases hk; exact Nat.le_refl _)⟩
end Go.Proofs.Ythfljnlankmoiaa
end

/- the text C21 -/
section
namespace Go.Proofs.Ythfljnlankmoiaa
open Go.RowKit Go.Dx

/-- Pack: the page and the error -/
def packR (W H : Int) (b : List Bool) : List (List UInt8) × Int := if properB W H b.length then (packL W.toNat H.toNat b, 0) else ([], 1)
theorem packR_no {W H : Int} {b : List Bool} (h : properB W H b.length = false) : packR W H b = ([], 1) := by unfold packR; rw [if_neg (by simp [h])]
theorem packR_yes {W H : Int} {b : List Bool} (h : properB W H b.length = true) : packR W H b = (packL W.toNat H.toNat b, 0) := by unfold packR; rw [if_pos h]
theorem proper_get {W H n : Int} (h : properB W H n = true) : 0 ≤ W ∧ 0 ≤ H ∧ W ≤ 65536 ∧ H ≤ 65536 ∧ W * H ≤ 65536 ∧ n = W * H := of_decide_eq_true h
theorem pg_nil (w : World) : Pg w none 0 0 [] [] := ⟨Sl.empty w 1, rfl, fun i h r h1 => by cases h1⟩

theorem cell_Pack_all (W H : Int) (b : List Bool) (a : Option Addr) (n c : Nat) (w : World) (hs : Sl w 1 a n c (b.map Value.bool)) :
    Calls Try.prog 22 #[RV W H a n c] w (GivesPg (packR W H b).1 (packR W H b).2 w) := by
  have hn := hs.n_eq
  cases hp : properB W H b.length
  · rw [packR_no hp]
    rw [← hn] at hp
    exact (cell_Pack_no W H a n c w hp).mono fun e w' ⟨h1, h2⟩ => ⟨none, 0, [], h1, pg_nil _, h2⟩
  · rw [packR_yes hp]
    obtain ⟨h1, h2, h3, h4, h5, h6⟩ := proper_get hp
    have e1 : W = ((W.toNat : Nat) : Int) := by omega
    have e2 : H = ((H.toNat : Nat) : Int) := by omega
    have h7 := cell_Pack W.toNat H.toNat b a n c w hs (by rw [e1, e2, ← Int.natCast_mul] at h6; omega) (by omega) (by omega) (by rw [e1, e2, ← Int.natCast_mul] at h5; omega)
    rw [← e1, ← e2] at h7
    exact h7
theorem ref_Pack_all (W H : Int) (b : List Bool) (a : Option Addr) (n c : Nat) (w : World) (hs : Sl w 1 a n c (b.map Value.bool)) :
    Calls Try.prog 23 #[RV W H a n c] w (GivesPg (packR W H b).1 (packR W H b).2 w) := by
  have hn := hs.n_eq
  cases hp : properB W H b.length
  · rw [packR_no hp]
    rw [← hn] at hp
    exact (ref_Pack_no W H a n c w hp).mono fun e w' ⟨h1, h2⟩ => ⟨none, 0, [], h1, pg_nil _, h2⟩
  · rw [packR_yes hp]
    obtain ⟨h1, h2, h3, h4, h5, h6⟩ := proper_get hp
    have e1 : W = ((W.toNat : Nat) : Int) := by omega
    have e2 : H = ((H.toNat : Nat) : Int) := by omega
    have h7 := ref_Pack W.toNat H.toNat b a n c w hs (by rw [e1, e2, ← Int.natCast_mul] at h6; omega) (by omega) (by omega) (by rw [e1, e2, ← Int.natCast_mul] at h5; omega)
    rw [← e1, ← e2] at h7
    exact h7

/-- What a call hands back that returns a raster and an error. -/
def GivesR (u : Nat × Nat × List Bool × Int) (w : World) (r : Ending) (w' : World) : Prop :=
  ∃ a n c, r = .returned (.tuple #[RV u.1 u.2.1 a n c, .int .i64 u.2.2.2]) ∧ Sl w' 1 a n c (u.2.2.1.map Value.bool) ∧ Below w.heap.size w w'
theorem unpackL_bad {p : List (List UInt8)} (h : p.any (fun l => !validB l) = true) : unpackL p = (0, 0, [], 1) := by unfold unpackL; rw [if_pos h]
theorem unpackL_limit {p : List (List UInt8)} (h : p.any (fun l => !validB l) = false) (h2 : 65536 < 2 * wideL p ∨ 65536 < 3 * p.length ∨ 65536 < 2 * wideL p * (3 * p.length)) : unpackL p = (0, 0, [], 4) := by
  unfold unpackL; rw [if_neg (by simp [h]), if_pos h2]
theorem unpackL_yes {p : List (List UInt8)} (h : p.any (fun l => !validB l) = false) (h2 : ¬ (65536 < 2 * wideL p ∨ 65536 < 3 * p.length ∨ 65536 < 2 * wideL p * (3 * p.length))) :
    unpackL p = (2 * wideL p, 3 * p.length, rbits p (2 * wideL p) (2 * wideL p * (3 * p.length)), 0) := by
  unfold unpackL; rw [if_neg (by simp [h]), if_neg h2]
theorem cell_Unpack (p : List (List UInt8)) (hs : List Hd) (a : Option Addr) (n c : Nat) (w : World) (hp : Pg w a n c hs p) (hbig : wideL p ≤ 1000000) (hbig2 : p.length ≤ 1000000) :
    Calls Try.prog 27 #[.slice a n c] w (GivesR (unpackL p) w) := by
  cases hv : p.any (fun l => !validB l)
  · by_cases hl : 65536 < 2 * wideL p ∨ 65536 < 3 * p.length ∨ 65536 < 2 * wideL p * (3 * p.length)
    · rw [unpackL_limit hv hl]
      exact (cell_Unpack_limit p hs a n c w hp hv hbig hbig2 hl).mono fun e w' ⟨h1, h2⟩ => ⟨none, 0, 0, h1, Sl.empty _ _, h2⟩
    · rw [unpackL_yes hv hl]
      refine cell_Unpack_yes p hs a n c w hp hv ?_ ?_ ?_ <;> omega
  · rw [unpackL_bad hv]
    exact (cell_Unpack_bad p hs a n c w hp hv).mono fun e w' ⟨h1, h2⟩ => ⟨none, 0, 0, h1, Sl.empty _ _, h2⟩
theorem ref_Unpack (p : List (List UInt8)) (hs : List Hd) (a : Option Addr) (n c : Nat) (w : World) (hp : Pg w a n c hs p) (hbig : wideL p ≤ 1000000) (hbig2 : p.length ≤ 1000000) :
    Calls Try.prog 28 #[.slice a n c] w (GivesR (unpackL p) w) := by
  cases hv : p.any (fun l => !validB l)
  · by_cases hl : 65536 < 2 * wideL p ∨ 65536 < 3 * p.length ∨ 65536 < 2 * wideL p * (3 * p.length)
    · rw [unpackL_limit hv hl]
      exact (ref_Unpack_limit p hs a n c w hp hv hbig hbig2 hl).mono fun e w' ⟨h1, h2⟩ => ⟨none, 0, 0, h1, Sl.empty _ _, h2⟩
    · rw [unpackL_yes hv hl]
      refine ref_Unpack_yes p hs a n c w hp hv ?_ ?_ ?_ <;> omega
  · rw [unpackL_bad hv]
    exact (ref_Unpack_bad p hs a n c w hp hv).mono fun e w' ⟨h1, h2⟩ => ⟨none, 0, 0, h1, Sl.empty _ _, h2⟩
end Go.Proofs.Ythfljnlankmoiaa
end

/- the text CP2 -/
section
/- Plain laws on the written form of cells: no program in sight. -/
namespace Go.Proofs.Ythfljnlankmoiaa
open Go.RowKit Go.Dx

/-- a cell's character; a character's cell -/
def chr (c : UInt8) : UInt8 := UInt8.ofNat (c.toNat + 32)
def unchr (c : UInt8) : UInt8 := UInt8.ofNat (c.toNat - 32)
def textL (l : List UInt8) : List UInt8 := if validB l = true then l.map chr else []
def noChr (c : UInt8) : Bool := decide (c.toNat < 32) || decide (96 ≤ c.toNat)
/-- Parse: the cells, and the error -/
def parseL (l : List UInt8) : List UInt8 × Int := if l.any noChr then ([], 2) else (l.map unchr, 0)
theorem textL_yes {l : List UInt8} (h : validB l = true) : textL l = l.map chr := by unfold textL; rw [if_pos h]
theorem textL_no {l : List UInt8} (h : validB l = false) : textL l = [] := by unfold textL; rw [if_neg (by simp [h])]
theorem parseL_no {l : List UInt8} (h : l.any noChr = true) : parseL l = ([], 2) := by unfold parseL; rw [if_pos h]
theorem parseL_yes {l : List UInt8} (h : l.any noChr = false) : parseL l = (l.map unchr, 0) := by unfold parseL; rw [if_neg (by simp [h])]
theorem chr_nat {c : UInt8} (h : noCell c = false) : (chr c).toNat = c.toNat + 32 := by
  unfold noCell at h; unfold chr
  have : ¬ 64 ≤ c.toNat := by simpa using h
  rw [UInt8.toNat_ofNat']; omega
theorem unchr_nat {c : UInt8} (h : noChr c = false) : (unchr c).toNat = c.toNat - 32 ∧ 32 ≤ c.toNat ∧ c.toNat < 96 := by
  unfold noChr at h; unfold unchr
  simp at h
  rw [UInt8.toNat_ofNat']; omega
theorem valid_get {l : List UInt8} (h : validB l = true) {i : Nat} {c : UInt8} (hc : l[i]? = some c) : noCell c = false := by
  unfold validB at h
  have h' : l.any noCell = false := by simpa using h
  have := List.any_eq_false.1 h' c (List.mem_of_getElem? hc)
  simpa using this
theorem chr_ok {c : UInt8} (h : noCell c = false) : noChr (chr c) = false ∧ unchr (chr c) = c := by
  have h1 := chr_nat h
  have h2 : ¬ 64 ≤ c.toNat := by unfold noCell at h; simpa using h
  have h3 : noChr (chr c) = false := by unfold noChr; rw [h1]; simp; omega
  refine ⟨h3, ?_⟩
  apply UInt8.toNat_inj.1
  rw [(unchr_nat h3).1, h1]; omega
theorem unchr_ok {c : UInt8} (h : noChr c = false) : noCell (unchr c) = false ∧ chr (unchr c) = c := by
  obtain ⟨h1, h2, h3⟩ := unchr_nat h
  have h4 : noCell (unchr c) = false := by unfold noCell; rw [h1]; simp; omega
  refine ⟨h4, ?_⟩
  apply UInt8.toNat_inj.1
  rw [chr_nat h4, h1]; omega
theorem parse_text {l : List UInt8} (h : validB l = true) : parseL (textL l) = (l, 0) := by
  rw [textL_yes h]
  have hv : ∀ c ∈ l, noCell c = false := by
    intro c hc
    obtain ⟨i, hi⟩ := List.getElem?_of_mem hc
    exact valid_get h hi
  have h1 : (l.map chr).any noChr = false := by
    rw [List.any_map]
    apply List.any_eq_false.2
    intro c hc
    simp [(chr_ok (hv c hc)).1]
  rw [parseL_yes h1, List.map_map]
  congr 1
  refine (List.map_congr_left (g := id) ?_).trans (List.map_id l)
  intro c hc
  exact (chr_ok (hv c hc)).2
theorem text_parse {l : List UInt8} (h : (parseL l).2 = 0) : textL (parseL l).1 = l := by
  cases hc : l.any noChr
  · rw [parseL_yes hc]
    have hv : ∀ c ∈ l, noChr c = false := by intro c hm; simpa using List.any_eq_false.1 hc c hm
    have h1 : validB (l.map unchr) = true := by
      unfold validB
      rw [List.any_map]
      have : l.any (noCell ∘ unchr) = false := by
        apply List.any_eq_false.2
        intro c hm
        simp [(unchr_ok (hv c hm)).1]
      rw [this]; rfl
    rw [textL_yes h1, List.map_map]
    refine (List.map_congr_left (g := id) ?_).trans (List.map_id l)
    intro c hm
    exact (unchr_ok (hv c hm)).2
  · rw [parseL_no hc] at h; simp at h
theorem text_parses (l : List UInt8) : (parseL (textL l)).2 = 0 := by
  cases h : validB l
  · rw [textL_no h]; rfl
  · rw [parse_text h]
end Go.Proofs.Ythfljnlankmoiaa
end

/- the text C11 -/
section
namespace Go.Proofs.Ythfljnlankmoiaa
open Go.RowKit Go.Dx

/-- What a call hands back that returns a slice of its own and an error. -/
def Gives2 (t : TypeId) (sz n : Nat) (cs : List Value) (x : Int) (w : World) (r : Ending) (w' : World) : Prop :=
  ∃ a c, r = .returned (.tuple #[.slice a n c, .int .i64 x]) ∧ Own w' w.heap.size t sz a n c cs ∧ Below w.heap.size w w'

theorem str_get {s : ByteArray} {k : Nat} (h : k < s.size) : s.data.toList[k]? = some s[k] := by
  rw [List.getElem?_eq_getElem (by rw [Array.length_toList]; exact h)]
  rfl
theorem str_len (s : ByteArray) : s.data.toList.length = s.size := by rw [Array.length_toList]; rfl
theorem lo_ok {c : UInt8} (h : noChr c = false) : decide ((c.toNat : Int) < 32) = false ∧ decide (96 ≤ (c.toNat : Int)) = false ∧ decide (95 < (c.toNat : Int)) = false ∧ (c.toNat : Int) - 32 = ((unchr c).toNat : Int) ∧ 32 ≤ (c.toNat : Int) ∧ (c.toNat : Int) < 96 := by
  obtain ⟨h1, h2, h3⟩ := unchr_nat h
  rw [h1]
  exact ⟨by simp; omega, by simp; omega, by simp; omega, by omega, by omega, by omega⟩
theorem lo_bad {c : UInt8} (h : noChr c = true) : decide ((c.toNat : Int) < 32) = true ∨ (decide ((c.toNat : Int) < 32) = false ∧ decide (96 ≤ (c.toNat : Int)) = true ∧ decide (95 < (c.toNat : Int)) = true) := by
  unfold noChr at h
  simp at h
  by_cases h1 : c.toNat < 32
  · left; simp; omega
  · right; refine ⟨by simp; omega, by simp; omega, by simp; omega⟩
theorem unchr_snoc (l : List UInt8) (c : UInt8) : (l ++ [c]).map unchr = l.map unchr ++ [unchr c] := by rw [List.map_append]; rfl

set_option maxHeartbeats 400000 in
theorem ref_Parse (s : ByteArray) (hsz : s.size ≤ 1000000) (w : World) :
    Calls Try.prog 32 #[.string s] w (Gives2 5 1 (parseL s.data.toList).1.length ((parseL s.data.toList).1.map B8) (parseL s.data.toList).2 w) := by
  obtain ⟨P, HP⟩ : ∃ P, Hid (parseL s.data.toList = P) := ⟨_, rfl⟩
  rw [HP.out]
  go_enter Try.func32, Try.ntmps32
  go_wp2_with fail
  go_loopg [4, 5] s.size (fun g x i w' => ∃ (k : Nat) (a : Option Addr) (c : Nat) (xs : List UInt8), k ≤ s.size ∧ g = s.size - k ∧ xs.length = k ∧ xs = (s.data.toList.take k).map unchr ∧ (s.data.toList.take k).any noChr = false ∧ i = .int .i64 k ∧ x = .slice a xs.length c ∧ Own w' w.heap.size 5 1 a xs.length c (xs.map B8) ∧ Below w.heap.size w w')
  case atStart => exact ⟨0, none, 0, [], by omega, by omega, rfl, rfl, rfl, rfl, rfl, Own.nil _ _ _ _, Below.refl _ _⟩
  case round =>
    obtain ⟨k, a2, c2, xs, hk, hg, hxl, hxs, hno, rfl, rfl, hown, hb⟩ := hrel
    have HG := hide hg
    have HX := hide hxs
    have HXL := hide hxl
    have HN := hide hno
    have hle : xs.length ≤ 1000000 := by omega
    clear hg hxs hxl hno
    by_cases hkl : k < s.size
    · have HS := hide (str_get hkl)
      cases hp : noChr s[k]
      · obtain ⟨h1, h2, h3, h4, h5, h6⟩ := lo_ok hp
        have H4 := hide h4
        have HN2 := hide (any_take_no HS.out HN.out hp)
        clear h4 hp
        go_wp2_with (at_builtin; refine app_b rfl _ _ rfl w w.heap.size _ _ _ _ rfl hown _ rfl (by omega) hb.size hb ?_; intro a' c' w' ho' hgr' hb')
        go_roundg (s.size - (k + 1))
        case measure => have := HG.out; omega
        case rel => exact ⟨k + 1, a', c', xs ++ [unchr s[k]], by omega, rfl, by rw [List.length_append, HXL.out]; rfl, by rw [take_snoc HS.out, unchr_snoc, ← HX.out], HN2.out, by go_num, by rw [List.length_append]; rfl, by rw [List.length_append, List.map_append]; rw [H4.out] at ho'; exact ho', hb'⟩
      · have HE : Hid (P = ([], 2)) := by show _ = _; rw [← HP.out]; exact parseL_no (any_of_get HS.out hp)
        have hq := lo_bad hp
        clear hp
        rcases hq with h1 | ⟨h1, h2, h3⟩
        · go_wp2_with fail
          go_ret2
          rw [HE.out]
          exact ⟨none, 0, rfl, Own.nil _ _ _ _, hb⟩
        · go_wp2_with fail
          go_ret2
          rw [HE.out]
          exact ⟨none, 0, rfl, Own.nil _ _ _ _, hb⟩
    · obtain rfl : k = s.size := by omega
      have HE : Hid (P = (xs, 0)) := by
        show _ = _
        have h1 := HN.out
        have h2 := HX.out
        rw [List.take_of_length_le (by rw [str_len]; exact Nat.le_refl _)] at h1 h2
        rw [← HP.out, parseL_yes h1, ← h2]
      go_wp2
      go_ret2
      rw [HE.out]
      exact ⟨a2, c2, rfl, hown, hb⟩
set_option maxHeartbeats 400000 in
theorem cell_Parse (s : ByteArray) (hsz : s.size ≤ 1000000) (w : World) :
    Calls Try.prog 31 #[.string s] w (Gives2 5 1 (parseL s.data.toList).1.length ((parseL s.data.toList).1.map B8) (parseL s.data.toList).2 w) := by
  obtain ⟨P, HP⟩ : ∃ P, Hid (parseL s.data.toList = P) := ⟨_, rfl⟩
  rw [HP.out]
  go_enter Try.func31, Try.ntmps31
  go_wp2_with fail
  go_loopg [4, 8] s.size (fun g x i w' => ∃ (k : Nat) (a : Option Addr) (c : Nat) (xs : List UInt8), k ≤ s.size ∧ g = s.size - k ∧ xs.length = k ∧ xs = (s.data.toList.take k).map unchr ∧ (s.data.toList.take k).any noChr = false ∧ i = .int .i64 k ∧ x = .slice a xs.length c ∧ Own w' w.heap.size 5 1 a xs.length c (xs.map B8) ∧ Below w.heap.size w w')
  case atStart => exact ⟨0, none, 0, [], by omega, by omega, rfl, rfl, rfl, rfl, rfl, Own.nil _ _ _ _, Below.refl _ _⟩
  case round =>
    obtain ⟨k, a2, c2, xs, hk, hg, hxl, hxs, hno, rfl, rfl, hown, hb⟩ := hrel
    have HG := hide hg
    have HX := hide hxs
    have HXL := hide hxl
    have HN := hide hno
    have hle : xs.length ≤ 1000000 := by omega
    clear hg hxs hxl hno
    by_cases hkl : k < s.size
    · have HS := hide (str_get hkl)
      cases hp : noChr s[k]
      · obtain ⟨h1, h2, h3, h4, h5, h6⟩ := lo_ok hp
        have H4 := hide h4
        have HN2 := hide (any_take_no HS.out HN.out hp)
        clear h4 hp
        go_wp2_with (at_builtin; refine app_b rfl _ _ rfl w w.heap.size _ _ _ _ rfl hown _ rfl (by omega) hb.size hb ?_; intro a' c' w' ho' hgr' hb')
        go_roundg (s.size - (k + 1))
        case measure => have := HG.out; omega
        case rel => exact ⟨k + 1, a', c', xs ++ [unchr s[k]], by omega, rfl, by rw [List.length_append, HXL.out]; rfl, by rw [take_snoc HS.out, unchr_snoc, ← HX.out], HN2.out, by go_num, by rw [List.length_append]; rfl, by rw [List.length_append, List.map_append]; rw [H4.out] at ho'; exact ho', hb'⟩
      · have HE : Hid (P = ([], 2)) := by show _ = _; rw [← HP.out]; exact parseL_no (any_of_get HS.out hp)
        have hq := lo_bad hp
        clear hp
        rcases hq with h1 | ⟨h1, h2, h3⟩
        · go_wp2_with fail
          go_ret2
          rw [HE.out]
          exact ⟨none, 0, rfl, Own.nil _ _ _ _, hb⟩
        · go_wp2_with fail
          go_ret2
          rw [HE.out]
          exact ⟨none, 0, rfl, Own.nil _ _ _ _, hb⟩
    · obtain rfl : k = s.size := by omega
      have HE : Hid (P = (xs, 0)) := by
        show _ = _
        have h1 := HN.out
        have h2 := HX.out
        rw [List.take_of_length_le (by rw [str_len]; exact Nat.le_refl _)] at h1 h2
        rw [← HP.out, parseL_yes h1, ← h2]
      go_wp2
      go_ret2
      rw [HE.out]
      exact ⟨a2, c2, rfl, hown, hb⟩

theorem chr_raw {c : UInt8} (h : noCell c = false) : (c.toNat : Int) + 32 = ((chr c).toNat : Int) ∧ 0 ≤ (c.toNat : Int) ∧ (c.toNat : Int) < 64 := by
  rw [chr_nat h]
  have : ¬ 64 ≤ c.toNat := by unfold noCell at h; simpa using h
  exact ⟨by omega, by omega, by omega⟩
theorem chr_snoc (l : List UInt8) (c : UInt8) : (l ++ [c]).map chr = l.map chr ++ [chr c] := by rw [List.map_append]; rfl
set_option maxHeartbeats 400000 in
theorem ref_Text (l : List UInt8) (hl : l.length ≤ 1000000) (a : Option Addr) (n c : Nat) (w : World) (hs : Sl w 1 a n c (l.map B8)) :
    Calls Try.prog 35 #[.slice a n c] w fun e w' => e = .returned (.string ⟨(textL l).toArray⟩) ∧ Below w.heap.size w w' := by
  obtain rfl := hs.n_eq
  have hv := ref_Valid l a _ c w hs
  cases hd : validB l
  · rw [hd] at hv
    rw [textL_no hd]
    clear hd
    go_enter Try.func35, Try.ntmps35
    go_wp2_with (go_at_call 18; refine hv.mono ?_; rintro e w2 ⟨rfl, rfl⟩)
    go_ret
    exact ⟨rfl, Below.refl _ _⟩
  · rw [hd] at hv
    have HE := hide (textL_yes hd)
    have HD := hide hd
    clear hd
    obtain ⟨T, HT⟩ : ∃ T, Hid (textL l = T) := ⟨_, rfl⟩
    rw [HT.out]
    go_enter Try.func35, Try.ntmps35
    go_wp2_with (go_at_call 18; refine hv.mono ?_; rintro e w2 ⟨rfl, rfl⟩)
    go_loopg [3, 4] l.length (fun g x i w' => ∃ (k : Nat) (a : Option Addr) (c : Nat) (xs : List UInt8), k ≤ l.length ∧ g = l.length - k ∧ xs.length = k ∧ xs = (l.take k).map chr ∧ i = .int .i64 k ∧ x = .slice a xs.length c ∧ Own w' w.heap.size 5 1 a xs.length c (xs.map B8) ∧ Below w.heap.size w w')
    case atStart => exact ⟨0, none, 0, [], by omega, by omega, rfl, rfl, rfl, rfl, Own.nil _ _ _ _, Below.refl _ _⟩
    case round =>
      obtain ⟨k, a2, c2, xs, hk, hg, hxl, hxs, rfl, rfl, hown, hb⟩ := hrel
      have HG := hide hg
      have HX := hide hxs
      have HXL := hide hxl
      have hle : xs.length ≤ 1000000 := by omega
      clear hg hxs hxl
      by_cases hkl : k < l.length
      · obtain ⟨x, hx⟩ : ∃ x, l[k]? = some x := ⟨l[k], by simp [hkl]⟩
        obtain ⟨h4, h5, h6⟩ := chr_raw (valid_get HD.out hx)
        have HH := hide hx
        have H4 := hide h4
        clear h4 hx
        go_wp2_with (first
          | (with_reducible refine idx_b 17 _ _ _ _ _ l rfl (hs.below hb) _ _ k rfl rfl x HH.out ?_; intro b o hcell hbo)
          | (at_builtin; refine app_b rfl _ _ rfl w w.heap.size _ _ _ _ rfl hown _ rfl (by omega) hb.size hb ?_; intro a' c' w' ho' hgr' hb'))
        go_roundg (l.length - (k + 1))
        case measure => have := HG.out; omega
        case rel => exact ⟨k + 1, a', c', xs ++ [chr x], by omega, rfl, by rw [List.length_append, HXL.out]; rfl, by rw [take_snoc HH.out, chr_snoc, ← HX.out], by go_num, by rw [List.length_append]; rfl, by rw [List.length_append, List.map_append]; rw [H4.out] at ho'; exact ho', hb'⟩
      · obtain rfl : k = l.length := by omega
        have HF : Hid (T = xs) := by show _ = _; rw [← HT.out, HE.out, HX.out, List.take_length]
        go_wp2_with (with_reducible refine to_str 23 _ _ _ _ xs rfl hown.sl ?_)
        go_ret
        rw [HF.out]
        exact ⟨rfl, hb⟩
end Go.Proofs.Ythfljnlankmoiaa
end

/- the text Shelf -/
section
/-
  DERIVED: THE SHELF's CONTRACTS AT THIS DUMP, IN PLAIN WORDS (tools/lay-plain.mjs out of 'TryShelf.lean', which tools/lay-shelf.mjs wrote): THE SAME DECLARATIONS UNDER THE SAME NAMES: 'import', 'namespace', 'open', 'def', 'theorem' AND NOTHING ELSE: no command of the shelf's: FOR A HAND-IN. Each laying: the table of numbers ('.._ren') and one theorem, a field a fact of the dump's own or the kernel's comparison; each contract: ONE APPLICATION.
-/
namespace Go.Proofs
open Go.Shelf
def Try.lays169_ren : Go.Shelf.Ren := ⟨fun | 169 => 61 | n => n, fun | 70 => 81 | 9 => 9 | 0 => 0 | 72 => 83 | 37 => 23 | 127 => 97 | 3 => 3 | 5 => 5 | n => n, fun | n => n⟩
theorem Try.lays169 : Go.Proofs.Lays.n169 Try.prog Try.lays169_ren := {
  mixed := by kernel_rfl
  f169 := Try.func61.trans (congrArg some (by kernel_rfl))
  t0 := Try.underlying0
  a0 := Try.isAgg0
  z0 := Try.sizeOf0
  v0 := Try.zeroValue0
  t3 := Try.underlying3
  a3 := Try.isAgg3
  z3 := Try.sizeOf3
  v3 := Try.zeroValue3
  t9 := Try.underlying9
  a9 := Try.isAgg9
  z9 := Try.sizeOf9
  v9 := Try.zeroValue9
  t37 := Try.underlying23
  a37 := Try.isAgg23
  z37 := Try.sizeOf23
  v37 := Try.zeroValue23
  t70 := Try.underlying81
  a70 := Try.isAgg81
  z70 := Try.sizeOf81
  v70 := Try.zeroValue81
  t72 := Try.underlying83
  a72 := Try.isAgg83
  z72 := Try.sizeOf83
  v72 := Try.zeroValue83
  t127 := Try.underlying97
  a127 := Try.isAgg97
  z127 := Try.sizeOf97
  v127 := Try.zeroValue97 }
theorem Try.Builder_Extra_169 : Builder.Extra Try.prog Try.lays169_ren := {
  sizeBuilder := by kernel_rfl
  liesBuilder := by kernel_rfl
  t5 := Try.underlying5
  a5 := Try.isAgg5
  z5 := Try.sizeOf5
  v5 := Try.zeroValue5
  infoByte := by kernel_rfl
  cellsByte := by kernel_rfl
  sizeByte := by kernel_rfl
  neB5 := by decide }
open Go.RowKit in
/-- (*strings.Builder).String: "String returns the accumulated string.": OF A BUILDER THAT HOLDS AT LEAST ONE BYTE. ✋ THE MODEL FREEZES THOSE BYTES IN THE BUFFER (unsafe.String): a later write INTO them ends the model's run without an answer; a later append BEHIND them goes on. The statement's order of evaluation is drawn: one draw. (LAID: no walk: one application.) -/
theorem Try.Builder_String (B b : Nat) (l : List UInt8) (w : World) (h : Lib.IsBuilder 83 5 B b (Lib.byteCells l) w) (h0 : l ≠ []) :
    Calls Try.prog 61 #[.pointer (some ⟨b, 0, none⟩)] w fun e w' => e = .returned (.string ⟨l.toArray⟩) ∧ Below B w w' := Any.Builder_String Try.lays169 Try.Builder_Extra_169 B b l w h h0
open Go.RowKit in
/-- (*strings.Builder).String OF A BUILDER THAT HOLDS NO BYTE: the empty string. (Its buffer is nil, or a row of which it has taken nothing yet; where that row has NO capacity the model lays one new block for unsafe.SliceData's 'some address'.) One draw. (LAID: no walk: one application.) -/
theorem Try.Builder_String_empty (B b : Nat) (w : World) (h : Lib.IsBuilder 83 5 B b [] w) (hBw : B ≤ w.heap.size) :
    Calls Try.prog 61 #[.pointer (some ⟨b, 0, none⟩)] w fun e w' => e = .returned (.string ⟨#[]⟩) ∧ Below B w w' := Any.Builder_String_empty Try.lays169 Try.Builder_Extra_169 B b w h hBw
open Go.RowKit in
/-- (*strings.Builder).String: "String returns the accumulated string.": WHATEVER THE BUILDER HOLDS. (LAID: no walk: one application.) -/
theorem Try.Builder_String_any (B b : Nat) (l : List UInt8) (w : World) (h : Lib.IsBuilder 83 5 B b (Lib.byteCells l) w) (hBw : B ≤ w.heap.size) :
    Calls Try.prog 61 #[.pointer (some ⟨b, 0, none⟩)] w fun e w' => e = .returned (.string ⟨l.toArray⟩) ∧ Below B w w' := Any.Builder_String_any Try.lays169 Try.Builder_Extra_169 B b l w h hBw
end Go.Proofs
end

/- the text CB1 -/
section
/- strings.Builder at this program: copyCheck and WriteByte, walked here (the shelf's laying of these two does not fit this dump); String is laid by the shelf. -/
namespace Go.Proofs.Ythfljnlankmoiaa
open Go.RowKit Go.Dx

theorem sb_size : (Try.prog.info? 83).map (·.size) = some 2 := by kernel_rfl
theorem sb_lies : liesAt Try.prog Try.prog.depth 83 (2 / Try.prog.cellsOf 83) 0 83 1 = true := by kernel_rfl

set_option maxHeartbeats 1000000 in
set_option maxRecDepth 100000 in
theorem sb_check_used (b : Nat) (w : World) (h0 : w.cell? ⟨b, 0, none⟩ = some (.pointer (some ⟨b, 0, none⟩))) :
    Calls Try.prog 73 #[.pointer (some ⟨b, 0, none⟩)] w fun e w' => e = .returned (.tuple #[]) ∧ w' = w := by
  obtain ⟨j, hj, _⟩ := Option.map_eq_some_iff.1 sb_size
  go_enter Try.func73, Try.ntmps73
  go_wp2
  rw [Lib.run_neq_ptr_same w _ Try.underlying81 hj]
  go_wp2
  go_end0
  exact ⟨rfl, rfl⟩

set_option maxHeartbeats 1000000 in
set_option maxRecDepth 100000 in
theorem sb_check_fresh (b : Nat) (w : World) (h0 : w.cell? ⟨b, 0, none⟩ = some (.pointer none)) (hsh : w.shape? b = some (83, 2)) (hfz : w.frozen? ⟨b, 0, none⟩ = false) :
    Calls Try.prog 73 #[.pointer (some ⟨b, 0, none⟩)] w fun e w' => e = .returned (.tuple #[]) ∧ w' = w.setCell ⟨b, 0, none⟩ (.pointer (some ⟨b, 0, none⟩)) := by
  obtain ⟨j, hj, hjs⟩ := Option.map_eq_some_iff.1 sb_size
  go_enter Try.func73, Try.ntmps73
  go_wp2
  rw [Lib.run_to_unsafe w ⟨b, 0, none⟩ Try.underlying81 Try.underlying104 hj (by rw [hjs]; decide) hsh (Nat.zero_lt_succ 1)]
  simp only [Result.andThen]
  rw [Oper.upon_value]
  go_wp2
  rw [run_callFunc_extern Try.func79 (by kernel_rfl) (by kernel_rfl) (by kernel_rfl) (e := Extern.AbiNoEscape.same) (by kernel_rfl)]
  rw [Lib.run_noEscape]
  simp only [Result.andThen]
  rw [Oper.upon_value]
  go_wp2
  rw [Lib.run_from_unsafe w ⟨b, 0, none⟩ Try.underlying104 Try.underlying81 hj hsh sb_lies]
  simp only [Result.andThen]
  rw [Oper.upon_value]
  go_wp2
  go_end0
  exact ⟨rfl, rfl⟩

theorem sb_check (B b : Nat) (bs : List Value) (w : World) (h : Lib.IsBuilder 83 5 B b bs w) :
    Calls Try.prog 73 #[.pointer (some ⟨b, 0, none⟩)] w fun e w' => e = .returned (.tuple #[]) ∧ (Lib.BuilderAt 83 5 B b (.pointer (some ⟨b, 0, none⟩)) bs w' ∧ Below B w w') := by
  rcases h with h | h
  · refine (sb_check_fresh b w h.cell0 h.shape h.frozen0).mono ?_
    rintro e w' ⟨rfl, rfl⟩
    exact ⟨rfl, h.used _, (Below.refl B w).setCell (p := ⟨b, 0, none⟩) h.1 _⟩
  · refine (sb_check_used b w h.cell0).mono ?_
    rintro e w' ⟨rfl, rfl⟩
    exact ⟨rfl, h, Below.refl B w'⟩

set_option maxHeartbeats 2000000 in
set_option maxRecDepth 100000 in
theorem sb_WriteByte (B b : Nat) (bs : List Value) (c : Int) (w : World) (h : Lib.IsBuilder 83 5 B b bs w) (hlen : bs.length + 1 ≤ 140737488355328) (hBw : B ≤ w.heap.size) :
    Calls Try.prog 60 #[.pointer (some ⟨b, 0, none⟩), .int .u8 c] w fun e w' => e = .returned .nilIface ∧ (Lib.BuilderAt 83 5 B b (.pointer (some ⟨b, 0, none⟩)) (bs ++ [.int .u8 c]) w' ∧ Below B w w') := by
  obtain ⟨i0, hi, hz0, hz1, hz2⟩ := info_parts info_u8
  go_enter Try.func60, Try.ntmps60
  go_wp2_with (go_at_call 73; refine (sb_check B b bs _ h).mono ?_)
  rintro e w1 ⟨rfl, h1, hb1⟩
  obtain ⟨hB, v, hbk, hown, hne⟩ := h1
  have c0 : w1.cell? ⟨b, 0, none⟩ = some (.pointer (some ⟨b, 0, none⟩)) := by rw [Lib.cell_of_heap hbk]; rfl
  have c1 : w1.cell? ⟨b, 1, none⟩ = some v := by rw [Lib.cell_of_heap hbk]; rfl
  go_wp2_with (at_builtin; refine wpList_append_own _ rfl _ _ 23 rfl B 5 i0 (.int .u8 0) 1 1 Try.underlying23 hi hz0 hz1 hz2 rfl (by decide) _ _ _ rfl (hown.alloc _) ⟨w1.heap.size, 0, none⟩ 1 1 [.int .u8 c] rfl rfl ?c1 ?c2 ?c3 ?c4 ?c5 ?_)
  case c1 =>
    intro j u hj
    match j, hj with
    | 0, hj => simp at hj; subst hj; simp [Addr.add]
  case c2 => intro u hu; simp at hu; subst hu; rfl
  case c3 => unfold maxLen; omega
  case c4 => omega
  case c5 => have := hb1.size; simp; omega
  intro v' w2 hown' hgrow _
  have hlt : b < w1.heap.size := by
    rcases Nat.lt_or_ge b w1.heap.size with h' | h'
    · exact h'
    · simp [Array.getElem?_eq_none h'] at hbk
  have hb2 : w2.heap[b]? = some (.cells #[.pointer (some ⟨b, 0, none⟩), v] 83 (0, 0)) := by
    rw [hgrow.block b (by simp; omega) (fun e => hne e.symm), Lib.alloc_old w1 _ b hlt]
    exact hbk
  have d0 : w2.cell? ⟨b, 0, none⟩ = some (.pointer (some ⟨b, 0, none⟩)) := by rw [Lib.cell_of_heap hb2]; rfl
  have d1 : w2.cell? ⟨b, 1, none⟩ = some v := by rw [Lib.cell_of_heap hb2]; rfl
  have f1 : w2.frozen? ⟨b, 1, none⟩ = false := Lib.frozen_of_heap hb2 1
  obtain ⟨g, cap, rfl⟩ : ∃ g cap, v' = .slice (some ⟨g, 0, none⟩) (bs.length + 1) cap := by
    rcases hown'.2 with ⟨_, h0⟩ | ⟨g, cap, cur, hv, _⟩
    · omega
    · exact ⟨g, cap, hv⟩
  go_wp2
  go_ret
  refine ⟨rfl, ?_, ?_⟩
  · exact Lib.BuilderAt.put (T := 83) (e := 5) hB hb2 (bs' := bs ++ [.int .u8 c]) (by simpa using hown') (by decide)
  · exact ((hb1.alloc (by have := hb1.size; omega) _).grown hgrow (by have := hb1.size; simp; omega) (fun k hk => (hown.lt k hk).1)).setCell (p := ⟨b, 1, none⟩) hB _
end Go.Proofs.Ythfljnlankmoiaa
end

/- the text C12 -/
section
namespace Go.Proofs.Ythfljnlankmoiaa
open Go.RowKit Go.Dx

theorem bytes_are (l : List UInt8) : Lib.byteCells l = l.map B8 := rfl
theorem chr_raw' {c : UInt8} (h : noCell c = false) : 32 + (c.toNat : Int) = ((chr c).toNat : Int) := by have := (chr_raw h).1; omega
set_option maxHeartbeats 1000000 in
theorem cell_Text (l : List UInt8) (hl : l.length ≤ 1000000) (a : Option Addr) (n c : Nat) (w : World) (hs : Sl w 1 a n c (l.map B8)) :
    Calls Try.prog 33 #[.slice a n c] w fun e w' => e = .returned (.string ⟨(textL l).toArray⟩) ∧ Below w.heap.size w w' := by
  obtain rfl := hs.n_eq
  have hv := cell_Valid l a _ c w hs
  cases hd : validB l
  · rw [hd] at hv
    rw [textL_no hd]
    clear hd
    go_enter Try.func33, Try.ntmps33
    go_wp2_with (go_at_call 16; refine hv.mono ?_; rintro e w2 ⟨rfl, rfl⟩)
    go_ret
    exact ⟨rfl, Below.refl _ _⟩
  · rw [hd] at hv
    have HE := hide (textL_yes hd)
    have HD := hide hd
    clear hd
    obtain ⟨T, HT⟩ : ∃ T, Hid (textL l = T) := ⟨_, rfl⟩
    rw [HT.out]
    have hf := Lib.fresh_isBuilder 83 5 w
    go_enter Try.func33, Try.ntmps33
    go_wp2_with (go_at_call 16; refine hv.mono ?_; rintro e w2 ⟨rfl, rfl⟩)
    go_loopg [11] l.length (fun g i w' => ∃ (k : Nat) (xs : List UInt8), k ≤ l.length ∧ g = l.length - k ∧ xs.length = k ∧ xs = (l.take k).map chr ∧ i = .int .i64 k ∧ Lib.IsBuilder 83 5 w.heap.size w.heap.size (xs.map B8) w' ∧ Below w.heap.size w w')
    case atStart => exact ⟨0, [], by omega, by omega, rfl, rfl, rfl, hf, (Below.refl _ _).alloc (Nat.le_refl _) _⟩
    case round =>
      obtain ⟨k, xs, hk, hg, hxl, hxs, rfl, hB, hb⟩ := hrel
      have HG := hide hg
      have HX := hide hxs
      have HXL := hide hxl
      have hle : xs.length ≤ 1000000 := by omega
      clear hg hxs hxl
      by_cases hkl : k < l.length
      · obtain ⟨x, hx⟩ : ∃ x, l[k]? = some x := ⟨l[k], by simp [hkl]⟩
        have h4 := chr_raw' (valid_get HD.out hx)
        have h5 := (chr_raw (valid_get HD.out hx)).2
        have HH := hide hx
        have H4 := hide h4
        have hm : (xs.map B8).length + 1 ≤ 140737488355328 := by rw [List.length_map]; omega
        clear h4 hx
        go_wp2_with (first
          | (with_reducible refine idx_b 13 _ _ _ _ _ l rfl (hs.below hb) _ _ k rfl rfl x HH.out ?_; intro b o hcell hbo)
          | (go_at_call 60; refine (sb_WriteByte w.heap.size w.heap.size _ _ _ hB hm hb.size).mono ?_; rintro e w2 ⟨rfl, hB2, hb2⟩))
        go_roundg (l.length - (k + 1))
        case measure => have := HG.out; omega
        case rel => exact ⟨k + 1, xs ++ [chr x], by omega, rfl, by rw [List.length_append, HXL.out]; rfl, by rw [take_snoc HH.out, chr_snoc, ← HX.out], by go_num, by rw [List.map_append]; rw [H4.out] at hB2; exact .inr hB2, hb.trans hb2⟩
      · obtain rfl : k = l.length := by omega
        have HF : Hid (T = xs) := by show _ = _; rw [← HT.out, HE.out, HX.out, List.take_length]
        go_wp2_with (go_at_call 61; refine (Try.Builder_String_any w.heap.size w.heap.size xs _ hB hb.size).mono ?_; rintro e w2 ⟨rfl, hb2⟩)
        go_ret
        rw [HF.out]
        exact ⟨rfl, hb.trans hb2⟩
end Go.Proofs.Ythfljnlankmoiaa
end

/- the text Box2 -/
section
/- More laws on blocks that are known whole: a copy from a string, whole loads in drawn regions. No program in sight. -/
set_option linter.unusedVariables false
set_option linter.unusedSimpArgs false
namespace Go.Dx
open Go.RowKit
section
variable {P : Program} {w : World} {ops : Array Oper} {rest : List Oper} {o : Oper} {act : Act} {Q : Exit → Act → World → Prop}
/-- 'copy(dst, s)' from a string, dst lying in a block that is known whole -/
theorem copy_str (hgd : o.guard = none) (d s : Operand) (dT sT : TypeId) (hop : o.op = .call { callee := .builtin .copy, args := #[d, s], argTypes := #[dT, sT] }) (elem : TypeId) (hu : P.underlying dT = some (.slice elem)) (hsz : (P.info? elem).map (·.size) = some 1)
    (g off dLen dCap : Nat) (t : TypeId) (old : List Value) (hb : Box w g t old) (hd : act.eval d = .slice (some ⟨g, off, none⟩) dLen dCap) (x : ByteArray) (hs : act.eval s = .string x) (k : Nat) (hk : k = min x.size dLen) (hfit : off + k ≤ old.length)
    (hK : ∀ w', Box w' g t (old.take off ++ (x.data.toList.take k).map B8 ++ old.drop (off + k)) → w.grownBy w' (some g) → w'.heap.size = w.heap.size → wpList P ops Q rest (act.put o.dst (.int .i64 (k : Int))) w') :
    wpList P ops Q (o :: rest) act w := by
  refine wpList_plain hgd fun K hK' => ?_
  have hxl : x.data.toList.length = x.size := Array.length_toList
  have hcl : ((x.data.toList.take k).map B8).length = k := by rw [List.length_map, List.length_take]; omega
  have hst := run_storeCells_at P g off t ((x.data.toList.take k).map B8) 0 old.toArray w hb (by rw [hcl]; simpa using hfit) (one_map _ (fun _ => rfl) _)
  rw [hcl] at hst
  simp only [Nat.add_zero, List.toList_toArray] at hst
  have hmin : Nat.min x.size dLen = k := hk.symm
  have hrun : (Builtin.copy_ #[dT, sT] o.type #[.slice (some ⟨g, off, none⟩) dLen dCap, .string x]).run P w = .ok (.int .i64 (k : Int)) (w.setRow g (old.take off ++ (x.data.toList.take k).map B8 ++ old.drop (off + k)).toArray) := by
    obtain ⟨i, hq, hi⟩ := Option.map_eq_some_iff.1 hsz
    simp [Builtin.copy_, run_underlying hu, Builtin.lenOf, Builtin.firstCells, sizeOf, typeInfo, hq, hmin]
    have e : List.take k (List.map (fun b : UInt8 => Value.int IntKind.u8 (b.toNat : Int)) x.data.toList) = (x.data.toList.take k).map B8 := by rw [List.map_take]
    rw [e, hst]
    simp [Result.andThen]
    rfl
  unfold Oper.wp
  simp [execOp, hop, resolve, invoke, builtin, hd, hs, hrun, Result.andThen]
  refine hK' _ _ (hK _ ?_ ⟨rfl, rfl, rfl, by simp [World.setRow], fun k _ hk => setRow_other w g k _ (fun e => hk (by rw [e]))⟩ (by simp [World.setRow]))
  have := setRow_heap w g old.toArray (old.take off ++ (x.data.toList.take k).map B8 ++ old.drop (off + k)).toArray t (0, 0) hb
  simpa [Box] using this
theorem run_cut_var {P : Program} {w : World} (t e : TypeId) (n : Nat) (ht : P.underlying t = some (.array n e)) (hsz : (P.info? e).map (·.size) = some 1) (g off l u : Nat) (lo hi : Option Value)
    (hl : lo = none ∧ l = 0 ∨ ∃ k, lo = some (.int k (l : Int))) (hu : hi = none ∧ u = n ∨ ∃ k, hi = some (.int k (u : Int))) (hlu : l ≤ u) (hun : u ≤ n) (hln : l < n) :
    (Instr.sliceAt t (.pointer (some ⟨g, off, none⟩)) lo hi none).run P w = .ok (.slice (some ⟨g, off + l, none⟩) (u - l) (n - l)) w := by
  obtain ⟨i0, hi0, hs0⟩ := Option.map_eq_some_iff.1 hsz
  have h2 : (0 : Int) ≤ l ∧ (l : Int) ≤ u := by omega
  have h3 : (0 : Int) ≤ u ∧ (u : Int) ≤ n := by omega
  have hne : ¬ n = l := by omega
  rcases hl with ⟨rfl, rfl⟩ | ⟨k1, rfl⟩ <;> rcases hu with ⟨rfl, rfl⟩ | ⟨k2, rfl⟩ <;>
    simp [Instr.sliceAt, Instr.sureAddr, Instr.sliceBounds, Instr.sliceBound, asIntOf, run_underlying ht, sizeOf, typeInfo, hi0, hs0, h2, h3, Addr.add_lit, hlu, hun, hne]
/-- 'arr[lo:hi]' of an array variable -/
theorem cut_var {ty : TypeId} {pos : String} {after : Array Edge} (d : Nat) (t e : TypeId) (n : Nat) (x : Operand) (lo hi : Option Operand) (ht : P.underlying t = some (.array n e)) (hsz : (P.info? e).map (·.size) = some 1)
    (g off : Nat) (hx : act.eval x = .pointer (some ⟨g, off, none⟩)) (l u : Nat)
    (hl : lo.map act.eval = none ∧ l = 0 ∨ ∃ k, lo.map act.eval = some (.int k (l : Int))) (hu : hi.map act.eval = none ∧ u = n ∨ ∃ k, hi.map act.eval = some (.int k (u : Int))) (hlu : l ≤ u) (hun : u ≤ n) (hln : l < n)
    (hK : wpList P ops Q rest (act.put (some d) (.slice (some ⟨g, off + l, none⟩) (u - l) (n - l))) w) :
    wpList P ops Q ({ dst := some d, op := .slice t x lo hi none, type := ty, pos := pos, after := after, guard := none } :: rest) act w := by
  refine wpList_plain rfl fun K hK' => ?_
  have hrun := run_cut_var (P := P) (w := w) t e n ht hsz g off l u (lo.map act.eval) (hi.map act.eval) hl hu hlu hun hln
  unfold Oper.wp
  simp only [execOp, Option.map_none, hx, Sem.run_bind, hrun, Result.andThen, Sem.run_pure]
  exact hK' _ _ hK
end
/-- the walk stops ahead of a copy -/
theorem hold_copy {P : Program} {w : World} {ops : Array Oper} {rest : List Oper} {act : Act} {Q : Exit → Act → World → Prop} {dst : Option Tmp} {ty : TypeId} {as_ : Array Operand} {ts : Array TypeId} {pos : String} {after : Array Edge} {g : Option (Nat × Bool)}
    (h : Hid (wpList P ops Q ({ dst := dst, op := .call { callee := .builtin .copy, args := as_, argTypes := ts }, type := ty, pos := pos, after := after, guard := g } :: rest) act w)) :
    wpList P ops Q ({ dst := dst, op := .call { callee := .builtin .copy, args := as_, argTypes := ts }, type := ty, pos := pos, after := after, guard := g } :: rest) act w := h
section quiet
variable {P : Program} {w : World} {ops : Array Oper} {rest : List Oper} {act : Act} {Q : Act → Prop} {C : World → Prop} {ty : TypeId} {pos : String} {after : Array Edge}
/-- an operation of a quiet walk whose value is known in every world of the class -/
theorem quiet_in {o : Oper} (v : Value) (hw : Region.wanted o (yielded ops act.tmps) = true) (h : ∀ w', C w' → (execOp act.eval o).run P w' = .ok (.value v) w') (hK : wpQuiet P ops C Q rest (act.put o.dst v)) : wpQuiet P ops C Q (o :: rest) act := by
  refine wpQuiet_step fun K hK' => ?_
  rw [if_pos hw]
  refine ⟨v, ?_, hK' _ hK⟩
  intro w' hC
  unfold Oper.quietAt
  rw [h w' hC]
  exact ⟨rfl, rfl⟩
/-- a call of a quiet walk -/
theorem quiet_call {o : Oper} (f : FuncId) (args : Array Value) (v : Value) (hw : Region.wanted o (yielded ops act.tmps) = true) (h : ∀ w', C w' → (execOp act.eval o).run P w' = .ok (.enter f args) w') (hc : ∀ w', C w' → Calls P f args w' (fun e w'' => e = .returned v ∧ C w''))
    (hK : wpQuiet P ops C Q rest (act.put o.dst v)) : wpQuiet P ops C Q (o :: rest) act := by
  refine wpQuiet_step fun K hK' => ?_
  rw [if_pos hw]
  refine ⟨v, ?_, hK' _ hK⟩
  intro w' hC
  unfold Oper.quietAt
  rw [h w' hC]
  exact ⟨rfl, hc w' hC⟩
/-- a whole array or struct is loaded -/
theorem quiet_load_box (d : Nat) (t : TypeId) (x : Operand) (e : TypeId) (g off : Nat) (old cs : List Value) (hag : IsAgg P t) (hsz : (P.info? t).map (·.size) = some cs.length) (hb : ∀ w', C w' → Box w' g e old) (hx : act.eval x = .pointer (some ⟨g, off, none⟩))
    (hc : ∀ j u, cs[j]? = some u → old[off + j]? = some u) (hK : wpQuiet P ops C Q rest (act.put (some d) (.agg cs.toArray))) :
    wpQuiet P ops C Q ({ dst := some d, op := .load t x, type := ty, pos := pos, after := after, guard := none } :: rest) act := by
  refine quiet_in _ (by simp [Region.wanted]) (fun w' hC => ?_) hK
  simp [execOp, hx, Instr.loadAt, Instr.sureAddr, run_loadVar_box hag hsz (hb w' hC) hc]
theorem quiet_cut_var (d : Nat) (t e : TypeId) (n : Nat) (x : Operand) (lo hi : Option Operand) (ht : P.underlying t = some (.array n e)) (hsz : (P.info? e).map (·.size) = some 1)
    (g off : Nat) (hx : act.eval x = .pointer (some ⟨g, off, none⟩)) (l u : Nat)
    (hl : lo.map act.eval = none ∧ l = 0 ∨ ∃ k, lo.map act.eval = some (.int k (l : Int))) (hu : hi.map act.eval = none ∧ u = n ∨ ∃ k, hi.map act.eval = some (.int k (u : Int))) (hlu : l ≤ u) (hun : u ≤ n) (hln : l < n)
    (hK : wpQuiet P ops C Q rest (act.put (some d) (.slice (some ⟨g, off + l, none⟩) (u - l) (n - l)))) :
    wpQuiet P ops C Q ({ dst := some d, op := .slice t x lo hi none, type := ty, pos := pos, after := after, guard := none } :: rest) act := by
  refine quiet_in _ (by simp [Region.wanted]) (fun w' hC => ?_) hK
  have hrun := run_cut_var (P := P) (w := w') t e n ht hsz g off l u (lo.map act.eval) (hi.map act.eval) hl hu hlu hun hln
  simp only [execOp, Option.map_none, hx, Sem.run_bind, hrun, Result.andThen, Sem.run_pure]
end quiet
theorem run_conv_str {P : Program} {w : World} {src dst e : TypeId} (hsr : P.underlying src = some (.slice e)) (he : P.underlying e = some (.int .u8)) (hd : P.underlying dst = some .string)
    {a : Option Addr} {n c : Nat} {l : List UInt8} (hs : Sl w 1 a n c (l.map B8)) : (convert src dst (.slice a n c)).run P w = .ok (.string ⟨l.toArray⟩) w := by
  obtain rfl := hs.n_eq
  cases a with
  | some p => exact run_convert_bytes_back w src dst e p c l hsr he hd (fun j hj => hs.cell p rfl j _ (by simp [hj]))
  | none =>
    have := hs.nil rfl
    have := hs.le
    have hl : l = [] := List.eq_nil_of_length_eq_zero (by omega)
    subst hl
    simp [convert, run_underlying hsr, run_underlying hd, run_underlying he, Conv.bytesToString]
    rfl
section quiet2
variable {P : Program} {w : World} {ops : Array Oper} {rest : List Oper} {act : Act} {Q : Act → Prop} {C : World → Prop} {ty : TypeId} {pos : String} {after : Array Edge}
theorem quiet_conv_str (d : Nat) (src dst : TypeId) (x : Operand) (e : TypeId) (hsr : P.underlying src = some (.slice e)) (he : P.underlying e = some (.int .u8)) (hd : P.underlying dst = some .string)
    (a : Option Addr) (n c : Nat) (l : List UInt8) (hx : act.eval x = .slice a n c) (hs : ∀ w', C w' → Sl w' 1 a n c (l.map B8))
    (hK : wpQuiet P ops C Q rest (act.put (some d) (.string ⟨l.toArray⟩))) :
    wpQuiet P ops C Q ({ dst := some d, op := .convert src dst x, type := ty, pos := pos, after := after, guard := none } :: rest) act := by
  refine quiet_in _ (by simp [Region.wanted]) (fun w' hC => ?_) hK
  simp [execOp, hx, run_conv_str hsr he hd (hs w' hC), Result.andThen]
end quiet2
section guarded
variable {P : Program} {w : World} {ops : Array Oper} {rest : List Oper} {act : Act} {Q : Exit → Act → World → Prop} {ty : TypeId} {pos : String} {after : Array Edge} {g : Option (Nat × Bool)}
theorem unguard_any {dst : Option Nat} {op : Op} (hw : Region.wanted { dst := dst, op := op, type := ty, pos := pos, after := after, guard := g } (yielded ops act.tmps) = true)
    (h : wpList P ops Q ({ dst := dst, op := op, type := ty, pos := pos, after := after, guard := none } :: rest) act w) :
    wpList P ops Q ({ dst := dst, op := op, type := ty, pos := pos, after := after, guard := g } :: rest) act w := by
  have h2 : Region.wanted { dst := dst, op := op, type := ty, pos := pos, after := after, guard := none } (yielded ops act.tmps) = true := rfl
  unfold wpList at h ⊢
  rw [if_pos h2] at h
  rw [if_pos hw]
  exact h
/-- a whole array or struct is loaded, guarded or not -/
theorem load_box_g (d : Nat) (t : TypeId) (x : Operand) (e : TypeId) (b off : Nat) (old cs : List Value) (hag : IsAgg P t) (hsz : (P.info? t).map (·.size) = some cs.length) (hb : Box w b e old) (hx : act.eval x = .pointer (some ⟨b, off, none⟩))
    (hc : ∀ j u, cs[j]? = some u → old[off + j]? = some u) (hw : Region.wanted { dst := some d, op := .load t x, type := ty, pos := pos, after := after, guard := g } (yielded ops act.tmps) = true)
    (hK : wpList P ops Q rest (act.put (some d) (.agg cs.toArray)) w) :
    wpList P ops Q ({ dst := some d, op := .load t x, type := ty, pos := pos, after := after, guard := g } :: rest) act w :=
  unguard_any hw (load_box d t x e b off old cs hag hsz hb hx hc hK)
/-- '==' of two arrays of bytes, guarded or not -/
theorem eql_bytes_g (d : Nat) (t : TypeId) (x y : Operand) (e n : Nat) (ht : P.underlying t = some (.array n e)) (he : P.underlying e = some (.int .u8)) (hsz : (P.info? e).map (·.size) = some 1) (hgt : P.eqGuardType P.depth t = false)
    (xs ys : List UInt8) (hx : act.eval x = .agg (xs.map B8).toArray) (hy : act.eval y = .agg (ys.map B8).toArray) (hxl : xs.length = n) (hyl : ys.length = n)
    (hw : Region.wanted { dst := some d, op := .binOp .eql t x y t, type := ty, pos := pos, after := after, guard := g } (yielded ops act.tmps) = true)
    (hK : wpList P ops Q rest (act.put (some d) (.bool (decide (xs = ys)))) w) :
    wpList P ops Q ({ dst := some d, op := .binOp .eql t x y t, type := ty, pos := pos, after := after, guard := g } :: rest) act w := by
  refine unguard_any hw (val_at rfl _ ?_ hK)
  have h1 := run_eqGuard_agg (P := P) (w := w) .eql t x y (xs.map B8).toArray (ys.map B8).toArray hgt
  have h2 := run_eql_arr (P := P) w t e n .u8 ht he hsz (xs.map fun d => (d.toNat : Int)) (ys.map fun d => (d.toNat : Int)) (by simpa using hxl) (by simpa using hyl)
  rw [← bytes_ints, ← bytes_ints] at h2
  have h3 : decide ((xs.map fun d => (d.toNat : Int)) = (ys.map fun d => (d.toNat : Int))) = decide (xs = ys) := decide_eq_decide.2 bytes_inj
  rw [h3] at h2
  simp only [execOp, hx, hy, Sem.run_bind, h1, h2, Result.andThen_ok, Sem.run_pure]
end guarded
/-- a string's bytes -/
theorem str_none {y : ByteArray} (h : y.size = 0) : y.toList.isEmpty = true := by
  rw [Lib.toList_data, List.isEmpty_iff, ← List.length_eq_zero_iff]; exact h
theorem str_some {y : ByteArray} (h : y.size ≠ 0) : y.toList.isEmpty = false := by
  rw [Lib.toList_data, Bool.eq_false_iff, ne_eq, List.isEmpty_iff, ← List.length_eq_zero_iff]; exact h
theorem ext_list (y : ByteArray) (k : Nat) : (y.extract k y.size).data.toList = y.data.toList.drop k := by
  rw [Lib.extract_data]
  apply List.take_of_length_le
  rw [List.length_drop]
  exact Nat.le_of_eq rfl
end Go.Dx
end

/- the text C22 -/
section
namespace Go.Proofs.Ythfljnlankmoiaa
open Go.RowKit Go.Dx

theorem lives_of : ofL [5, 1] = (17, 0) := by decide
theorem lives_pack : packR 3 1 [true, true, true] = ([[9, 1]], 0) := by decide +kernel
theorem lives_unpack : unpackL [[9, 1]] = (4, 3, [true, true, true, false, false, false, false, false, false, false, false, false], 0) := by decide +kernel
theorem lives_count : ((cN (List.flatten [[9, 0, 1]]) : Nat) : Int) = 2 ∧ ((cM (List.flatten [[9, 0, 1]]) : Nat) : Int) = 3 := by decide +kernel
theorem lives_dots : dotsL 25 = [1, 4, 5] := by decide +kernel
theorem lives_text : textL [0, 1, 63] = [32, 33, 95] := by decide +kernel
theorem lives_back : ((backC 1).toNat : Int) = 8 ∧ ((backC 14).toNat : Int) = 49 := by decide +kernel
theorem lit_v {w : World} {t : TypeId} {b : Nat} (hb : b = w.heap.size) {L : Array Value} (cs : List Value) (hL : L = cs.toArray) (n : Nat) (hn : cs.length = n) (hm : n ≤ maxLen) : Sl (w.alloc (.cells L t)) 1 (some ⟨b, 0, none⟩) n n cs := by
  subst hL hb; exact Sl.fresh w t 1 n cs (by omega) hm
/-- a page of one row, as a literal -/
theorem lit_pg {w : World} {t1 t2 : TypeId} {b b2 : Nat} (hb : b = w.heap.size) (hb2 : b2 = w.heap.size + 1) {L : Array Value} (r : List UInt8) (hL : L = (r.map B8).toArray) (n : Nat) (hn : r.length = n) (hm : n ≤ maxLen) :
    Pg ((w.alloc (.cells L t1)).alloc (.cells #[.slice (some ⟨b, 0, none⟩) n n] t2)) (some ⟨b2, 0, none⟩) 1 1 [(some ⟨b, 0, none⟩, n, n)] [r] := by
  subst hb hb2
  refine ⟨?_, rfl, ?_⟩
  · exact lit_v (w := w.alloc (.cells L t1)) (t := t2) (by simp) [.slice (some ⟨w.heap.size, 0, none⟩) n n] rfl 1 rfl (by unfold maxLen; omega)
  · intro i h s h1 h2
    cases i with
    | zero =>
      cases h1; cases h2
      exact (lit_v (w := w) (t := t1) rfl (r.map B8) hL n (by simp [hn]) hm).alloc _
    | succ i => cases h1
theorem Of_at {l : List Int} {r : Nat × Int} (h : ofL l = r) {a : Option Addr} {n c : Nat} {w : World} (hs : Sl w 1 a n c (l.map I64)) :
    Calls Try.prog 9 #[.slice a n c] w fun e w' => e = .returned (ROf r) ∧ w = w' := by subst h; exact cell_Of l a n c w hs
theorem Pack_at {W H : Int} {b : List Bool} {r : List (List UInt8) × Int} (h : packR W H b = r) {a : Option Addr} {n c : Nat} {w : World} (hs : Sl w 1 a n c (b.map Value.bool)) :
    Calls Try.prog 22 #[RV W H a n c] w (GivesPg r.1 r.2 w) := by subst h; exact cell_Pack_all W H b a n c w hs
theorem Unpack_at {p : List (List UInt8)} {r : Nat × Nat × List Bool × Int} (h : unpackL p = r) (h1 : wideL p ≤ 1000000) (h2 : p.length ≤ 1000000) {a : Option Addr} {n c : Nat} {hs : List Hd} {w : World} (hp : Pg w a n c hs p) :
    Calls Try.prog 27 #[.slice a n c] w (GivesR r w) := by subst h; exact cell_Unpack p hs a n c w hp h1 h2
theorem Count_at {p : List (List UInt8)} {N M : Int} (h1 : (cN p.flatten : Int) = N) (h2 : (cM p.flatten : Int) = M) (h3 : p.flatten.length ≤ 1000000) {a : Option Addr} {n c : Nat} {hs : List Hd} {w : World} (hp : Pg w a n c hs p) :
    Calls Try.prog 37 #[.slice a n c] w fun e w' => e = .returned (.tuple #[.int .i64 N, .int .i64 M]) ∧ Below w.heap.size w w' := by subst h1 h2; exact cell_Count p hs a n c w hp h3
theorem Back_at {u : UInt8} {v k : Int} (hv : (u.toNat : Int) = v) (h : ((backC u).toNat : Int) = k) {w : World} :
    Calls Try.prog 14 #[.int .u8 v] w fun e w' => e = .returned (.int .u8 k) ∧ w = w' := by subst hv h; exact cell_Back u w
theorem Dots_at {u : UInt8} {v : Int} {l : List Int} (hv : (u.toNat : Int) = v) (h : dotsL u = l) {w : World} :
    Calls Try.prog 12 #[.int .u8 v] w (Gives 3 1 l.length (l.map I64) w) := by subst hv h; exact cell_Dots u w
theorem Text_at {l r : List UInt8} (h : textL l = r) (hl : l.length ≤ 1000000) {a : Option Addr} {n c : Nat} {w : World} (hs : Sl w 1 a n c (l.map B8)) :
    Calls Try.prog 33 #[.slice a n c] w fun e w' => e = .returned (.string ⟨r.toArray⟩) ∧ Below w.heap.size w w' := by subst h; exact cell_Text l hl a n c w hs
theorem Equal_at {p q : List (List UInt8)} {v : Bool} (h : decide (p = q) = v) {h1 h2 : List Hd} {a1 a2 : Option Addr} {n1 n2 c1 c2 : Nat} {w : World} (hp : Pg w a1 n1 c1 h1 p) (hq : Pg w a2 n2 c2 h2 q) :
    Calls Try.prog 24 #[.slice a1 n1 c1, .slice a2 n2 c2] w fun e w' => e = .returned (.bool v) ∧ Below w.heap.size w w' := by
  subst h; exact (ref_Equal p q h1 h2 a1 a2 n1 n2 c1 c2 w hp hq).mono fun e w' ⟨h1, n, h2⟩ => ⟨h1, h2 ▸ Still.below n⟩
theorem SameRaster_at {W1 H1 W2 H2 : Int} {l1 l2 : List Bool} {v : Bool} (h : decide (W1 = W2 ∧ H1 = H2 ∧ l1 = l2) = v) {a1 a2 : Option Addr} {n1 n2 c1 c2 : Nat} {w : World} (h1 : Sl w 1 a1 n1 c1 (l1.map Value.bool)) (h2 : Sl w 1 a2 n2 c2 (l2.map Value.bool)) :
    Calls Try.prog 29 #[RV W1 H1 a1 n1 c1, RV W2 H2 a2 n2 c2] w fun e w' => e = .returned (.bool v) ∧ Below w.heap.size w w' := by
  subst h; exact ref_SameRaster W1 H1 W2 H2 l1 l2 a1 a2 n1 n2 c1 c2 w h1 h2

set_option maxRecDepth 100000 in
set_option maxHeartbeats 2000000 in
theorem law4_lives (w : World) : Calls Try.prog 19 #[] w fun e w' => e = .returned (.bool true) ∧ Below w.heap.size w w' := by
  go_enter Try.func19, Try.ntmps19
  have b0 : Below w.heap.size w w ∧ w.heap.size ≤ w.heap.size := ⟨Below.refl _ _, Nat.le_refl _⟩
  go_wp2_with fail
  refine (Of_at lives_of (lit_v (by simp) _ rfl 2 rfl (by decide))).mono ?_
  rintro e w1 ⟨rfl, rfl⟩
  go_wp2_with fail
  refine (Pack_at lives_pack (lit_v (by simp) _ rfl 3 rfl (by decide))).mono ?_
  rintro e w2 ⟨ap, cp, hp, rfl, hpp, hb⟩
  have b2 := bstep ⟨b0.1.alloc b0.2 _, by simp⟩ hb
  have c0 : Below w2.heap.size w2 w2 ∧ w2.heap.size ≤ w2.heap.size := ⟨Below.refl _ _, Nat.le_refl _⟩
  clear hb b0
  go_wp2_with fail
  refine (Unpack_at lives_unpack (by decide) (by decide) (lit_pg (by simp) (by simp) [9, 1] rfl 2 rfl (by decide))).mono ?_
  rintro e w3 ⟨ar, nr, cr, rfl, hrr, hb⟩
  have b3 := bstep ⟨b2.1.alloc b2.2 _, by simp; omega⟩ hb
  have c3 := bstep ⟨c0.1.alloc c0.2 _, by simp⟩ hb
  clear hb b2 c0
  go_wp2_with fail
  refine (Count_at (p := [[9, 0, 1]]) lives_count.1 lives_count.2 (by decide) (lit_pg (by simp) (by simp) [9, 0, 1] rfl 3 rfl (by decide))).mono ?_
  rintro e w4 ⟨rfl, hb⟩
  have b4 := bstep ⟨(b3.1.alloc b3.2 _).alloc (by simp; omega) _, by simp; omega⟩ hb
  have c4 := bstep ⟨(c3.1.alloc c3.2 _).alloc (by simp; omega) _, by simp; omega⟩ hb
  have x4 := (((Box.new w3 36 #[.int .i64 4, .int .i64 3, .slice ar nr cr]).alloc _).alloc _).under hb
  have r4 := (((hrr.alloc _).alloc _).alloc _).below hb
  clear hb b3 c3 hrr
  generalize w3.heap.size = R at *
  go_wp2_with fail
  refine (Back_at (u := 1) rfl lives_back.1).mono ?_
  rintro e w5 ⟨rfl, rfl⟩
  go_wp2_with fail
  refine (Back_at (u := 14) rfl lives_back.2).mono ?_
  rintro e w5 ⟨rfl, rfl⟩
  go_wp2_with (with_reducible refine make_row 63 _ _ _ 4 (.bool false) 1 Try.underlying34 info_bool rfl _ _ _ _ 12 rfl rfl rfl rfl (by omega) (by omega) ?_; intro w5 hrow5 hb5 hz5; have f0 := hrow5.cell (i := 0) (by decide); have f1 := hrow5.cell (i := 1) (by decide); have f2 := hrow5.cell (i := 2) (by decide); have z0 := hrow5.frozen 0; have z1 := hrow5.frozen 1; have z2 := hrow5.frozen 2; have hlt := hrow5.lt)
  have d6 : Below w4.heap.size w4 ((((w5.setCell ⟨w4.heap.size, 0, none⟩ (.bool true)).setCell ⟨w4.heap.size, 1, none⟩ (.bool true)).setCell ⟨w4.heap.size, 2, none⟩ (.bool true)).alloc (.cells #[.int .i64 4, .int .i64 3, .slice (some ⟨w4.heap.size, 0, none⟩) 12 12] 36)) :=
    (((hb5.setCell (p := ⟨w4.heap.size, 0, none⟩) (Nat.le_refl _) _).setCell (p := ⟨w4.heap.size, 1, none⟩) (Nat.le_refl _) _).setCell (p := ⟨w4.heap.size, 2, none⟩) (Nat.le_refl _) _).alloc (by rw [Deep.nblk_setCell, Deep.nblk_setCell, Deep.nblk_setCell]; omega) _
  have n6 : Sl ((((w5.setCell ⟨w4.heap.size, 0, none⟩ (.bool true)).setCell ⟨w4.heap.size, 1, none⟩ (.bool true)).setCell ⟨w4.heap.size, 2, none⟩ (.bool true)).alloc (.cells #[.int .i64 4, .int .i64 3, .slice (some ⟨w4.heap.size, 0, none⟩) 12 12] 36)) 1 (some ⟨w4.heap.size, 0, none⟩) 12 12 (List.map Value.bool [true, true, true, false, false, false, false, false, false, false, false, false]) := by
    refine row_sl' (((((hrow5.set 0 (.bool true)).set 1 (.bool true)).set 2 (.bool true)).alloc _).congr (g := fun i => .bool (decide (i < 3))) ?_) (by decide) _ rfl ?_
    · intro i _
      have h : i = 0 ∨ i = 1 ∨ i = 2 ∨ (¬ i = 0 ∧ ¬ i = 1 ∧ ¬ i = 2 ∧ ¬ i < 3) := by omega
      rcases h with rfl | rfl | rfl | ⟨h0, h1, h2, h3⟩
      · rfl
      · rfl
      · rfl
      · rw [if_neg h2, if_neg h1, if_neg h0, decide_eq_false h3]
    · intro j u hj
      rw [List.getElem?_map] at hj
      obtain ⟨x, hx, rfl⟩ := Option.map_eq_some_iff.1 hj
      have hj12 : j < 12 := by have := (List.getElem?_eq_some_iff.1 hx).1; simpa using this
      have hfin : ∀ j : Fin 12, [true, true, true, false, false, false, false, false, false, false, false, false][j.val]? = some (decide (j.val < 3)) := by decide
      rw [hfin ⟨j, hj12⟩] at hx
      cases hx; rfl
  have y6 : Box ((((w5.setCell ⟨w4.heap.size, 0, none⟩ (.bool true)).setCell ⟨w4.heap.size, 1, none⟩ (.bool true)).setCell ⟨w4.heap.size, 2, none⟩ (.bool true)).alloc (.cells #[.int .i64 4, .int .i64 3, .slice (some ⟨w4.heap.size, 0, none⟩) 12 12] 36)) (w4.heap.size + 1) 36 [.int .i64 4, .int .i64 3, .slice (some ⟨w4.heap.size, 0, none⟩) 12 12] := by
    have := Box.new (((w5.setCell ⟨w4.heap.size, 0, none⟩ (.bool true)).setCell ⟨w4.heap.size, 1, none⟩ (.bool true)).setCell ⟨w4.heap.size, 2, none⟩ (.bool true)) 36 #[.int .i64 4, .int .i64 3, .slice (some ⟨w4.heap.size, 0, none⟩) 12 12]
    rw [Deep.nblk_setCell, Deep.nblk_setCell, Deep.nblk_setCell, hz5] at this
    exact this
  clear hrow5 hb5 f0 f1 f2 z0 z1 z2 hlt
  generalize ((((w5.setCell ⟨w4.heap.size, 0, none⟩ (.bool true)).setCell ⟨w4.heap.size, 1, none⟩ (.bool true)).setCell ⟨w4.heap.size, 2, none⟩ (.bool true)).alloc (.cells #[.int .i64 4, .int .i64 3, .slice (some ⟨w4.heap.size, 0, none⟩) 12 12] 36)) = w6 at d6 n6 y6 ⊢
  clear hz5 w5
  have b6 := bs0 b4 d6
  have c6 := bs0 c4 d6
  have x6 := x4.under d6
  have r6 := r4.below d6
  have p6 := hpp.below c6.1
  have e6 : Below w6.heap.size w6 w6 ∧ w6.heap.size ≤ w6.heap.size := ⟨Below.refl _ _, Nat.le_refl _⟩
  clear b4 c4 x4 r4 hpp d6 c6
  generalize w4.heap.size = T at *
  refine (Dots_at (u := 25) rfl lives_dots).mono ?_
  rintro e w7 ⟨ad, cd, rfl, od, hb⟩
  have e7 := bs0 e6 hb
  clear hb e6
  go_wp2_with fail
  refine (SameInts_at (l1 := [1, 4, 5]) (l2 := [1, 4, 5]) (r := true) (by decide) (od.sl.alloc _) (lit_v (by first | rfl | simp) _ rfl 3 rfl (by decide))).mono ?_
  rintro e w8 ⟨rfl, hb⟩
  have e8 := bstep e7 hb
  clear hb e7 od
  go_wp2_with fail
  refine (Text_at lives_text (by decide) (lit_v (by first | rfl | simp) _ rfl 3 rfl (by decide))).mono ?_
  rintro e w9 ⟨rfl, hb⟩
  have e9 := bstep e8 hb
  clear hb e8
  go_wp2_with fail
  refine (Equal_at (p := [[9, 1]]) (q := [[9, 1]]) (v := true) (by decide) (((p6.below e9.1).below (bl1 w9 _)).below (bl1 _ _)) (lit_pg (by first | rfl | simp) (by first | rfl | simp) [9, 1] rfl 2 rfl (by decide))).mono ?_
  rintro e w10 ⟨rfl, hb⟩
  have e10 := bstep ⟨e9.1.alloc e9.2 _, by simp; omega⟩ hb
  clear hb e9
  have x10 := x6.under e10.1
  have y10 := y6.under e10.1
  go_wp2_with (first
    | (with_reducible refine load_box_g 89 36 _ 36 _ 0 _ [.int .i64 4, .int .i64 3, .slice ar nr cr] isAgg_raster (size_raster _ _ _) x10 rfl (fun j u hj => by rw [Nat.zero_add]; exact hj) rfl ?_)
    | (with_reducible refine load_box_g 90 36 _ 36 _ 0 _ [.int .i64 4, .int .i64 3, .slice (some ⟨T, 0, none⟩) 12 12] isAgg_raster (size_raster _ _ _) y10 rfl (fun j u hj => by rw [Nat.zero_add]; exact hj) rfl ?_))
  refine (SameRaster_at (v := true) (by decide) (r6.below e10.1) (n6.below e10.1)).mono ?_
  rintro e w11 ⟨rfl, hb⟩
  have e11 := bs0 e10 hb
  go_wp2_with fail
  go_ret
  exact ⟨rfl, b6.1.trans (e11.1.mono b6.2)⟩
end Go.Proofs.Ythfljnlankmoiaa
end
