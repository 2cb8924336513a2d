/- The contracts of the functions that the law reaches, joined into one text. -/
import Derived.Test.YtlpkicjijlcbfaaBaseWD
import Derived.Deep.CutBlock
set_option linter.unusedVariables false
set_option linter.unusedSimpArgs false

/- the text B34 -/
section
/- Chapter 06: the reference's Syms. -/
namespace Go.Dx
open Go.RowKit
theorem cF_d {m : Nat} (h : m / 12 = 12 ∨ m / 12 = 13) : (chars ⟨#[48, 49, 50, 51, 52, 53, 54, 55, 56, 57]⟩)[m % 10]? = some (charF m) := by
  unfold charF
  rw [if_pos h, show chars ⟨#[48, 49, 50, 51, 52, 53, 54, 55, 56, 57]⟩ = digS from rfl, List.getD_eq_getElem?_getD, List.getElem?_eq_getElem (show m % 10 < digS.length from Nat.mod_lt _ (by decide))]
  rfl
theorem cF_m {m : Nat} (h : m / 12 = 14) : (chars ⟨#[32, 46, 44, 63, 39, 45]⟩)[m % 6]? = some (charF m) := by
  unfold charF
  rw [if_neg (by omega), if_pos h, show chars ⟨#[32, 46, 44, 63, 39, 45]⟩ = marks6 from rfl, List.getD_eq_getElem?_getD, List.getElem?_eq_getElem (show m % 6 < marks6.length from Nat.mod_lt _ (by decide))]
  rfl
theorem cF_b {m : Nat} (h : m / 12 = 15 ∨ m / 12 = 16) : charF m = 32 := by
  unfold charF
  rw [if_neg (by omega), if_neg (by omega), if_pos h]
theorem theS_low : ∀ c ∈ theS, 97 ≤ c.toNat := by decide
theorem cF_c {m : Nat} (h : m / 12 = 17) {c : UInt8} (hc : theS[m % 19]? = some c) : (c.toNat : Int) - 32 = ((charF m).toNat : Int) ∧ 97 ≤ c.toNat := by
  have h97 := theS_low c (List.mem_of_getElem? hc)
  refine ⟨?_, h97⟩
  unfold charF
  rw [if_neg (by omega), if_neg (by omega), if_neg (by omega), if_pos h, List.getD_eq_getElem?_getD, hc]
  show _ = (((c - 32).toNat : Nat) : Int)
  rw [UInt8.toNat_sub_of_le _ _ (by rw [UInt8.le_iff_toNat_le]; show 32 ≤ c.toNat; omega)]
  show _ = ((c.toNat - 32 : Nat) : Int)
  omega
theorem cF_e {m : Nat} (h : m / 12 ≠ 12 ∧ m / 12 ≠ 13 ∧ m / 12 ≠ 14 ∧ m / 12 ≠ 15 ∧ m / 12 ≠ 16 ∧ m / 12 ≠ 17) {c : UInt8} (hc : theS[m % 19]? = some c) : charF m = c := by
  unfold charF
  rw [if_neg (by omega), if_neg (by omega), if_neg (by omega), if_neg (by omega), List.getD_eq_getElem?_getD, hc]
  rfl
theorem theS_get (m : Nat) : ∃ c, theS[m % 19]? = some c := ⟨_, List.getElem?_eq_getElem (show m % 19 < theS.length from Nat.mod_lt _ (by decide))⟩
/-- the word's first k characters behind the rest -/
def wordK (S : List Sy) (g : Nat) (w : List UInt8) (k : Nat) : List Sy := S ++ (w.take k).map fun c => ⟨(g : Int), c⟩
theorem wordK_zero (S : List Sy) (g : Nat) (w : List UInt8) : wordK S g w 0 = S := by unfold wordK; simp
theorem wordK_step {S : List Sy} {g : Nat} {w : List UInt8} {k : Nat} {c : UInt8} (hc : w[k]? = some c) : wordK S g w (k + 1) = wordK S g w k ++ [⟨(g : Int), c⟩] := by
  unfold wordK
  rw [take_succ_get hc, List.map_append, List.append_assoc]
  rfl
theorem wordK_out {S : List Sy} {g : Nat} {w : List UInt8} {k : Nat} (hS : S.length + k ≤ 24) (h : k = w.length ∨ S.length + k = 24) : wordK S g w k = outW S g w := by
  unfold wordK outW
  rcases h with h | h
  · rw [List.take_of_length_le (by omega), List.take_of_length_le (by omega)]
  · rw [show 24 - S.length = k by omega]
theorem wordK_len {S : List Sy} {g : Nat} {w : List UInt8} {k : Nat} (hk : k ≤ w.length) : (wordK S g w k).length = S.length + k := by
  unfold wordK
  rw [List.length_append, List.length_map, List.length_take]; omega
end Go.Dx
namespace Go.Proofs.Ytlpkicjijlcbfaa
open Go.RowKit Go.Dx
def symsL (l : List Int) : List Sy := symsS (fun x => aroundF x 240) l [] 0
theorem symsL_ok (l : List Int) : (∀ x ∈ symsL l, plainSy x = true) ∧ (symsL l).length ≤ 24 := symsS_ok (fun x => aroundF_lt (by decide)) l [] 0 (by decide) (by decide) (fun x h => by simp at h)
set_option maxRecDepth 100000 in
set_option maxHeartbeats 4000000 in
theorem ref_Syms (l : List Int) (hl64 : ∀ x ∈ l, -9223372036854775808 ≤ x ∧ x ≤ 9223372036854775807) (a : Option Addr) (n c : Nat) (w : World) (hs : Sl w 1 a n c (l.map I64)) :
    Calls Try.prog 10 #[.slice a n c] w fun e w' => ∃ a' c', e = .returned (.slice a' (symsL l).length c') ∧ Own w' w.heap.size 88 2 a' (symsL l).length c' ((symsL l).flatMap sc) ∧ Below w.heap.size w w' := by
  obtain ⟨R, HR⟩ : ∃ R, Hid (symsL l = R) := ⟨_, hide rfl⟩
  rw [HR.out]
  have hnl : l.length = n := by exact hs.n_eq.symm
  have hm1 := Nat.le_trans hs.le hs.cap
  unfold maxLen at hm1
  have HNL := hide hnl
  clear hnl
  have HL64 := hide hl64
  clear hl64
  go_enter Try.func10, Try.ntmps10
  go_wp2_with fail
  go_loopg [3, 4, 5] n (fun gh o g v w' => ∃ (i : Nat) (S : List Sy) (g0 : Nat) (ao : Option Addr) (co : Nat), i ≤ n ∧ gh = n - i ∧ o = .slice ao S.length co ∧ g = .int .i64 (g0 : Int) ∧ v = .int .i64 (i : Int) ∧ g0 ≤ 1 ∧ S.length ≤ 24 ∧ Hid (symsS (fun x => aroundF x 240) (l.drop i) S g0 = R) ∧ Own w' w.heap.size 88 2 ao S.length co (S.flatMap sc) ∧ Below w.heap.size w w')
  case atStart => exact ⟨0, [], 0, none, 0, by omega, by omega, rfl, rfl, rfl, by omega, by simp, hide HR.out, Own.nil _ _ _ _, Below.refl _ _⟩
  case round =>
    obtain ⟨i, S, g0, ao, co, hi, hgi, rfl, rfl, rfl, hg1, hS24, HD, hO, hb⟩ := hrel
    have HGI := hide hgi
    clear hgi
    by_cases hil : i < n
    · by_cases hSl : S.length < 24
      · obtain ⟨wo, rfl⟩ : ∃ wo : World, wo = wr := ⟨_, rfl⟩
        obtain ⟨x, hx⟩ : ∃ x, l[i]? = some x := ⟨_, List.getElem?_eq_getElem (show i < l.length by rw [HNL.out]; exact hil)⟩
        have hx64 := HL64.out x (List.mem_of_getElem? hx)
        have hA := fun w => ref_Around x 240 240 w rfl hx64.1 hx64.2 (by decide) (by decide)
        have hm240 : aroundF x 240 < 240 := aroundF_lt (by decide)
        have HDS := symsS_drop (f := fun x => aroundF x 240) hx hSl (g := g0)
        obtain ⟨m, HM⟩ : ∃ m, Hid (aroundF x 240 = m) := ⟨_, hide rfl⟩
        rw [HM.out] at hA hm240 HDS
        have HD2 : Hid (symsS (fun x => aroundF x 240) (l.drop (i + 1)) (stepS S g0 m) (langS g0 m) = R) := hide (by rw [← HDS]; exact HD.out)
        have HSL24 := hide (stepS_len (g := g0) (n := m) hSl)
        have HG1 := hide (langS_le (n := m) hg1)
        have HXI := hide hx
        have hsl := hs.below hb
        have d1 : decide (i < n) = true := decide_eq_true hil
        have d1' : decide ((i : Int) < (n : Int)) = true := decide_eq_true (by omega)
        have d2 : decide (S.length < 24) = true := decide_eq_true hSl
        have d2' : decide ((S.length : Int) < 24) = true := decide_eq_true (by omega)
        obtain ⟨q, hq⟩ : ∃ q, q = m / 12 := ⟨_, rfl⟩
        have hq1 : (m : Int) / 12 = (q : Int) := by omega
        have hq2 : (m : Int).tdiv 12 = (q : Int) := by rw [Int.tdiv_eq_ediv_of_nonneg (by omega)]; exact hq1
        have HQ := hide hq
        clear hx hx64 HDS hq
        go_upto_if 29 with (first
          | (with_reducible refine idx_i 24 _ _ _ _ _ _ rfl hsl _ _ i rfl rfl _ HXI.out ?_; intro b o hcell hbo)
          | (go_at_call_of 23 (Value.int IntKind.i64 240); refine (hA _).mono ?_; rintro e w2 ⟨rfl, rfl⟩))
        go_cut [4] from 30 to 31 (fun v w' => v = .int .i64 ((langS g0 m : Nat) : Int) ∧ wo = w')
        case first =>
          by_cases h19 : q = 19
          · have e0 : langS g0 m = 1 - g0 := by unfold langS; rw [if_pos (by rw [← HQ.out]; exact h19)]
            have e1 : (1 : Int) - (g0 : Int) = ((langS g0 m : Nat) : Int) := by rw [e0]; omega
            have HE1 := hide e1
            clear e0 e1
            subst h19
            go_wp2_with fail
            go_meet
            exact ⟨by rw [← HE1.out], rfl⟩
          · have e0 : langS g0 m = g0 := by unfold langS; rw [if_neg (by rw [← HQ.out]; exact h19)]
            have dq : ((q : Int) == 19) = false := by simp; omega
            have dq2 : decide ((q : Int) = 19) = false := by simp; omega
            go_wp2_with fail
            go_meet
            exact ⟨by rw [e0], rfl⟩
        case rest =>
          obtain ⟨rfl, rfl⟩ := hcut
          clear hcell hbo hA hsl
          obtain ⟨g1, hg1'⟩ : ∃ g1, Hid (langS g0 m = g1) := ⟨_, hide rfl⟩
          rw [hg1'.out] at HD2 HG1 ⊢
          obtain ⟨c0, hc0⟩ := theS_get m
          have HC0 := hide hc0
          obtain ⟨r19, hr19⟩ : ∃ r, r = m % 19 := ⟨_, rfl⟩
          have hr1 : (m : Int) % 19 = (r19 : Int) := by omega
          have hr2 : (m : Int).tmod 19 = (r19 : Int) := by rw [Int.tmod_eq_emod_of_nonneg (by omega)]; exact hr1
          have HC00 := hide hc0
          rw [← hr19] at HC0
          have hg0 : ∀ (h : r19 < (⟨#[116, 104, 101, 114, 105, 110, 103, 97, 110, 100, 115, 116, 111, 117, 98, 99, 97, 102, 120]⟩ : ByteArray).size), (⟨#[116, 104, 101, 114, 105, 110, 103, 97, 110, 100, 115, 116, 111, 117, 98, 99, 97, 102, 120]⟩ : ByteArray)[r19]'h = c0 := fun h => by
            have h1 := chars_get h
            rw [show chars (⟨#[116, 104, 101, 114, 105, 110, 103, 97, 110, 100, 115, 116, 111, 117, 98, 99, 97, 102, 120]⟩ : ByteArray) = theS from rfl, HC0.out] at h1
            exact (Option.some.inj h1).symm
          clear hc0 hr19
          go_upto_block 2 with (with_reducible refine idx_str 34 _ Try.underlying9 _ _ ⟨#[116, 104, 101, 114, 105, 110, 103, 97, 110, 100, 115, 116, 111, 117, 98, 99, 97, 102, 120]⟩ r19 c0 rfl rfl HC0.out ?_)
          go_cut [7] from 37 to 54 (fun c w' => c = .int .u8 ((charF m).toNat : Int) ∧ wo = w')
          case first =>
            have hcase : q = 12 ∨ q = 13 ∨ q = 14 ∨ q = 15 ∨ q = 16 ∨ q = 17 ∨ (q ≠ 12 ∧ q ≠ 13 ∧ q ≠ 14 ∧ q ≠ 15 ∧ q ≠ 16 ∧ q ≠ 17) := by omega
            rcases hcase with h | h | h | h | h | h | h
            · have HC := hide (cF_d (m := m) (by rw [← HQ.out]; omega))
              obtain ⟨r, hr⟩ : ∃ r, r = m % 10 := ⟨_, rfl⟩
              have hr1' : (m : Int) % 10 = (r : Int) := by omega
              have hr2' : (m : Int).tmod 10 = (r : Int) := by rw [Int.tmod_eq_emod_of_nonneg (by omega)]; exact hr1'
              rw [← hr] at HC
              clear hr
              subst h
              go_wp2_with (with_reducible refine idx_str 42 _ Try.underlying9 _ _ ⟨#[48, 49, 50, 51, 52, 53, 54, 55, 56, 57]⟩ r (charF m) rfl rfl HC.out ?_)
              go_meet
              exact ⟨rfl, rfl⟩
            · have HC := hide (cF_d (m := m) (by rw [← HQ.out]; omega))
              obtain ⟨r, hr⟩ : ∃ r, r = m % 10 := ⟨_, rfl⟩
              have hr1' : (m : Int) % 10 = (r : Int) := by omega
              have hr2' : (m : Int).tmod 10 = (r : Int) := by rw [Int.tmod_eq_emod_of_nonneg (by omega)]; exact hr1'
              rw [← hr] at HC
              clear hr
              subst h
              go_wp2_with (with_reducible refine idx_str 42 _ Try.underlying9 _ _ ⟨#[48, 49, 50, 51, 52, 53, 54, 55, 56, 57]⟩ r (charF m) rfl rfl HC.out ?_)
              go_meet
              exact ⟨rfl, rfl⟩
            · have HC := hide (cF_m (m := m) (by rw [← HQ.out]; omega))
              obtain ⟨r, hr⟩ : ∃ r, r = m % 6 := ⟨_, rfl⟩
              have hr1' : (m : Int) % 6 = (r : Int) := by omega
              have hr2' : (m : Int).tmod 6 = (r : Int) := by rw [Int.tmod_eq_emod_of_nonneg (by omega)]; exact hr1'
              rw [← hr] at HC
              clear hr
              subst h
              go_wp2_with (with_reducible refine idx_str 47 _ Try.underlying9 _ _ ⟨#[32, 46, 44, 63, 39, 45]⟩ r (charF m) rfl rfl HC.out ?_)
              go_meet
              exact ⟨rfl, rfl⟩
            · have HC := hide (cF_b (m := m) (by rw [← HQ.out]; omega))
              subst h
              go_wp2_with fail
              go_meet
              exact ⟨by rw [HC.out]; rfl, rfl⟩
            · have HC := hide (cF_b (m := m) (by rw [← HQ.out]; omega))
              subst h
              go_wp2_with fail
              go_meet
              exact ⟨by rw [HC.out]; rfl, rfl⟩
            · obtain ⟨c1, hc1⟩ := theS_get m
              have HC : Hid (charF m = charF m) := hide rfl
              have hcc := cF_c (m := m) (by rw [← HQ.out]; omega) HC00.out
              have hc97 := hcc.2
              have hce := hcc.1
              have HCE := hide hce
              clear hcc hce hc1
              have hce := HCE.out
              subst h
              go_wp2_with fail
              go_meet
              exact ⟨by rw [← HCE.out]; exact congrArg (Value.int .u8) (by have := c0.toNat_lt; omega), rfl⟩
            · obtain ⟨h1, h2, h3, h4, h5, h6⟩ := h
              have HC := hide (cF_e (m := m) (by rw [← HQ.out]; exact ⟨h1, h2, h3, h4, h5, h6⟩) HC00.out)
              have e1 : ((q : Int) == 12) = false := by simp; omega
              have e2 : ((q : Int) == 13) = false := by simp; omega
              have e3 : ((q : Int) == 14) = false := by simp; omega
              have e4 : ((q : Int) == 15) = false := by simp; omega
              have e5 : ((q : Int) == 16) = false := by simp; omega
              have e6 : ((q : Int) == 17) = false := by simp; omega
              have f1 : decide ((q : Int) = 12) = false := by simp; omega
              have f2 : decide ((q : Int) = 13) = false := by simp; omega
              have f3 : decide ((q : Int) = 14) = false := by simp; omega
              have f4 : decide ((q : Int) = 15) = false := by simp; omega
              have f5 : decide ((q : Int) = 16) = false := by simp; omega
              have f6 : decide ((q : Int) = 17) = false := by simp; omega
              go_wp2_with fail
              go_meet
              exact ⟨by rw [HC.out], rfl⟩
          case rest =>
            obtain ⟨rfl, rfl⟩ := hcut
            obtain ⟨ch, hch⟩ : ∃ ch, Hid (charF m = ch) := ⟨_, hide rfl⟩
            rw [hch.out]
            go_upto_if 64 with (at_builtin; refine app_sy rfl _ _ rfl w w.heap.size ao S.length co _ rfl hO ⟨(g1 : Int), ch⟩ rfl (by omega) hb.size hb ?_; intro a1 c1 w1 hO1 _ hb1)
            obtain ⟨S1, hS1⟩ : ∃ S1, Hid (S ++ [(⟨(g1 : Int), ch⟩ : Sy)] = S1) := ⟨_, hide rfl⟩
            have hO1 : Own w1 w.heap.size 88 2 a1 S1.length c1 (S1.flatMap sc) := by
              rw [← hS1.out, List.length_append, List.flatMap_append, List.flatMap_singleton]; exact hO1
            have hS1l : S1.length = S.length + 1 := by rw [← hS1.out, List.length_append]; rfl
            rw [← hS1l]
            have hS124 : S1.length ≤ 24 := by omega
            clear hS1l hg0
            have hg1'' := HG1.out
            by_cases h18 : q = 18
            · obtain ⟨wd, hwd⟩ : ∃ wd, words7[m % 7]? = some wd := ⟨_, List.getElem?_eq_getElem (show m % 7 < words7.length from Nat.mod_lt _ (by decide))⟩
              have HST : Hid (stepS S g0 m = outW S1 g1 (chars wd)) := hide (by
                unfold stepS
                rw [if_pos (by rw [← HQ.out]; exact h18), hg1'.out, hch.out, hS1.out, List.getD_eq_getElem?_getD, hwd]; rfl)
              obtain ⟨r, hr⟩ : ∃ r, r = m % 7 := ⟨_, rfl⟩
              have hr1' : (m : Int) % 7 = (r : Int) := by omega
              have hr2' : (m : Int).tmod 7 = (r : Int) := by rw [Int.tmod_eq_emod_of_nonneg (by omega)]; exact hr1'
              have hr7 : r < 7 := by omega
              rw [← hr] at hwd
              obtain ⟨w3, hw3⟩ : ∃ w3, w3 = w1.alloc (.cells (words7.map Value.string).toArray 9) := ⟨_, rfl⟩
              have hcl : w3.cell? ⟨w1.heap.size, r, none⟩ = some (.string wd) := by
                have := (Sl.fresh w1 9 1 7 (words7.map Value.string) rfl (by decide)).cell ⟨w1.heap.size, 0, none⟩ rfl r (.string wd) (by rw [List.getElem?_map, hwd]; rfl)
                rw [hw3]
                simpa [Addr.add_lit] using this
              have hO3 : Own w3 w.heap.size 88 2 a1 S1.length c1 (S1.flatMap sc) := by rw [hw3]; exact hO1.alloc _
              have hb3 : Below w.heap.size w w3 := by rw [hw3]; exact hb1.trans ((blo w1 _).mono hb1.size)
              have hwsz : wd.size ≤ 4 := words7_len wd (List.mem_of_getElem? hwd)
              rw [show w1.alloc (.cells #[.string ⟨#[116, 104, 101]⟩, .string ⟨#[97, 110, 100]⟩, .string ⟨#[105, 110, 103]⟩, .string ⟨#[116, 105, 111, 110]⟩, .string ⟨#[98, 117, 116]⟩, .string ⟨#[98, 101]⟩, .string ⟨#[115, 116]⟩] 9) = w3 from hw3.symm]
              subst h18
              clear hr hw3 hO1 hb1 hwd
              go_wp2_with fail
              go_loopg [3, 10] wd.size (fun gh o v w' => ∃ (k : Nat) (ak : Option Addr) (ck : Nat), k ≤ wd.size ∧ gh = wd.size - k ∧ S1.length + k ≤ 24 ∧ o = .slice ak (S1.length + k) ck ∧ v = .int .i64 (k : Int) ∧ Own w' w.heap.size 88 2 ak (S1.length + k) ck ((wordK S1 g1 (chars wd) k).flatMap sc) ∧ Below w.heap.size w w')
              case atStart => exact ⟨0, a1, c1, by omega, by omega, by omega, rfl, rfl, by rw [wordK_zero]; exact hO3, hb3⟩
              case round =>
                clear hO3 hb3 hcl
                obtain ⟨k, ak, ck, hk, hgk, hk24, rfl, rfl, hOk, hbk⟩ := hrel
                have HGK := hide hgk
                clear hgk
                have hfin : (k = wd.size ∨ S1.length + k = 24) → Hid (symsS (fun x => aroundF x 240) (l.drop (i + 1)) (wordK S1 g1 (chars wd) k) g1 = R) ∧ Hid ((wordK S1 g1 (chars wd) k).length = S1.length + k) := fun h => by
                  refine ⟨hide ?_, hide (wordK_len (by rw [← size_chars]; exact hk))⟩
                  rw [wordK_out hk24 (by rw [← size_chars]; exact h), ← HST.out]; exact HD2.out
                have HFIN := hide hfin
                clear hfin
                by_cases hkl : k < wd.size
                · have e1 : decide (k < wd.size) = true := decide_eq_true hkl
                  have e1' : decide ((k : Int) < (wd.size : Int)) = true := decide_eq_true (by omega)
                  by_cases hkS : S1.length + k < 24
                  · have e2 : decide (S1.length + k < 24) = true := decide_eq_true hkS
                    have e2' : decide ((S1.length : Int) + (k : Int) < 24) = true := decide_eq_true (by omega)
                    have HWS := hide (wordK_step (S := S1) (g := g1) (chars_get hkl))
                    go_wp2_with (at_builtin; refine app_sy rfl _ _ rfl w w.heap.size ak (S1.length + k) ck _ rfl hOk ⟨(g1 : Int), wd[k]⟩ rfl (by omega) hbk.size hbk ?_; intro a9 c9 w9 hO9 _ hb9)
                    go_roundg (wd.size - (k + 1))
                    case measure => have := HGK.out; omega
                    case rel => exact ⟨k + 1, a9, c9, by omega, rfl, by omega, rfl, by go_num, by rw [HWS.out, List.flatMap_append, List.flatMap_singleton]; exact hO9, hb9⟩
                  · obtain ⟨f1, f2⟩ := HFIN.out (.inr (by omega))
                    have e2 : decide (S1.length + k < 24) = false := decide_eq_false hkS
                    have e2' : decide ((S1.length : Int) + (k : Int) < 24) = false := decide_eq_false (by omega)
                    go_wp2_with fail
                    go_roundg (n - (i + 1))
                    case measure => have := HGI.out; omega
                    case rel => exact ⟨i + 1, wordK S1 g1 (chars wd) k, g1, ak, ck, by omega, rfl, by rw [f2.out], rfl, by go_num, hg1'', by rw [f2.out]; exact hk24, f1, by rw [f2.out]; exact hOk, hbk⟩
                · obtain rfl : k = wd.size := by omega
                  obtain ⟨f1, f2⟩ := HFIN.out (.inl rfl)
                  go_wp2_with fail
                  go_roundg (n - (i + 1))
                  case measure => have := HGI.out; omega
                  case rel => exact ⟨i + 1, wordK S1 g1 (chars wd) wd.size, g1, ak, ck, by omega, rfl, by rw [f2.out], rfl, by go_num, hg1'', by rw [f2.out]; exact hk24, f1, by rw [f2.out]; exact hOk, hbk⟩
            · have hst : Hid (S1 = stepS S g0 m) := hide (by
                unfold stepS
                rw [if_neg (by rw [← HQ.out]; exact h18), hg1'.out, hch.out]; exact hS1.out.symm)
              have HD3 : Hid (symsS (fun x => aroundF x 240) (l.drop (i + 1)) S1 g1 = R) := hide (by rw [hst.out]; exact HD2.out)
              have e1 : ((q : Int) == 18) = false := by simp; omega
              have e2 : decide ((q : Int) = 18) = false := by simp; omega
              have al := blo w1 (.cells (words7.map Value.string).toArray 9)
              have hO2 := hO1.below al
              have hb2 := hb1.trans (al.mono hb1.size)
              go_wp2_with fail
              go_roundg (n - (i + 1))
              case measure => have := HGI.out; omega
              case rel => exact ⟨i + 1, S1, g1, a1, c1, by omega, rfl, rfl, rfl, by go_num, hg1'', hS124, HD3, hO2, hb2⟩
      · have hS : S.length = 24 := by omega
        have hfin := HD.out
        rw [symsS_full (by omega)] at hfin
        have d1 : decide (i < n) = true := decide_eq_true hil
        have d1' : decide ((i : Int) < (n : Int)) = true := decide_eq_true (by omega)
        have d2 : decide (S.length < 24) = false := decide_eq_false hSl
        have d2' : decide ((S.length : Int) < 24) = false := decide_eq_false (by omega)
        have HF := hide hfin
        clear hfin hS
        go_wp2_with fail
        go_ret
        rw [← HF.out]
        exact ⟨ao, co, rfl, hO, hb⟩
    · obtain rfl : i = n := by omega
      have hfin := HD.out
      rw [List.drop_of_length_le (by rw [HNL.out]; exact Nat.le_refl _)] at hfin
      have HF : Hid (S = R) := hide hfin
      clear hfin
      go_wp2_with fail
      go_ret
      rw [← HF.out]
      exact ⟨ao, co, rfl, hO, hb⟩
end Go.Proofs.Ytlpkicjijlcbfaa
end

/- the text B35 -/
section
/- Chapter 06: what every law of the chapter takes, in one text. -/
namespace Go.Dx
open Go.RowKit
def FStn (n : Nat) (L : List Stp) (vs : List Value) (w : World) : Prop := ∃ a c ps, vs = [.slice a n c] ∧ Stl w a n c ps L
theorem FStn.below {n : Nat} {l : List Stp} {vs : List Value} {w w' : World} (h : FStn n l vs w) (hb : Below w.heap.size w w') : FStn n l vs w' := by obtain ⟨a, c, ps, h1, h2⟩ := h; exact ⟨a, c, ps, h1, h2.below hb⟩
end Go.Dx
namespace Go.Proofs.Ytlpkicjijlcbfaa
open Go.RowKit Go.Dx
theorem steps_of (H : TH) (t : Ta) (s : St) (l : List Sy) (i : Int) {L : List Stp} (hL : stepsL t s l i = L) (a : Option Addr) (n c : Nat) (hll : l.length ≤ 1000000) (w : World) (hT : TaIs w H t) (hs : Sl w 2 a n c (l.flatMap sc)) :
    Calls Try.prog 28 #[H.v, sv s, .slice a n c, .int .i64 i] w (StepsR L w) := by
  have := tab_Steps H t s l a n c i hll w hT hs
  rw [hL] at this
  exact this
theorem steps_ofT (H : TH) (t : Ta) (s : St) (l : List Sy) (i : Int) {L : List Stp} (hL : stepsL t s l i = L) (a : Option Addr) (n c : Nat) (hll : l.length ≤ 1000000) (w : World) (hT : TaIs w H t) (hs : Sl w 2 a n c (l.flatMap sc)) :
    Calls Try.prog 28 #[H.v, sv s, .slice a n c, .int .i64 i] w (StepsT 67 L w) := by
  have := tab_StepsT H t s l a n c i hll w hT hs
  rw [hL] at this
  exact this
end Go.Proofs.Ytlpkicjijlcbfaa
end

/- the text B36 -/
section
/- Chapter 06: plain and SameSteps (steps of the reference). -/
namespace Go.Proofs.Ytlpkicjijlcbfaa
open Go.RowKit Go.Dx
theorem size_rst : (Try.prog.info? 70).map (·.size) = some 3 := by kernel_rfl
theorem size_r3 (x y z : Value) : (Try.prog.info? 70).map (·.size) = some ([x, y, z] : List Value).length := by rw [size_rst]; rfl
theorem same_at {x y : List UInt8} {a1 a2 : Option Addr} {n1 n2 c1 c2 : Nat} {w : World} (hxy : x = y) (h1 : Sl w 1 a1 n1 c1 (x.map B8)) (h2 : Sl w 1 a2 n2 c2 (y.map B8)) :
    Calls Try.prog 20 #[.slice a1 n1 c1, .slice a2 n2 c2] w fun e w' => e = .returned (.bool true) ∧ Below w.heap.size w w' := by
  refine (ref_Same x y a1 a2 n1 n2 c1 c2 w ⟨h1.len, h1.le, h1.cap, h1.nil, h1.cell⟩ ⟨h2.len, h2.le, h2.cap, h2.nil, h2.cell⟩).mono ?_
  rintro e w' ⟨rfl, m, hm⟩
  exact ⟨by rw [decide_eq_true hxy], hm ▸ Still.below m⟩
section
variable {w : World} {ops : Array Oper} {rest : List Oper} {o : Oper} {act : Act} {Q : Exit → Act → World → Prop}
end
end Go.Proofs.Ytlpkicjijlcbfaa
end

/- the text D10 -/
section
/- Chapter 08: the numbers of states; the error of tables and a text. -/
set_option linter.unusedVariables false
namespace Go.Proofs.Ytlpkicjijlcbfaa
open Go.RowKit Go.Dx
theorem agg_tst8 : IsAgg Try.prog 63 := .inr ⟨_, Try.underlying63⟩
theorem agg_rst8 : IsAgg Try.prog 70 := .inr ⟨_, Try.underlying70⟩
theorem con_number (s : St) (hs : s.lang = 0 ∨ s.lang = 1) (w : World) : Calls Try.prog 76 #[sv s] w fun e w' => e = .returned (.int .i64 (numS s : Int)) ∧ Below w.heap.size w w' := by
  obtain ⟨g, a, b⟩ := s
  simp only at hs
  rcases hs with rfl | rfl <;> cases a <;> cases b
  all_goals
    unfold sv
    go_enter Try.func76, Try.ntmps76
    go_wp2_with fail
    go_ret
    exact ⟨rfl, blo w _⟩
set_option maxRecDepth 100000 in
set_option maxHeartbeats 1000000 in
theorem con_state (n : Nat) (hn : n < 8) (w : World) : Calls Try.prog 53 #[.int .i64 (n : Int)] w fun e w' => e = .returned (sv (stN n)) ∧ Below w.heap.size w w' := by
  have h8 : n = 0 ∨ n = 1 ∨ n = 2 ∨ n = 3 ∨ n = 4 ∨ n = 5 ∨ n = 6 ∨ n = 7 := by omega
  have hb0 := blo w (.cells #[.int .i64 0, .bool false, .bool false] 63)
  have X1 := Box.new w 63 #[.int .i64 0, .bool false, .bool false]
  have hone : ∀ (x : Int) (y z : Bool), ∀ u ∈ ([.int .i64 x, .bool y, .bool z] : List Value), u.oneCell' = true := fun x y z => by simp [Value.oneCell']
  clear hn
  rcases h8 with rfl | rfl | rfl | rfl | rfl | rfl | rfl | rfl
  all_goals
    go_enter Try.func53, Try.ntmps53
    go_upto_region 1 with fail
    generalize w.alloc (.cells _ 63) = w2 at *
    go_wp2_with (with_reducible refine store_all 63 _ _ 63 w.heap.size [.int .i64 0, .bool false, .bool false] [.int .i64 _, .bool _, .bool _] _ (size_st3 _ _ _) X1 rfl rfl rfl (Eq.refl 3) (hone _ _ _) ?_; intro w3 hx3 hg3 hz3)
    exact bodyPost_ret (run_results_cell rfl rfl agg_tst8 (size_st3 _ _ _) hx3) rfl ⟨rfl, hb0.grown hg3 hb0.size (fun q hq => by cases hq; omega)⟩
theorem r8_Number (s : St) (hs : s.lang = 0 ∨ s.lang = 1) (w : World) : Calls Try.prog 29 #[sv s] w fun e w' => e = .returned (.int .i64 (numS s : Int)) ∧ Below w.heap.size w w' := by
  obtain ⟨g, a, b⟩ := s
  simp only at hs
  rcases hs with rfl | rfl <;> cases a <;> cases b
  all_goals
    unfold sv
    go_enter Try.func29, Try.ntmps29
    go_wp2_with fail
    go_ret
    exact ⟨rfl, blo w _⟩
set_option maxRecDepth 100000 in
set_option maxHeartbeats 1000000 in
theorem r8_State (n : Nat) (hn : n < 8) (w : World) : Calls Try.prog 70 #[.int .i64 (n : Int)] w fun e w' => e = .returned (sv (stN n)) ∧ Below w.heap.size w w' := by
  have h8 : n = 0 ∨ n = 1 ∨ n = 2 ∨ n = 3 ∨ n = 4 ∨ n = 5 ∨ n = 6 ∨ n = 7 := by omega
  have hb0 := blo w (.cells #[.int .i64 0, .bool false, .bool false] 70)
  have X1 := Box.new w 70 #[.int .i64 0, .bool false, .bool false]
  have hone : ∀ (x : Int) (y z : Bool), ∀ u ∈ ([.int .i64 x, .bool y, .bool z] : List Value), u.oneCell' = true := fun x y z => by simp [Value.oneCell']
  clear hn
  rcases h8 with rfl | rfl | rfl | rfl | rfl | rfl | rfl | rfl
  all_goals
    go_enter Try.func70, Try.ntmps70
    go_upto_region 1 with fail
    generalize w.alloc (.cells _ 70) = w2 at *
    go_wp2_with (with_reducible refine store_all 70 _ _ 70 w.heap.size [.int .i64 0, .bool false, .bool false] [.int .i64 _, .bool _, .bool _] _ (size_r3 _ _ _) X1 rfl rfl rfl (Eq.refl 3) (hone _ _ _) ?_; intro w3 hx3 hg3 hz3)
    exact bodyPost_ret (run_results_cell rfl rfl agg_rst8 (size_r3 _ _ _) hx3) rfl ⟨rfl, hb0.grown hg3 hb0.size (fun q hq => by cases hq; omega)⟩
set_option maxHeartbeats 400000 in
theorem fits_1 (x : Sy) (w : World) : Calls Try.prog 67 #[.agg #[.int .i64 x.lang, .int .u8 (x.c.toNat : Int)]] w fun e w' => e = .returned (.bool (badS x)) ∧ Below w.heap.size w w' := by
  obtain ⟨g, c⟩ := x
  have hc := c.toNat_lt
  have hx : badS ⟨g, c⟩ = (decide (g < 0) || decide (1 < g) || decide (c.toNat < 32) || decide (126 < c.toNat)) := by
    unfold badS symOk isW
    simp only
    by_cases h1 : g < 0
    · have : g ≠ 0 ∧ g ≠ 1 := by omega
      simp [h1, this.1, this.2]
    · by_cases h2 : 1 < g
      · have : g ≠ 0 ∧ g ≠ 1 := by omega
        simp [h1, h2, this.1, this.2]
      · have : (decide (g = 0) || decide (g = 1)) = true := by simp; omega
        rw [this]
        by_cases h3 : c.toNat < 32
        · simp [h1, h2, h3]
        · by_cases h4 : 126 < c.toNat
          · simp [h1, h2, h3, h4]
          · have : 32 ≤ c.toNat ∧ c.toNat ≤ 126 := by omega
            simp [h1, h2, h3, h4, this.1, this.2]
  rw [hx]
  simp only
  generalize c.toNat = k at hc ⊢
  clear hx
  by_cases h1 : g < 0
  · have d1 : decide (g < 0) = true := decide_eq_true h1
    rw [d1]
    go_enter Try.func67, Try.ntmps67
    go_wp2_with fail
    go_ret
    exact ⟨rfl, blo w _⟩
  · have d1 : decide (g < 0) = false := decide_eq_false h1
    rw [d1]
    by_cases h2 : 1 < g
    · have d2 : decide (1 < g) = true := decide_eq_true h2
      rw [d2]
      go_enter Try.func67, Try.ntmps67
      go_wp2_with fail
      go_ret
      exact ⟨rfl, blo w _⟩
    · have d2 : decide (1 < g) = false := decide_eq_false h2
      rw [d2]
      by_cases h3 : k < 32
      · have d3 : decide ((k : Int) < 32) = true := decide_eq_true (by omega)
        have d4 : decide (k < 32) = true := decide_eq_true h3
        rw [d4]
        go_enter Try.func67, Try.ntmps67
        go_wp2_with fail
        go_ret
        exact ⟨rfl, blo w _⟩
      · have d3 : decide ((k : Int) < 32) = false := decide_eq_false (by omega)
        have d4 : decide (k < 32) = false := decide_eq_false h3
        rw [d4]
        have d5 : decide (126 < k) = decide ((126 : Int) < (k : Int)) := by
          by_cases h4 : 126 < k
          · rw [decide_eq_true h4, decide_eq_true (by omega)]
          · rw [decide_eq_false h4, decide_eq_false (by omega)]
        rw [d5]
        go_enter Try.func67, Try.ntmps67
        go_wp2_with fail
        go_ret
        exact ⟨rfl, blo w _⟩
set_option maxHeartbeats 400000 in
theorem index_yf (l : List Sy) (a : Option Addr) (n c : Nat) (w : World) (hs : Sl w 2 a n c (l.flatMap sc)) :
    Calls Try.prog 83 #[.slice a n c, fnv 67] w fun e w' => ∃ i : Int, e = .returned (.int .i64 i) ∧ decide (0 ≤ i) = l.any badS ∧ Below w.heap.size w w' := by
  unfold fnv
  obtain rfl := hs.nf sc_len (by decide)
  have hm1 := Nat.le_trans hs.le hs.cap
  unfold maxLen at hm1
  go_enter Try.func83, Try.ntmps83
  go_wp2_with fail
  go_loopg [8] l.length (fun g i w' => ∃ (k : Nat), k ≤ l.length ∧ g = l.length - k ∧ (l.take k).any badS = false ∧ i = .int .i64 k ∧ Below w.heap.size w w')
  case atStart => exact ⟨0, by omega, by omega, rfl, rfl, Below.refl _ _⟩
  case round =>
    obtain ⟨k, hk, hg, ht, rfl, hb⟩ := hrel
    have HG := hide hg
    have HT := hide ht
    clear hg ht
    by_cases hkl : k < l.length
    · obtain ⟨x, hx⟩ : ∃ x, l[k]? = some x := ⟨l[k], by simp [hkl]⟩
      have HH := hide hx
      have hs1 := hs.below hb
      clear hx
      have hc := fits_1 x wr
      cases hq : badS x
      · have HN := hide (any_take_no HH.out HT.out hq)
        rw [hq] at hc
        clear hq
        go_wp2_with (first
          | (with_reducible refine idx_y 14 _ _ _ _ _ _ rfl hs1 _ _ k rfl rfl _ HH.out ?_; intro b o hcell hcell2 hbo)
          | (go_at_call 67; refine hc.mono ?_; rintro e w2 ⟨rfl, hb2⟩))
        have hb3 := hb.trans (hb2.mono hb.size)
        go_roundg (l.length - (k + 1))
        case measure => have := HG.out; omega
        case rel => exact ⟨k + 1, by omega, rfl, HN.out, by go_num, hb3⟩
      · have HN := hide (any_of_get HH.out hq)
        rw [hq] at hc
        clear hq
        go_wp2_with (first
          | (with_reducible refine idx_y 14 _ _ _ _ _ _ rfl hs1 _ _ k rfl rfl _ HH.out ?_; intro b o hcell hcell2 hbo)
          | (go_at_call 67; refine hc.mono ?_; rintro e w2 ⟨rfl, hb2⟩))
        go_ret
        exact ⟨_, rfl, by rw [HN.out]; exact decide_eq_true (by omega), hb.trans (hb2.mono hb.size)⟩
    · obtain rfl : k = l.length := by omega
      go_wp2
      go_ret
      have := HT.out
      rw [List.take_length] at this
      exact ⟨_, rfl, by rw [this]; rfl, hb⟩
set_option maxHeartbeats 400000 in
theorem contains_yf (l : List Sy) (a : Option Addr) (n c : Nat) (w : World) (hs : Sl w 2 a n c (l.flatMap sc)) :
    Calls Try.prog 57 #[.slice a n c, fnv 67] w fun e w' => e = .returned (.bool (!goodS l)) ∧ Below w.heap.size w w' := by
  have hc := index_yf l a n c w hs
  rw [goodS_eq, Bool.not_not]
  unfold fnv at hc ⊢
  go_enter Try.func57, Try.ntmps57
  go_wp2_with (go_at_call 83; refine hc.mono ?_; rintro e w2 ⟨i, rfl, hi, hb⟩)
  go_ret
  exact ⟨by rw [← hi]; rfl, hb⟩
end Go.Proofs.Ytlpkicjijlcbfaa
end

/- the text D11 -/
section
/- Chapter 08: what a step and what follows it need; the search for the least. -/
set_option linter.unusedVariables false
namespace Go.Proofs.Ytlpkicjijlcbfaa
open Go.RowKit Go.Dx
def spv (p : SH) : Value := .agg (stc p).toArray
def RCH (b1 b2 : Nat) : Value := .func (.func 75) #[] #[.pointer (some ⟨b1, 0, none⟩), .pointer (some ⟨b2, 0, none⟩)]
theorem size_row8 : (Try.prog.info? 93).map (·.size) = some 8 := by kernel_rfl
theorem size_stp6 : (Try.prog.info? 67).map (·.size) = some 6 := by kernel_rfl
/-- the table of numbers that reach reads, and its boxes -/
structure RBx (w : World) (b1 b2 bA at_ : Nat) (A : Nums) : Prop where
  x1 : Box w b1 90 [.slice (some ⟨bA, 0, none⟩) A.length A.length]
  x2 : Box w b2 3 [.int .i64 (at_ : Int)]
  xA : Box w bA 93 (A.flatMap rowc)
  r8 : R8 A
  few : A.length ≤ 1000000
theorem RBx.below {w w' : World} {b1 b2 bA at_ : Nat} {A : Nums} (h : RBx w b1 b2 bA at_ A) (hb : Below w.heap.size w w') : RBx w' b1 b2 bA at_ A := ⟨h.x1.under hb, h.x2.under hb, h.xA.under hb, h.r8, h.few⟩
theorem st3_at {sl : Int} {sn si : Bool} {a b c : Value} {j : Nat} {u : Value} (h : ([.int .i64 sl, .bool sn, .bool si] : List Value)[j]? = some u) : ([.int .i64 sl, .bool sn, .bool si, a, b, c] : List Value)[j]? = some u := by
  match j, h with
  | 0, h => exact h
  | 1, h => exact h
  | 2, h => exact h
  | j + 3, h => cases h
set_option maxRecDepth 100000 in
set_option maxHeartbeats 2000000 in
theorem reach_1 (p : SH) (A : Nums) (bA b1 b2 at_ : Nat) (w : World) (hR : RBx w b1 b2 bA at_ A) (hL : LkT A at_ p.1) (hn : p.2.2.1 = p.1.cells.length) :
    Calls Try.prog 75 #[spv p, .pointer (some ⟨b1, 0, none⟩), .pointer (some ⟨b2, 0, none⟩)] w fun e w' => e = .returned (.tuple #[.int .i64 (lookA A at_ p.1 + p.1.cells.length), .bool (decide (0 ≤ lookA A at_ p.1))]) ∧ Below w.heap.size w w' := by
  obtain ⟨⟨⟨sl, sn, si⟩, ln, cs, ru⟩, ⟨pa, pn, pc⟩⟩ := p
  simp only at hn
  obtain ⟨v, hv⟩ : ∃ v, Hid (lookA A at_ ⟨⟨sl, sn, si⟩, ln, cs, ru⟩ = v) := ⟨_, hide rfl⟩
  have hLl := hL.lang
  simp only at hLl ⊢
  rw [hv.out, ← hn]
  have hlo := hL.lo
  have hhi := hL.hi
  have hfw := hL.few
  have hlt := hL.lt
  have hln := hL.len
  simp only at hfw hlt hln
  rw [hv.out] at hlo hhi
  rw [← hn] at hfw
  obtain ⟨lk, rfl⟩ : ∃ lk : Nat, ln = (lk : Int) := ⟨ln.toNat, by omega⟩
  rw [Int.toNat_natCast] at hlt
  obtain ⟨nd, hnd⟩ : ∃ nd, Hid (numS ⟨sl, sn, si⟩ = nd) := ⟨_, hide rfl⟩
  have hnd8 : nd < 8 := by rw [← hnd.out]; exact numS_lt hLl
  have hnum := hide (fun w => con_number ⟨sl, sn, si⟩ hLl w)
  rw [hnd.out] at hnum
  obtain ⟨N, hN⟩ : ∃ N, Hid (A.length = N) := ⟨_, hide rfl⟩
  have hx1 := hR.x1
  have hN6 := hR.few
  rw [hN.out] at hx1 hlt hN6
  obtain ⟨ak, hak⟩ : ∃ ak, Hid (at_ + lk = ak) := ⟨_, hide rfl⟩
  have hakI : (at_ : Int) + (lk : Int) = (ak : Int) := by have := hak.out; omega
  have hakN : ak < N := by have := hak.out; omega
  have hVA : Hid ((A.flatMap rowc)[ak * 8 + nd]? = some (I64 v)) := hide (by
    have hr : A[ak]? = some (A[ak]'(by rw [hN.out]; exact hakN)) := by simp
    have h8 := hR.r8.get hr
    have hg : (A[ak]'(by rw [hN.out]; exact hakN))[nd]? = some v := by
      rw [List.getElem?_eq_getElem (by omega)]
      have h1 := hv.out
      unfold lookA at h1
      simp only [Int.toNat_natCast] at h1
      rw [hnd.out, hak.out, List.getD_eq_getElem?_getD (l := A), hr] at h1
      simp only [Option.getD_some] at h1
      rw [List.getD_eq_getElem?_getD, List.getElem?_eq_getElem (by omega)] at h1
      simpa using h1
    exact nf_get A hR.r8 hr hg)
  have hxA := hR.xA
  have hb2 := blo w (.cells #[.int .i64 sl, .bool sn, .bool si, .int .i64 (lk : Int), .slice pa pn pc, .int .i64 ru] 67)
  have HX := Box.new w 67 #[.int .i64 sl, .bool sn, .bool si, .int .i64 (lk : Int), .slice pa pn pc, .int .i64 ru]
  have c1 : (w.alloc (.cells #[.int .i64 sl, .bool sn, .bool si, .int .i64 (lk : Int), .slice pa pn pc, .int .i64 ru] 67)).cell? ⟨b1, 0, none⟩ = some (.slice (some ⟨bA, 0, none⟩) N N) := (hx1.under hb2).at_ rfl
  have c2 : (w.alloc (.cells #[.int .i64 sl, .bool sn, .bool si, .int .i64 (lk : Int), .slice pa pn pc, .int .i64 ru] 67)).cell? ⟨b2, 0, none⟩ = some (.int .i64 (at_ : Int)) := (hR.x2.under hb2).at_ rfl
  have cV : (w.alloc (.cells #[.int .i64 sl, .bool sn, .bool si, .int .i64 (lk : Int), .slice pa pn pc, .int .i64 ru] 67)).cell? ⟨bA, ak * 8 + nd, none⟩ = some (.int .i64 v) := (hxA.under hb2).at_ hVA.out
  have HB2 := hide hb2
  clear hR hL hb2 hx1 hxA hVA hn hLl hlt
  unfold spv stc hdv
  simp only
  go_enter Try.func75, Try.ntmps75
  go_wp2_with fail
  generalize w.alloc (.cells #[.int .i64 sl, .bool sn, .bool si, .int .i64 (lk : Int), .slice pa pn pc, .int .i64 ru] 67) = w2 at *
  obtain ⟨g, hg⟩ : ∃ g, Hid (w.heap.size = g) := ⟨_, hide rfl⟩
  rw [hg.out] at HX ⊢
  have c3 : w2.cell? ⟨g, 3, none⟩ = some (.int .i64 (lk : Int)) := HX.at_ rfl
  refine wp_region_free 11 [⟨0, 7, [7], fun vs _ => vs = [.slice (some ⟨bA, 0, none⟩) N N]⟩, ⟨1, 8, [8], fun vs _ => vs = [.int .i64 (at_ : Int)]⟩, ⟨2, 9, [9], fun vs _ => vs = [.pointer (some ⟨g, 3, none⟩)]⟩, ⟨3, 10, [10], fun vs _ => vs = [.int .i64 (lk : Int)]⟩, ⟨4, 11, [11], fun vs _ => vs = [.int .i64 (ak : Int)]⟩, ⟨5, 12, [12], fun vs _ => vs = [.pointer (some ⟨g, 0, none⟩)]⟩, ⟨6, 13, [13], fun vs _ => vs = [sv ⟨sl, sn, si⟩]⟩, ⟨7, 14, [14], fun vs _ => vs = [.int .i64 (nd : Int)]⟩, ⟨8, 15, [15], fun vs _ => vs = [.pointer (some ⟨bA, ak * 8, none⟩)]⟩, ⟨9, 16, [16], fun vs _ => vs = [.pointer (some ⟨bA, ak * 8 + nd, none⟩)]⟩, ⟨10, 17, [17], fun vs _ => vs = [.int .i64 v]⟩] (by kernel_rfl) (by kernel_rfl) ?_ ?_ ?_
  · simp only [All]
    refine ⟨fun _ _ _ _ h => h, fun _ _ _ _ h => h, fun _ _ _ _ h => h, fun _ _ _ _ h => h, fun _ _ _ _ h => h, fun _ _ _ _ h => h, fun _ _ _ _ h => h, fun _ _ _ _ h => h, fun _ _ _ _ h => h, fun _ _ _ _ h => h, fun _ _ _ _ h => h, trivial⟩
  · simp only [All]
    refine ⟨?_, ?_, ?_, ?_, ?_, ?_, ?_, ?_, ?_, ?_, ?_, trivial⟩
    · intro o ho a' w' hb hfr hdep
      obtain rfl := Option.some.inj ho
      have g1 : a'.tmps[1]?.getD undef = .pointer (some ⟨b1, 0, none⟩) := by have h := hfr 1 (by kernel_rfl); simpa using h
      clear ho hfr hdep
      have hcl := cell_below c1 hb
      go_wp2_with fail
      exact ⟨rfl, _, rfl, Below.refl _ _, rfl⟩
    · intro o ho a' w' hb hfr hdep
      obtain rfl := Option.some.inj ho
      have g2 : a'.tmps[2]?.getD undef = .pointer (some ⟨b2, 0, none⟩) := by have h := hfr 2 (by kernel_rfl); simpa using h
      clear ho hfr hdep
      have hcl := cell_below c2 hb
      go_wp2_with fail
      exact ⟨rfl, _, rfl, Below.refl _ _, rfl⟩
    · intro o ho a' w' hb hfr hdep
      obtain rfl := Option.some.inj ho
      have g3 : a'.tmps[3]?.getD undef = .pointer (some ⟨g, 0, none⟩) := by have h := hfr 3 (by kernel_rfl); simpa using h
      clear ho hfr hdep
      go_wp2_with fail
      exact ⟨rfl, _, rfl, Below.refl _ _, rfl⟩
    · intro o ho a' w' hb hfr hdep
      obtain rfl := Option.some.inj ho
      have g9 : a'.tmps[9]?.getD undef = .pointer (some ⟨g, 3, none⟩) := by have h := hdep 2 _ rfl (by kernel_rfl); simpa using h
      clear ho hfr hdep
      have hcl := cell_below c3 hb
      go_wp2_with fail
      exact ⟨rfl, _, rfl, Below.refl _ _, rfl⟩
    · intro o ho a' w' hb hfr hdep
      obtain rfl := Option.some.inj ho
      have g8 : a'.tmps[8]?.getD undef = .int .i64 (at_ : Int) := by have h := hdep 1 _ rfl (by kernel_rfl); simpa using h
      have g10 : a'.tmps[10]?.getD undef = .int .i64 (lk : Int) := by have h := hdep 3 _ rfl (by kernel_rfl); simpa using h
      clear ho hfr hdep
      go_wp2_with fail
      exact ⟨rfl, _, rfl, Below.refl _ _, rfl⟩
    · intro o ho a' w' hb hfr hdep
      obtain rfl := Option.some.inj ho
      have g3 : a'.tmps[3]?.getD undef = .pointer (some ⟨g, 0, none⟩) := by have h := hfr 3 (by kernel_rfl); simpa using h
      clear ho hfr hdep
      go_wp2_with fail
      exact ⟨rfl, _, rfl, Below.refl _ _, rfl⟩
    · intro o ho a' w' hb hfr hdep
      obtain rfl := Option.some.inj ho
      have g12 : a'.tmps[12]?.getD undef = .pointer (some ⟨g, 0, none⟩) := by have h := hdep 5 _ rfl (by kernel_rfl); simpa using h
      clear ho hfr hdep
      refine load_struct 13 63 _ 3 size_state _ Try.underlying63 ⟨g, 0, none⟩ (by show a'.tmps.getD 12 undef = _; simpa using g12) [.int .i64 sl, .bool sn, .bool si] rfl (fun j u hj => by rw [Addr.add_lit, Nat.zero_add]; exact (HX.under hb).at_ (st3_at hj)) ?_
      exact ⟨rfl, _, rfl, Below.refl _ _, rfl⟩
    · intro o ho a' w' hb hfr hdep
      obtain rfl := Option.some.inj ho
      have g13 : a'.tmps[13]?.getD undef = sv ⟨sl, sn, si⟩ := by have h := hdep 6 _ rfl (by kernel_rfl); simpa using h
      clear ho hfr hdep
      go_wp2_with (go_at_call 76; refine (hnum.out _).mono ?_; rintro e w2 ⟨rfl, h2⟩)
      exact ⟨rfl, _, rfl, h2, rfl⟩
    · intro o ho a' w' hb hfr hdep
      obtain rfl := Option.some.inj ho
      have g7 : a'.tmps[7]?.getD undef = .slice (some ⟨bA, 0, none⟩) N N := by have h := hdep 0 _ rfl (by kernel_rfl); simpa using h
      have g11 : a'.tmps[11]?.getD undef = .int .i64 (ak : Int) := by have h := hdep 4 _ rfl (by kernel_rfl); simpa using h
      clear ho hfr hdep
      refine index_knownN 15 90 _ _ 93 Try.underlying90 8 size_row8 bA N N (by show a'.tmps.getD 7 undef = _; simpa using g7) _ _ ak (by show a'.tmps.getD 11 undef = _; simpa using g11) rfl hakN ?_
      exact ⟨rfl, _, rfl, Below.refl _ _, rfl⟩
    · intro o ho a' w' hb hfr hdep
      obtain rfl := Option.some.inj ho
      have g15 : a'.tmps[15]?.getD undef = .pointer (some ⟨bA, ak * 8, none⟩) := by have h := hdep 8 _ rfl (by kernel_rfl); simpa using h
      have g14 : a'.tmps[14]?.getD undef = .int .i64 (nd : Int) := by have h := hdep 7 _ rfl (by kernel_rfl); simpa using h
      clear ho hfr hdep
      refine index_arrp 16 93 _ _ 3 8 Try.underlying93 size_int bA (ak * 8) (by show a'.tmps.getD 15 undef = _; simpa using g15) _ _ nd (by show a'.tmps.getD 14 undef = _; simpa using g14) rfl hnd8 ?_
      exact ⟨rfl, _, rfl, Below.refl _ _, rfl⟩
    · intro o ho a' w' hb hfr hdep
      obtain rfl := Option.some.inj ho
      have g16 : a'.tmps[16]?.getD undef = .pointer (some ⟨bA, ak * 8 + nd, none⟩) := by have h := hdep 9 _ rfl (by kernel_rfl); simpa using h
      clear ho hfr hdep
      have hcl := cell_below cV hb
      go_wp2_with fail
      exact ⟨rfl, _, rfl, Below.refl _ _, rfl⟩
  · intro gg w5 hbl hp'
    have p17 := hp' 10 _ rfl
    clear hp'
    simp at p17
    simp only [List.drop_succ_cons, List.drop_zero, List.map_cons, List.map_nil, putAll, Act.put, List.setIfInBounds_toArray, List.set_cons_succ, List.set_cons_zero, List.cons_append, List.nil_append, p17]
    clear p17
    have c4 : w5.cell? ⟨g, 4, none⟩ = some (.slice pa pn pc) := (HX.under hbl).at_ rfl
    have hb5 := HB2.out.trans (hbl.mono HB2.out.size)
    have hsm : -1 ≤ v + (pn : Int) ∧ v + (pn : Int) ≤ 1001000 := by omega
    clear hnum c1 c2 c3 cV HX
    go_wp2_with fail
    go_ret2
    exact ⟨rfl, hb5⟩

set_option maxRecDepth 100000 in
set_option maxHeartbeats 2000000 in
theorem con_least (f : Stp → Int) (ps : List SH) (L : List Stp) (a : Option Addr) (n c : Nat) (b1 b2 : Nat) (w : World) (hS : Stl w a n c ps L) (hn : n ≤ 1000000)
    (hf : ∀ p ∈ ps, ∀ w', Below w.heap.size w w' → Calls Try.prog 75 #[spv p, .pointer (some ⟨b1, 0, none⟩), .pointer (some ⟨b2, 0, none⟩)] w' fun e w2 => e = .returned (.tuple #[.int .i64 (f p.1 + p.1.cells.length), .bool (decide (0 ≤ f p.1))]) ∧ Below w'.heap.size w' w2) :
    Calls Try.prog 52 #[.slice a n c, RCH b1 b2] w fun e w' => e = .returned (.tuple #[.int .i64 (leastF f L).1, .int .i64 (leastF f L).2]) ∧ Below w.heap.size w w' := by
  have hpl : n = ps.length := hS.top.nf stc_len (by decide)
  have HPL := hide hpl
  have HL := hide hS.eq
  have HS := hide hS
  have HF := hide hf
  clear hpl hS hf
  unfold RCH
  go_enter Try.func52, Try.ntmps52
  go_wp2_with fail
  go_loopg [6, 7, 14] n (fun gh va vb v w' => ∃ k : Nat, k ≤ n ∧ gh = n - k ∧ va = .int .i64 (leastF f (L.take k)).1 ∧ vb = .int .i64 (leastF f (L.take k)).2 ∧ v = .int .i64 (k : Int) ∧ Below w.heap.size w w')
  case atStart => exact ⟨0, by omega, by omega, rfl, rfl, rfl, Below.refl _ _⟩
  case round =>
    obtain ⟨k, hk, hg, rfl, rfl, rfl, hb⟩ := hrel
    have HG := hide hg
    clear hg
    by_cases hkl : k < n
    · obtain ⟨p, hp⟩ : ∃ p, ps[k]? = some p := ⟨_, List.getElem?_eq_getElem (by have := HPL.out; omega)⟩
      have hLk : L[k]? = some p.1 := by rw [← HL.out, List.getElem?_map, hp]; rfl
      have HT := hide (leastF_take (f := f) hLk)
      obtain ⟨pa, pb, hpab⟩ : ∃ pa pb, leastF f (L.take k) = (pa, pb) := ⟨_, _, rfl⟩
      rw [hpab] at HT ⊢
      have hSr := HS.out.below hb
      obtain ⟨b1', o1, hab, hb1, x0, x1, x2, x3, x4, x5⟩ := st_cells hSr hp
      subst hab
      have HP := hide (List.mem_of_getElem? hp)
      clear hp hSr hLk hpab
      obtain ⟨⟨⟨sl, sn, si⟩, ln, cs, ru⟩, ⟨qa, qn, qc⟩⟩ := p
      simp only at x0 x1 x2 x3 x4 x5 HT
      have hcf := HF.out _ HP.out
      unfold spv stc hdv at hcf
      simp only at hcf
      obtain ⟨fv, hfv⟩ : ∃ fv, Hid (f ⟨⟨sl, sn, si⟩, ln, cs, ru⟩ = fv) := ⟨_, hide rfl⟩
      unfold lstep8 at HT
      simp only at HT
      rw [hfv.out] at HT hcf
      obtain ⟨nc, hnc⟩ : ∃ nc : Nat, Hid (cs.length = nc) := ⟨_, hide rfl⟩
      rw [hnc.out] at HT hcf
      have hldc : ∀ j u, ([.int .i64 sl, .bool sn, .bool si, .int .i64 ln, .slice qa qn qc, .int .i64 ru] : List Value)[j]? = some u → wr.cell? ((⟨b1', o1 + k * 6, none⟩ : Addr).add j) = some u := fun j u hj => by
        rw [Addr.add_lit]
        match j, hj with
        | 0, hj => cases hj; exact x0
        | 1, hj => cases hj; exact x1
        | 2, hj => cases hj; exact x2
        | 3, hj => cases hj; exact x3
        | 4, hj => cases hj; exact x4
        | 5, hj => cases hj; exact x5
        | j + 6, hj => cases hj
      have HLD := hide hldc
      clear hldc x0 x1 x2 x3 x4 x5
      have d1 : decide ((k : Int) < (n : Int)) = true := decide_eq_true (by omega)
      have hbA := hb.trans ((blo wr (.cells #[.int .i64 sl, .bool sn, .bool si, .int .i64 ln, .slice qa qn qc, .int .i64 ru] 67)).mono hb.size)
      by_cases h0 : 0 ≤ fv
      · have d2 : decide (0 ≤ fv) = true := decide_eq_true h0
        rw [d2] at hcf
        by_cases h1 : pa < 0
        · have d3 : decide (pa < 0) = true := decide_eq_true h1
          have HT2 := hide (HT.out.trans (if_pos ⟨h0, .inl h1⟩))
          go_wp2_with (first
            | (with_reducible refine load_struct 18 67 _ 6 size_stp6 _ Try.underlying67 ⟨b1', o1 + k * 6, none⟩ rfl [.int .i64 sl, .bool sn, .bool si, .int .i64 ln, .slice qa qn qc, .int .i64 ru] rfl HLD.out ?_)
            | (refine (hcf _ hbA).mono ?_; rintro e w2 ⟨rfl, hb2⟩))
          have hb3 := hbA.trans (hb2.mono hbA.size)
          go_roundg (n - (k + 1))
          case measure => have := HG.out; omega
          case rel => exact ⟨k + 1, by omega, rfl, by rw [HT2.out], by rw [HT2.out], by go_num, hb3⟩
        · have d3 : decide (pa < 0) = false := decide_eq_false h1
          by_cases h2 : fv + (nc : Int) < pb
          · have d4 : decide (fv + (nc : Int) < pb) = true := decide_eq_true h2
            have HT2 := hide (HT.out.trans (if_pos ⟨h0, .inr h2⟩))
            go_wp2_with (first
              | (with_reducible refine load_struct 18 67 _ 6 size_stp6 _ Try.underlying67 ⟨b1', o1 + k * 6, none⟩ rfl [.int .i64 sl, .bool sn, .bool si, .int .i64 ln, .slice qa qn qc, .int .i64 ru] rfl HLD.out ?_)
              | (refine (hcf _ hbA).mono ?_; rintro e w2 ⟨rfl, hb2⟩))
            have hb3 := hbA.trans (hb2.mono hbA.size)
            go_roundg (n - (k + 1))
            case measure => have := HG.out; omega
            case rel => exact ⟨k + 1, by omega, rfl, by rw [HT2.out], by rw [HT2.out], by go_num, hb3⟩
          · have d4 : decide (fv + (nc : Int) < pb) = false := decide_eq_false h2
            have HT2 := hide (HT.out.trans (if_neg (fun q => by rcases q.2 with q | q; exact h1 q; exact h2 q)))
            go_wp2_with (first
              | (with_reducible refine load_struct 18 67 _ 6 size_stp6 _ Try.underlying67 ⟨b1', o1 + k * 6, none⟩ rfl [.int .i64 sl, .bool sn, .bool si, .int .i64 ln, .slice qa qn qc, .int .i64 ru] rfl HLD.out ?_)
              | (refine (hcf _ hbA).mono ?_; rintro e w2 ⟨rfl, hb2⟩))
            have hb3 := hbA.trans (hb2.mono hbA.size)
            go_roundg (n - (k + 1))
            case measure => have := HG.out; omega
            case rel => exact ⟨k + 1, by omega, rfl, by rw [HT2.out], by rw [HT2.out], by go_num, hb3⟩
      · have d2 : decide (0 ≤ fv) = false := decide_eq_false h0
        have HT2 := hide (HT.out.trans (if_neg (fun q => h0 q.1)))
        rw [d2] at hcf
        go_wp2_with (first
          | (with_reducible refine load_struct 18 67 _ 6 size_stp6 _ Try.underlying67 ⟨b1', o1 + k * 6, none⟩ rfl [.int .i64 sl, .bool sn, .bool si, .int .i64 ln, .slice qa qn qc, .int .i64 ru] rfl HLD.out ?_)
          | (refine (hcf _ hbA).mono ?_; rintro e w2 ⟨rfl, hb2⟩))
        have hb3 := hbA.trans (hb2.mono hbA.size)
        go_roundg (n - (k + 1))
        case measure => have := HG.out; omega
        case rel => exact ⟨k + 1, by omega, rfl, by rw [HT2.out], by rw [HT2.out], by go_num, hb3⟩
    · obtain rfl : k = n := by omega
      have e : L.take k = L := by rw [List.take_of_length_le]; have := HPL.out; have := HL.out; rw [← this, List.length_map]; omega
      rw [e]
      go_wp2_with fail
      go_ret2
      exact ⟨rfl, hb⟩
theorem con_reach (a : Value) (at_ : Nat) (N : Nat) (bA : Nat) (w : World) (ha : a = .slice (some ⟨bA, 0, none⟩) N N) :
    Calls Try.prog 54 #[a, .int .i64 (at_ : Int)] w fun e w' => ∃ b1 b2, e = .returned (RCH b1 b2) ∧ Box w' b1 90 [a] ∧ Box w' b2 3 [.int .i64 (at_ : Int)] ∧ Below w.heap.size w w' := by
  subst ha
  have X1 := (Box.new w 90 #[.slice (some ⟨bA, 0, none⟩) N N]).alloc (.cells #[.int .i64 (at_ : Int)] 3)
  have X2 := Box.new (w.alloc (.cells #[.slice (some ⟨bA, 0, none⟩) N N] 90)) 3 #[.int .i64 (at_ : Int)]
  have hs : (w.alloc (.cells #[.slice (some ⟨bA, 0, none⟩) N N] 90)).heap.size = w.heap.size + 1 := by simp
  rw [hs] at X2
  have hb := (blo w (.cells #[.slice (some ⟨bA, 0, none⟩) N N] 90)).trans ((blo (w.alloc (.cells #[.slice (some ⟨bA, 0, none⟩) N N] 90)) (.cells #[.int .i64 (at_ : Int)] 3)).mono (by rw [hs]; omega))
  clear hs
  go_enter Try.func54, Try.ntmps54
  go_wp2_with fail
  go_ret
  exact ⟨_, _, rfl, X1, X2, hb⟩
end Go.Proofs.Ytlpkicjijlcbfaa
end

/- the text Al -/
section
/- Boxes just made, strings cut and joined, stops for the walk. No program in sight but the seat's types. -/
set_option linter.unusedVariables false
namespace Go.Al
open Go.RowKit Go.Dx
section
variable {P : Program} {w : World} {ops : Array Oper} {rest : List Oper} {act : Act} {Q : Exit → Act → World → Prop} {ty : TypeId} {pos : String} {after : Array Edge}
end
theorem hold_store {P : Program} {w : World} {ops : Array Oper} {rest : List Oper} {act : Act} {Q : Exit → Act → World → Prop} {dst : Option Tmp} {t ty : TypeId} {x y : Operand} {pos : String} {after : Array Edge} {g : Option (Nat × Bool)}
    (h : Hid (wpList P ops Q ({ dst := dst, op := .store t x y, type := ty, pos := pos, after := after, guard := g } :: rest) act w)) : wpList P ops Q ({ dst := dst, op := .store t x y, type := ty, pos := pos, after := after, guard := g } :: rest) act w := h
section
variable {P : Program} {w : World} {ops : Array Oper} {rest : List Oper} {act : Act} {Q : Exit → Act → World → Prop} {ty : TypeId} {pos : String} {after : Array Edge}
end
end Go.Al
end

/- the text D12 -/
section
/- Chapter 08: the program's numbers. -/
set_option linter.unusedVariables false
namespace Go.Dx
theorem minus_step {r : List Int} {k : Nat} (hr : r.length = 8) (hk : k < 8) : (List.replicate k (-1) ++ r.drop k).set k (-1) = List.replicate (k + 1) (-1) ++ r.drop (k + 1) := by
  have h1 : r.drop k = r[k]'(by omega) :: r.drop (k + 1) := List.drop_eq_getElem_cons (by omega)
  rw [h1, List.set_append_right _ _ (by simp), List.length_replicate, Nat.sub_self, List.set_cons_zero, List.replicate_succ', List.append_assoc]
  rfl
theorem minus_len {r : List Int} {k : Nat} (hr : r.length = 8) (hk : k ≤ 8) : (List.replicate k (-1) ++ r.drop k).length = 8 := by simp; omega
def stgT (t : Ta) (l : List Sy) (j : Nat) (g : Int) (A : Nums) : Nat → Nums
  | 0 => A
  | τ + 1 => turnU t l j g τ 8 (stgT t l j g A τ)
theorem list_last {α : Type} {P : List α} {j : Nat} (h : P.length = j + 1) : ∃ Q x, P = Q ++ [x] ∧ Q.length = j := by
  refine ⟨P.dropLast, P.getLast (by intro e; rw [e] at h; simp at h), (List.dropLast_concat_getLast _).symm, by rw [List.length_dropLast]; omega⟩
theorem cell_upd {t : Ta} {l : List Sy} {j k : Nat} {A : Nums} (h : R8 A) {r : List Int} (hr : A[j]? = some r) (v : Int) (hv : v = (leastF (lookA A j) (stepsL t (stN k) l j)).2) : A.set j (r.set k v) = cellU t l j k A := by
  unfold cellU
  rw [List.getD_eq_getElem?_getD, hr, hv]
  rfl
end Go.Dx
namespace Go.Proofs.Ytlpkicjijlcbfaa
open Go.RowKit Go.Dx Go.Al
def row0 : Value := .agg #[.int .i64 0, .int .i64 0, .int .i64 0, .int .i64 0, .int .i64 0, .int .i64 0, .int .i64 0, .int .i64 0]
theorem info_row8 : (Try.prog.info? 93).map (fun i => (i.zero, i.size, i.bytes)) = some (some row0, 8, 64) := by kernel_rfl
theorem row0_at : ∀ i, i < row0.cells.size → row0.cells[i]? = some (.int .i64 0) := by
  intro i hi
  have h : i = 0 ∨ i = 1 ∨ i = 2 ∨ i = 3 ∨ i = 4 ∨ i = 5 ∨ i = 6 ∨ i = 7 := by have : i < 8 := hi; omega
  rcases h with rfl | rfl | rfl | rfl | rfl | rfl | rfl | rfl <;> rfl
theorem sv_cells (s : St) : (sv s).cells = (scells s).toArray := rfl
theorem scells_one (s : St) : ∀ u ∈ scells s, u.oneCell' = true := by simp [scells, Value.oneCell']
def RcF (bA at_ : Nat) (A : Nums) (vs : List Value) (w : World) : Prop := ∃ b1 b2, vs = [RCH b1 b2] ∧ RBx w b1 b2 bA at_ A
theorem RcF.below {bA at_ : Nat} {A : Nums} {vs : List Value} {w w' : World} (h : RcF bA at_ A vs w) (hb : Below w.heap.size w w') : RcF bA at_ A vs w' := by obtain ⟨b1, b2, h1, h2⟩ := h; exact ⟨b1, b2, h1, h2.below hb⟩
theorem stl_hdr {w : World} {a : Option Addr} {n c : Nat} {ps : List SH} {L : List Stp} (h : Stl w a n c ps L) : ∀ p ∈ ps, p.2.2.1 = p.1.cells.length := fun p hp => (h.row p hp).n_eq
theorem stl_mem {w : World} {a : Option Addr} {n c : Nat} {ps : List SH} {L : List Stp} (h : Stl w a n c ps L) : ∀ p ∈ ps, p.1 ∈ L := fun p hp => by rw [← h.eq]; exact List.mem_map_of_mem hp
def PtL (v : Value) (vs : List Value) (w' : World) : Prop := ∃ b o, vs = [.pointer (some ⟨b, o, none⟩)] ∧ w'.cell? ⟨b, o, none⟩ = some v
theorem cell_blw8 {w w' : World} {p : Addr} {u : Value} (h : w.cell? p = some u) (hb : Below w.heap.size w w') : w'.cell? p = some u := by rw [hb.cell (World.block_lt_of_cell? w _ h)]; exact h
theorem steps_few {t : Ta} (ht : validE t = 0) (s : St) (l : List Sy) (i : Int) : (stepsL t s l i).length ≤ 1000000 := by
  have hp := valid_parts ht
  have hlen : ∀ (rs : List Ru) (x : Sy) (k i : Nat), (ruleSteps t s x l i k rs).length ≤ rs.length := fun rs => by
    induction rs with
    | nil => intro x k i; exact Nat.le_refl _
    | cons r rs ih =>
      intro x k i
      simp only [ruleSteps, List.length_append, List.length_cons]
      have := ih x (k + 1) i
      split <;> simp <;> omega
  unfold stepsL
  split
  · split
    · simp
    · rename_i y _
      unfold nextL
      split
      · simp
      · split
        · simp
        · have := hlen (langOf t y.lang) y 0 i.toNat
          have h2 : (langOf t y.lang).length ≤ 96 := by unfold langOf; split; exact hp.1; exact hp.2.1
          omega
  · simp
set_option maxRecDepth 100000 in
set_option maxHeartbeats 16000000 in
theorem con_numbers (H : TH) (t : Ta) (l : List Sy) (a : Option Addr) (n c : Nat) (w : World) (hT : TaIs w H t) (hs : Sl w 2 a n c (l.flatMap sc)) (hv : validE t = 0) (hg : goodS l = true) (h2048 : l.length ≤ 2048) :
    Calls Try.prog 39 #[H.v, .slice a n c] w fun e w' => ∃ bA, e = .returned (.slice (some ⟨bA, 0, none⟩) (n + 1) (n + 1)) ∧ Box w' bA 93 ((numT t l).flatMap rowc) ∧ w.heap.size ≤ bA ∧ Below w.heap.size w w' := by
  have hnl : Hid (n = l.length) := hide (hs.nf sc_len (by decide))
  have hn2 : n ≤ 2048 := by rw [hnl.out]; exact h2048
  have h2048' := h2048
  have HV := hide hv
  have HG := hide hg
  obtain ⟨N, hN⟩ : ∃ N, Hid (n + 1 = N) := ⟨_, hide rfl⟩
  have hNI : (n : Int) + 1 = (N : Int) := by have := hN.out; omega
  have hNn : Hid (N = l.length + 1) := hide (by rw [← hN.out, hnl.out])
  have hN6 : N ≤ 2049 := by have := hN.out; omega
  rw [hN.out]
  clear hv hg h2048
  have hSa := fun (w' : World) (hb : Below w.heap.size w w') => hs.below hb
  have HS0 := hide hs
  have HSa := hide hSa
  have Hm := hide hT
  clear hT hs hSa
  obtain ⟨⟨a0, n0, c0⟩, ⟨a1, n1, c1⟩, ps0, ps1, ⟨ad, nd, cd⟩, ⟨ac, nc, cc⟩, ⟨an, nn, cn⟩, ⟨af, nf, cf⟩, ⟨aw, nw, cw⟩⟩ := H
  unfold TH.v
  simp only [hdv]
  have Y1 := Box.new w 29 #[.slice a0 n0 c0, .slice a1 n1 c1, .slice ad nd cd, .slice ac nc cc, .slice an nn cn, .slice af nf cf, .slice aw nw cw]
  have hba := blo w (.cells #[.slice a0 n0 c0, .slice a1 n1 c1, .slice ad nd cd, .slice ac nc cc, .slice an nn cn, .slice af nf cf, .slice aw nw cw] 29)
  have hsz0 : Hid ((w.alloc (.cells #[.slice a0 n0 c0, .slice a1 n1 c1, .slice ad nd cd, .slice ac nc cc, .slice an nn cn, .slice af nf cf, .slice aw nw cw] 29)).heap.size = w.heap.size + 1) := hide (by simp)
  go_enter Try.func39, Try.ntmps39
  go_wp2_with (first
    | (with_reducible refine make_wide 14 90 _ _ 93 row0 (.int .i64 0) 8 64 Try.underlying90 info_row8 rfl (by decide) row0_at .i64 .i64 _ _ N rfl rfl rfl rfl (by omega) (by omega) ?_; intro w1 HA1 hb1; refine hold ?_))
  refine hide ?_
  generalize w.alloc (.cells _ 29) = wa at *
  obtain ⟨H, hH⟩ : ∃ H : TH, H = ⟨(a0, n0, c0), (a1, n1, c1), ps0, ps1, (ad, nd, cd), (ac, nc, cc), (an, nn, cn), (af, nf, cf), (aw, nw, cw)⟩ := ⟨_, rfl⟩
  have HXa : Box wa w.heap.size 29 (tcells H) := by rw [hH]; exact Y1
  have HTa : TaIs wa H t := by rw [hH]; exact Hm.out.below hba
  have HT0 : Hid (TaIs w H t) := hide (by rw [hH]; exact Hm.out)
  have HSl0 := HSa.out wa hba
  clear hH Hm Y1 HSa
  obtain ⟨gT, hgT⟩ : ∃ gT, Hid (w.heap.size = gT) := ⟨_, hide rfl⟩
  rw [hgT.out] at HXa ⊢
  obtain ⟨bA, hbA⟩ : ∃ bA, Hid (gT + 1 = bA) := ⟨_, hide rfl⟩
  rw [hsz0.out, hgT.out, hbA.out] at HA1
  rw [hbA.out]
  have hbA1 : bA ≤ w1.heap.size := Nat.le_of_lt HA1.lt
  have hbA0 : Hid (w.heap.size ≤ bA) := hide (by rw [← hbA.out, ← hgT.out]; omega)
  have HB01 := hide (hba.trans (hb1.mono hba.size))
  have HXT1 := HXa.under hb1
  have hgA : some gT ≠ some bA := fun e => by injection e with e; have := hbA.out; omega
  clear HXa HTa HSl0 hba hb1 hsz0
  go_wp2_with fail
  go_loopg [6] n (fun gh v w' => ∃ (i : Nat) (P : Nums), i ≤ n ∧ i = gh ∧ v = .int .i64 ((i : Int) - 1) ∧ P.length = i ∧ R8 P ∧ BdN P 1000000 ∧ Box w' bA 93 ((P ++ sufT t l (n - i)).flatMap rowc) ∧ Box w' gT 29 (tcells H) ∧ Below w.heap.size w w')
  case atStart =>
    refine ⟨n, List.replicate n zeros, Nat.le_refl _, rfl, rfl, by simp, fun r hr => ?_, fun r hr v hv => ?_, ?_, HXT1, HB01.out⟩
    · rw [List.eq_of_mem_replicate hr]; rfl
    · rw [List.eq_of_mem_replicate hr] at hv
      simp [zeros] at hv
      omega
    · rw [Nat.sub_self]
      have e : (List.replicate n zeros ++ sufT t l 0).flatMap rowc = List.replicate (N * 8) (.int .i64 0) := by
        have h1 : List.replicate n zeros ++ sufT t l 0 = List.replicate (n + 1) zeros := by rw [List.replicate_succ']; rfl
        rw [h1, nf_zero, hN.out]
      rw [e]
      exact HA1
  case round =>
    clear HA1 HXT1
    obtain ⟨i, P, hi, rfl, rfl, hPi, hP8, hPb, hBA, hXT, hbw⟩ := hrel
    cases i with
    | zero =>
      have hP0 : P = [] := List.length_eq_zero_iff.1 hPi
      subst hP0
      have e : sufT t l (n - 0) = numT t l := by unfold numT; rw [Nat.sub_zero, hnl.out]
      rw [List.nil_append, e] at hBA
      go_wp2_with fail
      go_ret
      exact ⟨bA, rfl, hBA, hbA0.out, hbw⟩
    | succ j =>
      obtain ⟨Q, r0, rfl, hQj⟩ := list_last hPi
      have hjn : j < n := by omega
      have hji : ((j + 1 : Nat) : Int) - 1 = (j : Int) := by omega
      rw [hji]
      have hr0 : r0.length = 8 := hP8 r0 (by simp)
      have hQ8 : R8 Q := fun q hq => hP8 q (by simp [hq])
      have hQb : BdN Q 1000000 := fun q hq => hPb q (by simp [hq])
      obtain ⟨P, rfl⟩ : ∃ P', P' = Q := ⟨_, rfl⟩
      obtain ⟨R, hR⟩ : ∃ R, Hid (sufT t l (n - (j + 1)) = R) := ⟨_, hide rfl⟩
      rw [hR.out, List.append_assoc] at hBA
      obtain ⟨⟨xl, xc⟩, HX⟩ : ∃ x, Hid (l[j]? = some x) := ⟨l[j]'(by rw [← hnl.out]; exact hjn), hide (by simp)⟩
      obtain ⟨g, hg⟩ : ∃ g, Hid (langAt l j = g) := ⟨_, hide rfl⟩
      have hxg : Hid (xl = g) := hide (by rw [← hg.out, langAt_eq HX.out])
      obtain ⟨A0, hA0⟩ : ∃ A0, Hid (P ++ minus :: R = A0) := ⟨_, hide rfl⟩
      have hPj : P.length = j := hQj
      have hR' : R = sufT t l (l.length - (P.length + 1)) := by rw [← hR.out, hPj, hnl.out]
      have hR0 : Hid (∀ k, k ≤ 8 → RdT l (turnU t l j g 0 k A0)) := hide (fun k hk => by
        have := turn0_ok HV.out HG.out h2048' (P := P) (R := R) (by rw [hPj, ← hnl.out]; exact hjn) hQ8 hQb hR' k hk
        rw [hPj, hg.out, hA0.out] at this
        exact this)
      have hR1 : Hid (∀ k, k ≤ 8 → RdT l (turnU t l j g 1 k (turnU t l j g 0 8 A0))) := hide (fun k hk => by
        have := turn1_ok HV.out HG.out h2048' (P := P) (R := R) (by rw [hPj, ← hnl.out]; exact hjn) hQ8 hQb hR' k hk
        rw [hPj, hg.out, hA0.out] at this
        exact this)
      have hsuf : Hid (P ++ sufT t l (n - j) = stgT t l j g A0 2) := hide (by
        have h1 := place_row (here_at HV.out HG.out (i := P.length) (by rw [hPj, ← hnl.out]; exact hjn)) R
        rw [hPj, hg.out, hA0.out] at h1
        show _ = turnU t l j g 1 8 (turnU t l j g 0 8 A0)
        rw [h1, show n - j = (n - (j + 1)) + 1 by omega]
        simp only [sufT]
        rw [hR.out, show l.length - (n - (j + 1) + 1) = j by rw [← hnl.out]; omega, hg.out])
      have hRl : Hid ((P ++ minus :: R).length = N) := hide (by have := (hR0.out 0 (by omega)).len; simp only [turnU] at this; rw [hA0.out, this]; exact hNn.out.symm)
      have hR8 : Hid (R8 R) := hide (by rw [hR']; exact sufT_rows t l _)
      have hjN : j < N := by have := hNn.out; rw [this, ← hnl.out]; omega
      clear hR' hP8 hPb hPi
      go_wp2_with fail
      go_loopg [22] 8 (fun gh v w' => ∃ k : Nat, k ≤ 8 ∧ gh = 8 - k ∧ v = .int .i64 (k : Int) ∧ Box w' bA 93 ((P ++ (List.replicate k (-1) ++ r0.drop k) :: R).flatMap rowc) ∧ Box w' gT 29 (tcells H) ∧ Below w.heap.size w w')
      case atStart => exact ⟨0, by omega, rfl, rfl, hBA, hXT, hbw⟩
      case round =>
        clear hBA hXT hbw
        obtain ⟨k, hk, rfl, rfl, hBA, hXT, hbw⟩ := hrel
        by_cases hk8 : k < 8
        · have hm8 : Hid (R8 (P ++ (List.replicate k (-1) ++ r0.drop k) :: R)) := hide (r8_mid hQ8 (minus_len hr0 hk) hR8.out)
          have hml : Hid ((P ++ (List.replicate k (-1) ++ r0.drop k) :: R).length = N) := hide (by have := hRl.out; rw [List.length_append, List.length_cons] at this ⊢; exact this)
          go_wp2_with (first
            | (with_reducible refine index_knownN 28 90 _ _ 93 Try.underlying90 8 size_row8 bA N N rfl _ _ j rfl rfl hjN ?_)
            | (with_reducible refine index_arrp 29 93 _ _ 3 8 Try.underlying93 size_int bA (j * 8) rfl _ _ k rfl rfl hk8 ?_)
            | (with_reducible refine hold_store ?_))
          refine hide ?_
          refine store_cell 3 _ _ 93 bA (j * 8 + k) _ (.int .i64 (-1)) size_int hBA rfl rfl rfl rfl (by rw [nf_len _ hm8.out, hml.out]; omega) ?_; intro w6 HB6 gb6 zb6
          have h6 : Hid (Box w6 bA 93 ((P ++ (List.replicate (k + 1) (-1) ++ r0.drop (k + 1)) :: R).flatMap rowc)) := hide (by
            have e := nf_set _ hm8.out (i := j) (r := List.replicate k (-1) ++ r0.drop k) (by rw [← hPj, List.getElem?_append_right (Nat.le_refl _), Nat.sub_self]; rfl) hk8 (-1)
            have h7 : Box w6 bA 93 (((P ++ (List.replicate k (-1) ++ r0.drop k) :: R).flatMap rowc).set (j * 8 + k) (I64 (-1))) := HB6
            rw [e, ← hPj, set_mid, minus_step hr0 hk8] at h7
            exact h7)
          have hb6 := hbw.grown gb6 hbw.size (fun q hq => by cases hq; exact hbA0.out)
          have hX6 := hXT.grown gb6 hgA
          clear HB6 gb6 zb6 hBA hm8 hml
          go_wp2_with fail
          go_roundg (8 - (k + 1))
          case measure => omega
          case rel => exact ⟨k + 1, by omega, rfl, by go_num, h6.out, hX6, hb6⟩
        · obtain rfl : k = 8 := by omega
          have hBA0 : Hid (Box wr bA 93 (A0.flatMap rowc)) := hide (by
            have e : List.replicate 8 (-1) ++ r0.drop 8 = minus := by rw [List.drop_of_length_le (by omega), List.append_nil]; rfl
            rw [e, hA0.out] at hBA
            exact hBA)
          clear hBA
          go_wp2_with fail
          go_loopg [31] 2 (fun gh v w' => ∃ τ : Nat, τ ≤ 2 ∧ gh = 2 - τ ∧ v = .int .i64 (τ : Int) ∧ Box w' bA 93 ((stgT t l j g A0 τ).flatMap rowc) ∧ Box w' gT 29 (tcells H) ∧ Below w.heap.size w w')
          case atStart => exact ⟨0, by omega, rfl, rfl, hBA0.out, hXT, hbw⟩
          case round =>
            clear hBA0 hXT hbw
            obtain ⟨τ, hτ, rfl, rfl, hBA, hXT, hbw⟩ := hrel
            by_cases hτ2 : τ < 2
            · have hRdA : Hid (∀ k, k ≤ 8 → RdT l (turnU t l j g τ k (stgT t l j g A0 τ))) := hide (by
                have h3 : τ = 0 ∨ τ = 1 := by omega
                rcases h3 with rfl | rfl
                · intro k hk
                  exact hR0.out k hk
                · intro k hk
                  exact hR1.out k hk)
              have dτ : decide ((τ : Int) < 2) = true := decide_eq_true (by omega)
              have dτ' : decide (τ < 2) = true := decide_eq_true hτ2
              go_wp2_with fail
              go_loopg [34] 8 (fun gh v w' => ∃ k : Nat, k ≤ 8 ∧ gh = 8 - k ∧ v = .int .i64 (k : Int) ∧ Box w' bA 93 ((turnU t l j g τ k (stgT t l j g A0 τ)).flatMap rowc) ∧ Box w' gT 29 (tcells H) ∧ Below w.heap.size w w')
              case atStart => exact ⟨0, by omega, rfl, rfl, hBA, hXT, hbw⟩
              case round =>
                clear hBA hXT hbw
                obtain ⟨k, hk, rfl, rfl, hBA, hXT, hbw⟩ := hrel
                by_cases hk8 : k < 8
                · obtain ⟨A, hAe⟩ : ∃ A, Hid (turnU t l j g τ k (stgT t l j g A0 τ) = A) := ⟨_, hide rfl⟩
                  rw [hAe.out] at hBA
                  have hRd := hide (hRdA.out k (by omega))
                  rw [hAe.out] at hRd
                  have hAN : Hid (A.length = N) := hide (by rw [hRd.out.len]; exact hNn.out.symm)
                  obtain ⟨r, hr⟩ : ∃ r, Hid (A[j]? = some r) := ⟨A[j]'(by rw [hAN.out]; omega), hide (by simp)⟩
                  have hrow := hr
                  obtain ⟨S, hS⟩ : ∃ S, Hid (stN k = S) := ⟨_, hide rfl⟩
                  have hsta := hide (con_state k hk8 wr)
                  rw [hS.out] at hsta
                  go_wp2_with (go_at_call 53; refine hsta.out.mono ?_; rintro e w2 ⟨rfl, hb2⟩; refine hold ?_)
                  refine hide ?_
                  have hbw2 := hbw.trans (hb2.mono hbw.size)
                  go_wp2_with (with_reducible refine store_fresh 63 63 _ _ 3 size_state _ rfl (sv S) (scells S) rfl (sv_cells S) rfl rfl (scells_one S) ?_; refine hold ?_)
                  refine hide ?_
                  have HSB := Box.new w2 63 (scells S).toArray
                  have hbS := blo w2 (.cells (scells S).toArray 63)
                  have hbw3 := hbw2.trans (hbS.mono hbw2.size)
                  have HBA := (hBA.under hb2).under hbS
                  generalize w2.alloc (.cells (scells S).toArray 63) = w3 at *
                  obtain ⟨gS, hgS⟩ : ∃ gS, Hid (w2.heap.size = gS) := ⟨_, hide rfl⟩
                  rw [hgS.out] at HSB ⊢
                  have HXT := (hXT.under hb2).under hbS
                  have HTT := HT0.out.below hbw3
                  have HSl := HS0.out.below hbw3
                  have HSB : Box w3 gS 63 (scells S) := HSB
                  clear hbS hb2 hBA hXT hbw2 hsta
                  obtain ⟨sl, hsl⟩ : ∃ sl, S.lang = sl := ⟨_, rfl⟩
                  have HSB0 : Hid (scells S = [.int .i64 sl, .bool S.num, .bool S.wrd]) := hide (by unfold scells; rw [hsl])
                  obtain ⟨B1, hB1⟩ : ∃ B1, (sl == xl) = B1 := ⟨_, rfl⟩
                  obtain ⟨B2, hB2⟩ : ∃ B2, ((τ : Int) == 0) = B2 := ⟨_, rfl⟩
                  obtain ⟨BB, hBB⟩ : ∃ BB, (B1 == B2) = BB := ⟨_, rfl⟩
                  have hcond : Hid ((decide ((stN k).lang = g) == decide (τ = 0)) = BB) := hide (by
                    rw [← hBB, ← hB1, ← hB2, ← hsl, hS.out, ← hxg.out]
                    have e1 : (S.lang == xl) = decide (S.lang = xl) := by by_cases h : S.lang = xl <;> simp [h]
                    have e2 : ((τ : Int) == 0) = decide (τ = 0) := by by_cases h : τ = 0 <;> simp [h]
                    rw [e1, e2])
                  clear hsl
                  go_wp2_with fail
                  refine wp_region_free 10 [⟨0, 39, [39], fun vs _ => vs = [.pointer (some ⟨gS, 0, none⟩)]⟩, ⟨1, 40, [40], fun vs _ => vs = [.int .i64 sl]⟩, ⟨2, 41, [41], fun vs _ => vs = [.slice a n c]⟩, ⟨3, 42, [42], fun vs _ => vs = [.int .i64 (j : Int)]⟩, ⟨4, 43, [43], PtL (.int .i64 xl)⟩, ⟨5, 44, [44], PtL (.int .i64 xl)⟩, ⟨6, 45, [45], fun vs _ => vs = [.int .i64 xl]⟩, ⟨7, 46, [46], fun vs _ => vs = [.bool B1]⟩, ⟨8, 47, [47], fun vs _ => vs = [.int .i64 (τ : Int)]⟩, ⟨9, 48, [48], fun vs _ => vs = [.bool B2]⟩] (by kernel_rfl) (by kernel_rfl) ?_ ?_ ?_
                  · simp only [All]
                    refine ⟨fun _ _ _ _ h => h, fun _ _ _ _ h => h, fun _ _ _ _ h => h, fun _ _ _ _ h => h, ?_, ?_, fun _ _ _ _ h => h, fun _ _ _ _ h => h, fun _ _ _ _ h => h, fun _ _ _ _ h => h, trivial⟩
                    · rintro vs w1 w2 hb ⟨b, o, h1, h2⟩
                      exact ⟨b, o, h1, cell_blw8 h2 hb⟩
                    · rintro vs w1 w2 hb ⟨b, o, h1, h2⟩
                      exact ⟨b, o, h1, cell_blw8 h2 hb⟩
                  · simp only [All]
                    refine ⟨?_, ?_, ?_, ?_, ?_, ?_, ?_, ?_, ?_, ?_, trivial⟩
                    · intro o ho a' w' hb hfr hdep
                      obtain rfl := Option.some.inj ho
                      have g10 : a'.tmps[10]?.getD undef = .pointer (some ⟨gS, 0, none⟩) := by have h := hfr 10 (by kernel_rfl); simpa using h
                      clear ho hfr hdep
                      go_wp2_with fail
                      exact ⟨rfl, _, rfl, Below.refl _ _, rfl⟩
                    · intro o ho a' w' hb hfr hdep
                      obtain rfl := Option.some.inj ho
                      have g39 : a'.tmps[39]?.getD undef = .pointer (some ⟨gS, 0, none⟩) := by have h := hdep 0 _ rfl (by kernel_rfl); simpa using h
                      clear ho hfr hdep
                      have hcl : w'.cell? ⟨gS, 0, none⟩ = some (.int .i64 sl) := by have h := HSB.under hb; rw [HSB0.out] at h; exact h.at_ rfl
                      go_wp2_with fail
                      exact ⟨rfl, _, rfl, Below.refl _ _, rfl⟩
                    · intro o ho a' w' hb hfr hdep
                      obtain rfl := Option.some.inj ho
                      have g1 : a'.tmps[1]?.getD undef = .slice a n c := by have h := hfr 1 (by kernel_rfl); simpa using h
                      clear ho hfr hdep
                      go_wp2_with fail
                      exact ⟨rfl, _, rfl, Below.refl _ _, rfl⟩
                    · intro o ho a' w' hb hfr hdep
                      obtain rfl := Option.some.inj ho
                      have g6 : a'.tmps[6]?.getD undef = .int .i64 (j : Int) := by have h := hfr 6 (by kernel_rfl); simpa using h
                      clear ho hfr hdep
                      go_wp2_with fail
                      exact ⟨rfl, _, rfl, Below.refl _ _, rfl⟩
                    · intro o ho a' w' hb hfr hdep
                      obtain rfl := Option.some.inj ho
                      have g41 : a'.tmps[41]?.getD undef = .slice a n c := by have h := hdep 2 _ rfl (by kernel_rfl); simpa using h
                      have g42 : a'.tmps[42]?.getD undef = .int .i64 (j : Int) := by have h := hdep 3 _ rfl (by kernel_rfl); simpa using h
                      clear ho hfr hdep
                      refine idx_y 43 _ _ _ _ _ _ (by show a'.tmps.getD 41 undef = _; simpa using g41) (HSl.below hb) _ _ j (by show a'.tmps.getD 42 undef = _; simpa using g42) rfl _ HX.out ?_
                      intro b o hcell hcell2 hbo
                      exact ⟨rfl, _, rfl, Below.refl _ _, b, o, rfl, hcell⟩
                    · intro o ho a' w' hb hfr hdep
                      obtain rfl := Option.some.inj ho
                      obtain ⟨b43, o43, g43, c43⟩ := hdep 4 _ rfl (by kernel_rfl)
                      simp at g43
                      clear ho hfr hdep
                      go_wp2_with fail
                      exact ⟨rfl, _, rfl, Below.refl _ _, b43, o43, rfl, c43⟩
                    · intro o ho a' w' hb hfr hdep
                      obtain rfl := Option.some.inj ho
                      obtain ⟨b44, o44, g44, c44⟩ := hdep 5 _ rfl (by kernel_rfl)
                      simp at g44
                      clear ho hfr hdep
                      have hcl := c44
                      go_wp2_with fail
                      exact ⟨rfl, _, rfl, Below.refl _ _, rfl⟩
                    · intro o ho a' w' hb hfr hdep
                      obtain rfl := Option.some.inj ho
                      have g40 : a'.tmps[40]?.getD undef = .int .i64 sl := by have h := hdep 1 _ rfl (by kernel_rfl); simpa using h
                      have g45 : a'.tmps[45]?.getD undef = .int .i64 xl := by have h := hdep 6 _ rfl (by kernel_rfl); simpa using h
                      clear ho hfr hdep
                      go_wp2_with fail
                      exact ⟨rfl, _, rfl, Below.refl _ _, rfl⟩
                    · intro o ho a' w' hb hfr hdep
                      obtain rfl := Option.some.inj ho
                      have g8 : a'.tmps[8]?.getD undef = .int .i64 (τ : Int) := by have h := hfr 8 (by kernel_rfl); simpa using h
                      clear ho hfr hdep
                      go_wp2_with fail
                      exact ⟨rfl, _, rfl, Below.refl _ _, rfl⟩
                    · intro o ho a' w' hb hfr hdep
                      obtain rfl := Option.some.inj ho
                      have g47 : a'.tmps[47]?.getD undef = .int .i64 (τ : Int) := by have h := hdep 8 _ rfl (by kernel_rfl); simpa using h
                      clear ho hfr hdep
                      go_wp2_with fail
                      exact ⟨rfl, _, rfl, Below.refl _ _, rfl⟩
                  · intro gg w5 hbl hp'
                    have p46 := hp' 7 _ rfl
                    have p48 := hp' 9 _ rfl
                    clear hp'
                    simp at p46 p48
                    simp only [List.drop_succ_cons, List.drop_zero, List.map_cons, List.map_nil, putAll, Act.put, List.setIfInBounds_toArray, List.set_cons_succ, List.set_cons_zero, List.cons_append, List.nil_append, p46, p48]
                    clear p46 p48
                    have HB5 := HBA.under hbl
                    have HSB5 := HSB.under hbl
                    have HXT5 := HXT.under hbl
                    have HTT5 := HTT.below hbl
                    have HSl5 := HSl.below hbl
                    have hbw5 := hbw3.trans (hbl.mono hbw3.size)
                    clear HBA HSB HXT HTT HSl hbw3 hbl
                    obtain ⟨w3, rfl⟩ : ∃ w' : World, w' = w5 := ⟨_, rfl⟩
                    have HBA := HB5
                    have HSB := HSB5
                    have HXT := HXT5
                    have HTT := HTT5
                    have HSl := HSl5
                    have hbw3 := hbw5
                    clear HB5 HSB5 HXT5 HTT5 HSl5 hbw5
                    cases BB with
                    | true =>
                      have hcl : (stN k).lang = g ∧ τ = 0 ∨ (stN k).lang ≠ g ∧ τ = 1 := by
                        have h1 := hcond.out
                        by_cases e1 : (stN k).lang = g
                        · by_cases e2 : τ = 0
                          · exact .inl ⟨e1, e2⟩
                          · simp [e1, e2] at h1
                        · by_cases e2 : τ = 0
                          · simp [e1, e2] at h1
                          · exact .inr ⟨e1, by omega⟩
                      have hLk := hide (lkt_all HV.out HG.out (i := j) (s := S) (by rw [← hnl.out]; exact hjn) (by rw [← hS.out]; exact stN_lang k hk8) (A := A) (by rw [hAN.out]; exact hNn.out) hRd.out.bd)
                      obtain ⟨L, hL⟩ : ∃ L, Hid (stepsL t S l j = L) := ⟨_, hide rfl⟩
                      rw [hL.out] at hLk
                      obtain ⟨LN, hLN⟩ : ∃ LN, L.length = LN := ⟨_, rfl⟩
                      have hLN6 : LN ≤ 1000000 := by rw [← hLN, ← hL.out]; exact steps_few HV.out S l j
                      obtain ⟨⟨LI, LV⟩, hLI⟩ : ∃ q : Int × Int, Hid (leastF (lookA A j) L = q) := ⟨_, hide rfl⟩
                      clear hcl
                      go_wp2_with fail
                      refine wp_region_free 17 [⟨0, 51, [51], fun vs _ => vs = [.slice (some ⟨bA, 0, none⟩) N N]⟩, ⟨1, 52, [52], fun vs _ => vs = [.int .i64 (j : Int)]⟩, ⟨2, 53, [53], fun vs _ => vs = [.int .i64 (k : Int)]⟩, ⟨3, 54, [54], fun vs _ => vs = [H.v]⟩, ⟨4, 55, [55], fun vs _ => vs = [sv S]⟩, ⟨5, 56, [56], fun vs _ => vs = [.slice a n c]⟩, ⟨6, 57, [57], fun vs _ => vs = [.int .i64 (j : Int)]⟩, ⟨7, 58, [58], FStn LN L⟩, ⟨8, 59, [59], fun vs _ => vs = [.slice (some ⟨bA, 0, none⟩) N N]⟩, ⟨9, 60, [60], fun vs _ => vs = [.int .i64 (j : Int)]⟩, ⟨10, 61, [61], RcF bA j A⟩, ⟨11, 62, [62], fun vs _ => vs = [.tuple #[.int .i64 LI, .int .i64 LV]]⟩, ⟨12, 50, [50], fun vs _ => vs = [.tuple #[.int .i64 LI, .int .i64 LV]]⟩, ⟨13, 63, [63], fun vs _ => vs = [.int .i64 LI]⟩, ⟨14, 64, [64], fun vs _ => vs = [.int .i64 LV]⟩, ⟨15, 65, [65], fun vs _ => vs = [.pointer (some ⟨bA, j * 8, none⟩)]⟩, ⟨16, 66, [66], fun vs _ => vs = [.pointer (some ⟨bA, j * 8 + k, none⟩)]⟩] (by kernel_rfl) (by kernel_rfl) ?_ ?_ ?_
                      · simp only [All]
                        refine ⟨fun _ _ _ _ h => h, fun _ _ _ _ h => h, fun _ _ _ _ h => h, fun _ _ _ _ h => h, fun _ _ _ _ h => h, fun _ _ _ _ h => h, fun _ _ _ _ h => h, ?_, fun _ _ _ _ h => h, fun _ _ _ _ h => h, ?_, fun _ _ _ _ h => h, fun _ _ _ _ h => h, fun _ _ _ _ h => h, fun _ _ _ _ h => h, fun _ _ _ _ h => h, fun _ _ _ _ h => h, trivial⟩
                        · exact fun vs w1 w2 hb h => h.below hb
                        · exact fun vs w1 w2 hb h => h.below hb
                      · simp only [All]
                        refine ⟨?_, ?_, ?_, ?_, ?_, ?_, ?_, ?_, ?_, ?_, ?_, ?_, ?_, ?_, ?_, ?_, ?_, trivial⟩
                        · intro o ho a' w' hb hfr hdep
                          obtain rfl := Option.some.inj ho
                          have g5 : a'.tmps[5]?.getD undef = .slice (some ⟨bA, 0, none⟩) N N := by have h := hfr 5 (by kernel_rfl); simpa using h
                          clear ho hfr hdep
                          go_wp2_with fail
                          exact ⟨rfl, _, rfl, Below.refl _ _, rfl⟩
                        · intro o ho a' w' hb hfr hdep
                          obtain rfl := Option.some.inj ho
                          have g6 : a'.tmps[6]?.getD undef = .int .i64 (j : Int) := by have h := hfr 6 (by kernel_rfl); simpa using h
                          clear ho hfr hdep
                          go_wp2_with fail
                          exact ⟨rfl, _, rfl, Below.refl _ _, rfl⟩
                        · intro o ho a' w' hb hfr hdep
                          obtain rfl := Option.some.inj ho
                          have g9 : a'.tmps[9]?.getD undef = .int .i64 (k : Int) := by have h := hfr 9 (by kernel_rfl); simpa using h
                          clear ho hfr hdep
                          go_wp2_with fail
                          exact ⟨rfl, _, rfl, Below.refl _ _, rfl⟩
                        · intro o ho a' w' hb hfr hdep
                          obtain rfl := Option.some.inj ho
                          have g2 : a'.tmps[2]?.getD undef = .pointer (some ⟨gT, 0, none⟩) := by have h := hfr 2 (by kernel_rfl); simpa using h
                          clear ho hfr hdep
                          refine load_struct 54 29 _ 7 size_tables _ Try.underlying29 ⟨gT, 0, none⟩ (by show a'.tmps.getD 2 undef = _; simpa using g2) (tcells H) rfl (fun j u hj => by rw [Addr.add_lit, Nat.zero_add]; exact (HXT.under hb).at_ hj) ?_
                          exact ⟨rfl, _, rfl, Below.refl _ _, rfl⟩
                        · intro o ho a' w' hb hfr hdep
                          obtain rfl := Option.some.inj ho
                          have g10 : a'.tmps[10]?.getD undef = .pointer (some ⟨gS, 0, none⟩) := by have h := hfr 10 (by kernel_rfl); simpa using h
                          clear ho hfr hdep
                          refine load_struct 55 63 _ 3 size_state _ Try.underlying63 ⟨gS, 0, none⟩ (by show a'.tmps.getD 10 undef = _; simpa using g10) (scells S) rfl (fun j u hj => by rw [Addr.add_lit, Nat.zero_add]; exact (HSB.under hb).at_ hj) ?_
                          exact ⟨rfl, _, rfl, Below.refl _ _, rfl⟩
                        · intro o ho a' w' hb hfr hdep
                          obtain rfl := Option.some.inj ho
                          have g1 : a'.tmps[1]?.getD undef = .slice a n c := by have h := hfr 1 (by kernel_rfl); simpa using h
                          clear ho hfr hdep
                          go_wp2_with fail
                          exact ⟨rfl, _, rfl, Below.refl _ _, rfl⟩
                        · intro o ho a' w' hb hfr hdep
                          obtain rfl := Option.some.inj ho
                          have g6 : a'.tmps[6]?.getD undef = .int .i64 (j : Int) := by have h := hfr 6 (by kernel_rfl); simpa using h
                          clear ho hfr hdep
                          go_wp2_with fail
                          exact ⟨rfl, _, rfl, Below.refl _ _, rfl⟩
                        · intro o ho a' w' hb hfr hdep
                          obtain rfl := Option.some.inj ho
                          have g54 : a'.tmps[54]?.getD undef = H.v := by have h := hdep 3 _ rfl (by kernel_rfl); simpa using h
                          have g55 : a'.tmps[55]?.getD undef = sv S := by have h := hdep 4 _ rfl (by kernel_rfl); simpa using h
                          have g56 : a'.tmps[56]?.getD undef = .slice a n c := by have h := hdep 5 _ rfl (by kernel_rfl); simpa using h
                          have g57 : a'.tmps[57]?.getD undef = .int .i64 (j : Int) := by have h := hdep 6 _ rfl (by kernel_rfl); simpa using h
                          clear ho hfr hdep
                          have hst := hide (steps_of H t S l j hL.out a n c (by omega) w' (HTT.below hb) (HSl.below hb))
                          go_wp2_with (go_at_call 28; refine hst.out.mono ?_; rintro e w2 ⟨a2, c2, ps2, rfl, hS2, h2⟩)
                          exact ⟨rfl, _, rfl, h2, a2, c2, ps2, rfl, by rw [hLN] at hS2; exact hS2⟩
                        · intro o ho a' w' hb hfr hdep
                          obtain rfl := Option.some.inj ho
                          have g5 : a'.tmps[5]?.getD undef = .slice (some ⟨bA, 0, none⟩) N N := by have h := hfr 5 (by kernel_rfl); simpa using h
                          clear ho hfr hdep
                          go_wp2_with fail
                          exact ⟨rfl, _, rfl, Below.refl _ _, rfl⟩
                        · intro o ho a' w' hb hfr hdep
                          obtain rfl := Option.some.inj ho
                          have g6 : a'.tmps[6]?.getD undef = .int .i64 (j : Int) := by have h := hfr 6 (by kernel_rfl); simpa using h
                          clear ho hfr hdep
                          go_wp2_with fail
                          exact ⟨rfl, _, rfl, Below.refl _ _, rfl⟩
                        · intro o ho a' w' hb hfr hdep
                          obtain rfl := Option.some.inj ho
                          have g59 : a'.tmps[59]?.getD undef = .slice (some ⟨bA, 0, none⟩) N N := by have h := hdep 8 _ rfl (by kernel_rfl); simpa using h
                          have g60 : a'.tmps[60]?.getD undef = .int .i64 (j : Int) := by have h := hdep 9 _ rfl (by kernel_rfl); simpa using h
                          clear ho hfr hdep
                          have hrc := hide (con_reach (.slice (some ⟨bA, 0, none⟩) N N) j N bA w' rfl)
                          go_wp2_with (go_at_call 54; refine hrc.out.mono ?_; rintro e w2 ⟨b1, b2, rfl, X1, X2, h2⟩)
                          exact ⟨rfl, _, rfl, h2, b1, b2, rfl, ⟨by rw [hAN.out]; exact X1, X2, (HBA.under hb).under h2, hRd.out.r8, by rw [hAN.out]; omega⟩⟩
                        · intro o ho a' w' hb hfr hdep
                          obtain rfl := Option.some.inj ho
                          obtain ⟨a58, c58, ps58, g58, S58⟩ := hdep 7 _ rfl (by kernel_rfl)
                          simp at g58
                          obtain ⟨b61, d61, g61, R61⟩ := hdep 10 _ rfl (by kernel_rfl)
                          simp at g61
                          clear ho hfr hdep
                          have hls := hide (con_least (lookA A j) ps58 L a58 LN c58 b61 d61 w' S58 hLN6 (fun p hp w3 hb3 => reach_1 p A bA b61 d61 j w3 (R61.below hb3) (hLk.out p.1 (stl_mem S58 p hp)) (stl_hdr S58 p hp)))
                          rw [hLI.out] at hls
                          go_wp2_with (go_at_call 52; refine hls.out.mono ?_; rintro e w2 ⟨rfl, h2⟩)
                          exact ⟨rfl, _, rfl, h2, rfl⟩
                        · intro o ho a' w' hb hfr hdep
                          obtain rfl := Option.some.inj ho
                          have g62 : a'.tmps[62]?.getD undef = .tuple #[.int .i64 LI, .int .i64 LV] := by have h := hdep 11 _ rfl (by kernel_rfl); simpa using h
                          clear ho hfr hdep
                          go_wp2_with fail
                          exact ⟨rfl, _, rfl, Below.refl _ _, rfl⟩
                        · intro o ho a' w' hb hfr hdep
                          obtain rfl := Option.some.inj ho
                          have g50 : a'.tmps[50]?.getD undef = .tuple #[.int .i64 LI, .int .i64 LV] := by have h := hdep 12 _ rfl (by kernel_rfl); simpa using h
                          clear ho hfr hdep
                          go_wp2_with fail
                          exact ⟨rfl, _, rfl, Below.refl _ _, rfl⟩
                        · intro o ho a' w' hb hfr hdep
                          obtain rfl := Option.some.inj ho
                          have g50 : a'.tmps[50]?.getD undef = .tuple #[.int .i64 LI, .int .i64 LV] := by have h := hdep 12 _ rfl (by kernel_rfl); simpa using h
                          clear ho hfr hdep
                          go_wp2_with fail
                          exact ⟨rfl, _, rfl, Below.refl _ _, rfl⟩
                        · intro o ho a' w' hb hfr hdep
                          obtain rfl := Option.some.inj ho
                          have g51 : a'.tmps[51]?.getD undef = .slice (some ⟨bA, 0, none⟩) N N := by have h := hdep 0 _ rfl (by kernel_rfl); simpa using h
                          have g52 : a'.tmps[52]?.getD undef = .int .i64 (j : Int) := by have h := hdep 1 _ rfl (by kernel_rfl); simpa using h
                          clear ho hfr hdep
                          refine index_knownN 65 90 _ _ 93 Try.underlying90 8 size_row8 bA N N (by show a'.tmps.getD 51 undef = _; simpa using g51) _ _ j (by show a'.tmps.getD 52 undef = _; simpa using g52) rfl hjN ?_
                          exact ⟨rfl, _, rfl, Below.refl _ _, rfl⟩
                        · intro o ho a' w' hb hfr hdep
                          obtain rfl := Option.some.inj ho
                          have g65 : a'.tmps[65]?.getD undef = .pointer (some ⟨bA, j * 8, none⟩) := by have h := hdep 15 _ rfl (by kernel_rfl); simpa using h
                          have g53 : a'.tmps[53]?.getD undef = .int .i64 (k : Int) := by have h := hdep 2 _ rfl (by kernel_rfl); simpa using h
                          clear ho hfr hdep
                          refine index_arrp 66 93 _ _ 3 8 Try.underlying93 size_int bA (j * 8) (by show a'.tmps.getD 65 undef = _; simpa using g65) _ _ k (by show a'.tmps.getD 53 undef = _; simpa using g53) rfl hk8 ?_
                          exact ⟨rfl, _, rfl, Below.refl _ _, rfl⟩
                      · intro gg w5 hbl hp'
                        have p64 := hp' 14 _ rfl
                        have p66 := hp' 16 _ rfl
                        clear hp'
                        simp at p64 p66
                        simp only [List.drop_succ_cons, List.drop_zero, List.map_cons, List.map_nil, putAll, Act.put, List.setIfInBounds_toArray, List.set_cons_succ, List.set_cons_zero, List.cons_append, List.nil_append, p64, p66]
                        clear p64 p66
                        have HB5 := HBA.under hbl
                        have hb5 := hbw3.trans (hbl.mono hbw3.size)
                        go_wp2_with (with_reducible refine hold_store ?_)
                        refine hide ?_
                        refine store_cell 3 _ _ 93 bA (j * 8 + k) _ (.int .i64 LV) size_int HB5 rfl rfl rfl rfl (by rw [nf_len A hRd.out.r8, hAN.out]; omega) ?_; intro w6 HB6 gb6 zb6
                        have HB6' : Hid (Box w6 bA 93 ((turnU t l j g τ (k + 1) (stgT t l j g A0 τ)).flatMap rowc)) := hide (by
                          have e := nf_set A hRd.out.r8 hrow.out hk8 LV
                          have h6 : Box w6 bA 93 ((A.flatMap rowc).set (j * 8 + k) (I64 LV)) := HB6
                          rw [e, cell_upd (t := t) (l := l) hRd.out.r8 hrow.out LV (by rw [hS.out, hL.out, hLI.out])] at h6
                          simp only [turnU]
                          rw [if_pos (by rw [hcond.out]), hAe.out]
                          exact h6)
                        have hb6 := hb5.grown gb6 hb5.size (fun q hq => by cases hq; exact hbA0.out)
                        have hX6 := (HXT.under hbl).grown gb6 hgA
                        clear HB5 HB6 gb6 zb6 hbl hb5
                        go_wp2_with fail
                        go_roundg (8 - (k + 1))
                        case measure => omega
                        case rel => exact ⟨k + 1, by omega, rfl, by go_num, HB6'.out, hX6, hb6⟩
                    
                    | false =>
                      go_wp2_with fail
                      go_roundg (8 - (k + 1))
                      case measure => omega
                      case rel => exact ⟨k + 1, by omega, rfl, by go_num, by
                        simp only [turnU]
                        rw [if_neg (by rw [hcond.out]; simp), hAe.out]
                        exact HBA, HXT, hbw3⟩
                · obtain rfl : k = 8 := by omega
                  go_wp2_with fail
                  go_roundg (2 - (τ + 1))
                  case measure => omega
                  case rel => exact ⟨τ + 1, by omega, rfl, by go_num, hBA, hXT, hbw⟩
            · obtain rfl : τ = 2 := by omega
              go_wp2_with fail
              go_roundg j
              case measure => omega
              case rel => exact ⟨j, P, by omega, rfl, rfl, hPj, hQ8, hQb, by rw [hsuf.out]; exact hBA, hXT, hbw⟩
end Go.Proofs.Ytlpkicjijlcbfaa
end

/- the text FreeL -/
section
/- A region that draws its order (as XFree), and a slot that a late operation writes may be read by those that it waits for. No program in sight. -/
set_option linter.unusedVariables false
namespace Go.Dx
open Go.RowKit
section
variable {P : Program}
structure FreeInvL (l : List Oper) (n : Nat) (T : List HOp) (a0 : Act) (w0 : World) (listed : Array Bool) (a : Act) (w : World) : Prop where
  inv : HeadInv .any l.toArray n listed
  defers : a.defers = a0.defers
  size : a.tmps.size = a0.tmps.size
  frame : ∀ k, (∀ t ∈ T, t.d ≠ k) → a.tmps.getD k undef = a0.tmps.getD k undef
  bel : Below w0.heap.size w0 w
  facts : ∀ t ∈ T, listed.getD t.i false = true → t.fact a w
  late : ∀ t ∈ T, listed.getD t.i false = false → a.tmps.getD t.d undef = a0.tmps.getD t.d undef

theorem wp_region_freeL {id : Nat} {Q : Exit → Act → World → Prop} {a0 : Act} {w0 : World} {l : List Oper} (n : Nat) (T : List HOp) (hm : P.follows .mixedOrders = true)
    (hB : headOk l n (T.map fun t => (t.i, t.d, t.s)) a0.tmps.size = true)
    (hmono : All (fun t : HOp => ∀ vs w w', Below w.heap.size w w' → t.p vs w → t.p vs w') T)
    (hop : All (fun t : HOp => ∀ o, l[t.i]? = some o → ∀ (a : Act) (w : World), Below w0.heap.size w0 w →
      (∀ k, (T.map (·.d)).contains k = false → a.tmps.getD k undef = a0.tmps.getD k undef) →
      (∀ (k : Nat) (u : HOp), T[k]? = some u → Region.waitsFor .any l.toArray t.i u.i = true → u.p (u.s.map fun k => a.tmps.getD k undef) w) →
      (∀ (k : Nat) (u : HOp), T[k]? = some u → Region.waitsFor .any l.toArray u.i t.i = true → a.tmps.getD u.d undef = a0.tmps.getD u.d undef) →
      wpList P l.toArray (OneDone t.d a w fun v w' => t.p (t.s.map fun k => if t.d = k then v else a.tmps.getD k undef) w') [o] a w) T)
    (hend : ∀ (g : Nat → Value) (w : World), Below w0.heap.size w0 w → (∀ (k : Nat) (u : HOp), T[k]? = some u → u.p (u.s.map fun k => if k ∈ T.map (·.d) then g k else a0.tmps.getD k undef) w) →
      wpList P l.toArray Q (l.drop n) (putAll a0 ((T.map (·.d)).map fun d => (d, g d))) w) : (Code.region id l.toArray true).wp P Q a0 w0 := by
  simp only [headOk, Bool.and_eq_true, decide_eq_true_eq] at hB
  obtain ⟨⟨⟨⟨⟨⟨⟨hnd, hn⟩, hs⟩, hc⟩, hseq⟩, hcov⟩, hT⟩, hpair⟩ := hB
  have hnodup : ∀ t ∈ T, ∀ u ∈ T, t.i = u.i → t = u := inj_nodup (·.i) T (by rw [List.map_map] at hnd; exact hnd)
  have hn' : n < l.toArray.size := by simpa using hn
  have cover : ∀ j, j < n → ∃ t ∈ T, t.i = j := by
    intro j hj
    have h := List.all_eq_true.1 hcov j (List.mem_range.2 hj)
    obtain ⟨x, hx, he⟩ := List.any_eq_true.1 h
    obtain ⟨t, ht, rfl⟩ := List.mem_map.1 hx
    exact ⟨t, ht, by simpa using he⟩
  have own : ∀ t ∈ T, t.i < n ∧ t.d < a0.tmps.size ∧ ∃ o, l[t.i]? = some o ∧ o.dst = some t.d ∧ ∀ e ∈ o.after, Region.binds .any e = true → e.on < t.i := by
    intro t ht
    have h := List.all_eq_true.1 hT _ (List.mem_map.2 ⟨t, ht, rfl⟩)
    simp only [Bool.and_eq_true, decide_eq_true_eq] at h
    obtain ⟨⟨h1, h2⟩, h3⟩ := h
    refine ⟨h1, h2, ?_⟩
    cases ho : l[t.i]? with
    | none => rw [ho] at h3; cases h3
    | some o =>
      rw [ho] at h3
      simp only [Bool.and_eq_true, beq_iff_eq] at h3
      refine ⟨o, rfl, h3.1, fun e he hb => ?_⟩
      have := Array.all_eq_true_iff_forall_mem.1 h3.2 e he
      simpa [hb] using this
  have pair : ∀ t ∈ T, ∀ u ∈ T, t.i ≠ u.i → t.d ≠ u.d ∧ (t.d ∈ u.s → Region.waitsFor .any l.toArray u.i t.i = true) := by
    intro t ht u hu hne
    have h := List.all_eq_true.1 (List.all_eq_true.1 hpair _ (List.mem_map.2 ⟨t, ht, rfl⟩)) _ (List.mem_map.2 ⟨u, hu, rfl⟩)
    simp only [Bool.or_eq_true, beq_iff_eq, hne, false_or, Bool.and_eq_true, bne_iff_ne, ne_eq, Bool.not_eq_true'] at h
    refine ⟨h.1, fun hin => ?_⟩
    rcases h.2 with h2 | h2
    · have : u.s.contains t.d = true := by simpa using hin
      rw [this] at h2; cases h2
    · exact h2
  have key : ∀ (f : Nat) (listed : Array Bool) (a : Act) (w : World), FreeInvL l n T a0 w0 listed a w → todo listed n = f → wpAny P .any l.toArray Q (f + (l.length - n)) listed a w := by
    intro f
    induction f with
    | zero =>
      intro listed a w I h0
      have hall : ∀ j, j < n → listed.getD j true = true := by
        intro j hj
        cases hb : listed.getD j true with
        | true => rfl
        | false =>
          have : j ∈ (List.range n).filter fun j => !listed.getD j true := List.mem_filter.2 ⟨List.mem_range.2 hj, by rw [hb]; rfl⟩
          unfold todo at h0
          rw [List.eq_nil_of_length_eq_zero h0] at this
          cases this
      have hlist : listed = (List.replicate n true ++ List.replicate (l.length - n) false).toArray := by
        have hsz := I.inv.size
        apply Array.ext
        · simp at hsz ⊢; omega
        · intro j h1 h2
          by_cases hj : j < n
          · have := hall j hj
            simp [Array.getD, h1] at this
            simp [this, List.getElem_append_left, hj]
          · have := I.inv.tail j (by omega) (by rw [← hsz]; exact h1)
            simp [Array.getD, h1] at this
            simp only [this, List.getElem_toArray]
            rw [List.getElem_append_right (by simp; omega)]
            simp
      have ha : a = putAll a0 ((T.map (·.d)).map fun d => (d, a.tmps.getD d undef)) := by
        have hd : ∀ d ∈ T.map (·.d), d < a0.tmps.size := by
          intro d hd
          obtain ⟨t, ht, rfl⟩ := List.mem_map.1 hd
          exact (own t ht).2.1
        refine act_ext (by rw [putAll_defers]; exact I.defers) (by rw [putAll_size]; exact I.size) (fun k => ?_)
        rw [putAll_get (fun d => a.tmps.getD d undef) _ _ _ hd]
        by_cases h : k ∈ T.map (·.d)
        · rw [if_pos h]
        · rw [if_neg h]
          exact I.frame k (fun t ht e => h (List.mem_map.2 ⟨t, ht, e⟩))
      have hfin := hend (fun d => a.tmps.getD d undef) w I.bel (fun k u hu => by
        have hu' := List.mem_of_getElem? hu
        have h1 := I.facts u hu' (by
          have := hall u.i (own u hu').1
          rcases Nat.lt_or_ge u.i listed.size with h' | h'
          · simp [h'] at this ⊢; exact this
          · have := I.inv.size; have := (own u hu').1; omega)
        unfold HOp.fact at h1
        have e : (u.s.map fun k => if k ∈ T.map (·.d) then a.tmps.getD k undef else a0.tmps.getD k undef) = u.s.map fun k => a.tmps.getD k undef := by
          apply List.map_congr_left
          intro k _
          by_cases h : k ∈ T.map (·.d)
          · rw [if_pos h]
          · rw [if_neg h]
            exact (I.frame k (fun t ht e => h (List.mem_map.2 ⟨t, ht, e⟩))).symm
        rw [e]
        exact h1)
      rw [← ha] at hfin
      rw [Nat.zero_add]
      have hseq' : Region.seqB .any l.toArray (l.drop n).length n listed = true := by rw [hlist, List.length_drop]; exact hseq
      have := wpAny_of_seq (md := .any) (Q' := Q) (l.drop n) n listed a w (fun j => by simp [List.getElem?_drop]) hseq' hfin
      rwa [List.length_drop] at this
    | succ f ih =>
      intro listed a w I hf
      have hex : ∃ j, j < n ∧ listed.getD j true = false := by
        cases hL : (List.range n).filter fun j => !listed.getD j true with
        | nil => unfold todo at hf; rw [hL] at hf; cases hf
        | cons j L =>
          have : j ∈ (List.range n).filter fun j => !listed.getD j true := by rw [hL]; exact List.mem_cons_self
          obtain ⟨h1, h2⟩ := List.mem_filter.1 this
          exact ⟨j, List.mem_range.1 h1, by simpa using h2⟩
      have hready : Region.ready .any l.toArray listed ≠ [] := by
        have hmin : ∀ m j, j ≤ m → j < n → listed.getD j true = false → ∃ i, i ∈ Region.ready .any l.toArray listed := by
          intro m
          induction m with
          | zero =>
            intro j hj hjn hjl
            have hj0 : j = 0 := by omega
            subst hj0
            obtain ⟨t, ht, hti⟩ := cover 0 hjn
            obtain ⟨_, _, o, ho, _, hb⟩ := own t ht
            rw [hti] at ho hb
            exact ⟨0, mem_ready.2 ⟨hjl, o, by simpa using ho, fun e he hbe => absurd (hb e he hbe) (by omega)⟩⟩
          | succ m ihm =>
            intro j hj hjn hjl
            obtain ⟨t, ht, hti⟩ := cover j hjn
            obtain ⟨_, _, o, ho, _, hb⟩ := own t ht
            rw [hti] at ho hb
            by_cases hall : ∀ e ∈ o.after, Region.binds .any e = true → listed.getD e.on false = true
            · exact ⟨j, mem_ready.2 ⟨hjl, o, by simpa using ho, hall⟩⟩
            · simp only [Classical.not_forall] at hall
              obtain ⟨e, he, hbe, hne⟩ := hall
              have hlt := hb e he hbe
              have hes : e.on < listed.size := by rw [I.inv.size]; simp; omega
              exact ihm e.on (by omega) (by omega) (getD_in hes (by simpa using hne))
        obtain ⟨j, hj, hjl⟩ := hex
        obtain ⟨i, hi⟩ := hmin j j (Nat.le_refl _) hj hjl
        intro h
        rw [h] at hi
        cases hi
      rw [show f + 1 + (l.length - n) = (f + (l.length - n)) + 1 by omega]
      refine ⟨fun h => absurd h hready, fun i hi => ?_⟩
      have hin : i < n := by
        rcases Nat.lt_or_ge i n with h | h
        · exact h
        · obtain ⟨j, hj, hjl⟩ := hex
          exact absurd hi (tail_waits hs hc hn' I.inv _ j rfl hj hjl i h)
      obtain ⟨t, ht, hti⟩ := cover i hin
      obtain ⟨_, htd, o, ho, hdst, _⟩ := own t ht
      obtain ⟨hil, oi, hoi, hafter⟩ := mem_ready.1 hi
      have hoo : oi = o := by rw [hti] at ho; exact Option.some.inj (hoi.symm.trans (by simpa using ho))
      subst hoo
      have H := hop.mem t ht oi ho a w I.bel (fun k hk => I.frame k (fun u hu e => by
          have : (T.map (·.d)).contains k = true := by simpa using ⟨u, hu, e⟩
          rw [this] at hk; cases hk)) (fun k u hu hw => by
        have hu' := List.mem_of_getElem? hu
        obtain ⟨oj, hoj, e, he, hb, hon⟩ := Region.waitsFor_spec hw
        have : oj = oi := by rw [hti] at hoj; exact Option.some.inj (hoj.symm.trans hoi)
        subst this
        have h1 := hafter e he hb
        rw [hon] at h1
        exact I.facts u hu' h1) (fun k u hu hw => by
        have hu' := List.mem_of_getElem? hu
        refine I.late u hu' ?_
        cases hl : listed.getD u.i false with
        | false => rfl
        | true =>
          obtain ⟨ou, hou, e, he, hb, hon⟩ := Region.waitsFor_spec hw
          have := I.inv.closed u.i ou hou hl e he hb
          rw [hon, hti, getD_both hil] at this
          cases this)
      have step : ∀ (a' : Act) (w' : World), OneDone t.d a w (fun v w' => t.p (t.s.map fun k => if t.d = k then v else a.tmps.getD k undef) w') .normal a' w' → wpAny P .any l.toArray Q (f + (l.length - n)) (listed.setIfInBounds i true) a' w' := by
        intro a' w' h
        obtain ⟨_, v, rfl, hbel, hp⟩ := h
        refine ih _ _ _ ⟨I.inv.set hi hin, I.defers, ?_, ?_, ?_, ?_, ?_⟩ ?_
        · rw [← I.size]; simp [Act.put]
        · intro k hk
          rw [put_get, if_neg (fun h => hk t ht h.1)]
          exact I.frame k hk
        · exact I.bel.trans (hbel.mono I.bel.size)
        · intro u hu hul
          by_cases hui : t.i = u.i
          · have hd : u.d = t.d ∨ True := .inr trivial
            unfold HOp.fact
            by_cases hut : u = t
            · subst hut
              have e : (u.s.map fun k => (a.put (some u.d) v).tmps.getD k undef) = u.s.map fun k => if u.d = k then v else a.tmps.getD k undef := by
                apply List.map_congr_left
                intro k _
                rw [put_get, I.size]
                by_cases hk : u.d = k
                · rw [if_pos ⟨hk, htd⟩, if_pos hk]
                · rw [if_neg (fun h => hk h.1), if_neg hk]
              rw [e]
              exact hp
            · exact absurd (hnodup t ht u hu hui).symm hut
          · unfold HOp.fact
            have hul2 : listed.getD u.i false = true := by rw [← getD_set_ne false (i := i) (j := u.i) (by rw [← hti]; exact hui)]; exact hul
            have h1 := hmono.mem u hu _ _ _ hbel (I.facts u hu hul2)
            have hnot : t.d ∉ u.s := by
              intro hin2
              have hw := (pair t ht u hu hui).2 hin2
              obtain ⟨ou, hou, e, he, hb, hon⟩ := Region.waitsFor_spec hw
              have := I.inv.closed u.i ou hou hul2 e he hb
              rw [hon, hti, getD_both hil] at this
              cases this
            have e : (u.s.map fun k => (a.put (some t.d) v).tmps.getD k undef) = u.s.map fun k => a.tmps.getD k undef := by
              apply List.map_congr_left
              intro k hk
              rw [put_get, if_neg (fun (h : t.d = k ∧ t.d < a.tmps.size) => hnot (by rw [h.1]; exact hk))]
            rw [e]
            exact h1
        · intro u hu hul
          have hui : t.i ≠ u.i := fun h => by
            have h2 : i < listed.size := by rw [I.inv.size]; simp; omega
            rw [← h, hti] at hul
            simp [h2] at hul
          have hul2 : listed.getD u.i false = false := by rw [← getD_set_ne false (i := i) (j := u.i) (by rw [← hti]; exact hui)]; exact hul
          rw [put_get, if_neg (fun h => (pair t ht u hu hui).1 h.1)]
          exact I.late u hu hul2
        · have := todo_set hin hil; omega
      unfold wpList at H
      unfold wpOp
      rw [hoi]
      simp only
      by_cases hwant : Region.wanted oi (yielded l.toArray a.tmps) = true
      · rw [if_pos hwant] at H
        rw [if_pos hwant]
        left
        rcases H with H | ⟨_, a1, w1, h1, _⟩
        · exact wp_both (fun a' w' h => step a' w' h) (fun e a' w' he h => absurd h.1 he) H
        · cases h1
      · rw [if_neg hwant] at H
        rw [if_neg hwant]
        exact step _ _ H
  refine wp_region_any hm ?_
  have inv0 : HeadInv .any l.toArray n (Array.replicate l.toArray.size false) :=
    ⟨by simp, fun j oj _ hl => (by rw [getD_replicate_false] at hl; cases hl), fun t _ ht => getD_in (by simpa using ht) (getD_replicate_false _ _)⟩
  have I0 : FreeInvL l n T a0 w0 (Array.replicate l.toArray.size false) a0 { w0 with drawn := w0.drawn + 1 } :=
    ⟨inv0, rfl, rfl, fun _ _ => rfl, Still.below 1, fun t _ hl => (by rw [getD_replicate_false] at hl; cases hl), fun _ _ _ => rfl⟩
  have ht0 : todo (Array.replicate l.toArray.size false) n = n := by
    unfold todo
    rw [List.filter_eq_self.2 (fun j hj => by
      have hj' := List.mem_range.1 hj
      have : (Array.replicate l.toArray.size false).getD j true = false := getD_in (by simp; omega) (getD_replicate_false _ _)
      rw [this]; rfl), List.length_range]
  have := key n _ _ _ I0 ht0
  rwa [show n + (l.length - n) = l.toArray.size by simp; omega] at this
end
end Go.Dx
end

/- the text D15 -/
section
/- Chapter 08: do the tables and the text fit. -/
set_option linter.unusedVariables false
namespace Go.Proofs.Ytlpkicjijlcbfaa
open Go.RowKit Go.Dx Go.Al
set_option maxRecDepth 100000 in
set_option maxHeartbeats 4000000 in
theorem con_fits (H : TH) (t : Ta) (l : List Sy) (a : Option Addr) (n c : Nat) (w : World) (hT : TaIs w H t) (hs : Sl w 2 a n c (l.flatMap sc)) :
    Calls Try.prog 38 #[H.v, .slice a n c] w fun e w' => e = .returned (.int .i64 (fitsE t l)) ∧ Below w.heap.size w w' := by
  have hnl : n = l.length := hs.nf sc_len (by decide)
  obtain ⟨FE, hFE⟩ : ∃ FE, Hid (fitsE t l = FE) := ⟨_, hide rfl⟩
  rw [hFE.out]
  have HFE := hFE
  unfold fitsE at HFE
  rw [← hnl] at HFE
  have hSa := hide (fun (w' : World) (hb : Below w.heap.size w w') => contains_yf l a n c w' (hs.below hb))
  have Hm := hide hT
  clear hT hs hnl
  obtain ⟨⟨a0, n0, c0⟩, ⟨a1, n1, c1⟩, ps0, ps1, ⟨ad, nd, cd⟩, ⟨ac, nc, cc⟩, ⟨an, nn, cn⟩, ⟨af, nf, cf⟩, ⟨aw, nw, cw⟩⟩ := H
  unfold TH.v
  simp only [hdv]
  have Y1 := Box.new w 29 #[.slice a0 n0 c0, .slice a1 n1 c1, .slice ad nd cd, .slice ac nc cc, .slice an nn cn, .slice af nf cf, .slice aw nw cw]
  have hba := blo w (.cells #[.slice a0 n0 c0, .slice a1 n1 c1, .slice ad nd cd, .slice ac nc cc, .slice an nn cn, .slice af nf cf, .slice aw nw cw] 29)
  have hTv : Hid (∀ w', Below (w.alloc (.cells #[.slice a0 n0 c0, .slice a1 n1 c1, .slice ad nd cd, .slice ac nc cc, .slice an nn cn, .slice af nf cf, .slice aw nw cw] 29)).heap.size (w.alloc (.cells #[.slice a0 n0 c0, .slice a1 n1 c1, .slice ad nd cd, .slice ac nc cc, .slice an nn cn, .slice af nf cf, .slice aw nw cw] 29)) w' → Calls Try.prog 56 #[(⟨(a0, n0, c0), (a1, n1, c1), ps0, ps1, (ad, nd, cd), (ac, nc, cc), (an, nn, cn), (af, nf, cf), (aw, nw, cw)⟩ : TH).v] w' fun e w2 => e = .returned (.int .i64 (validE t)) ∧ Below w'.heap.size w' w2) := hide (fun w' hb => tab_Valid _ t w' ((Hm.out.below hba).below hb))
  go_enter Try.func38, Try.ntmps38
  go_wp2_with (first
    | (with_reducible refine load_struct 6 29 _ 7 size_tables _ Try.underlying29 ⟨w.heap.size, 0, none⟩ rfl [.slice a0 n0 c0, .slice a1 n1 c1, .slice ad nd cd, .slice ac nc cc, .slice an nn cn, .slice af nf cf, .slice aw nw cw] rfl (fun j u hj => by rw [Addr.add_lit, Nat.zero_add]; exact Y1.at_ hj) ?_)
    | (go_at_call 56; refine (hTv.out _ (Below.refl _ _)).mono ?_; rintro e w2 ⟨rfl, hb2⟩; refine hold ?_))
  refine hide ?_
  have hbw := hba.trans (hb2.mono hba.size)
  clear hTv hba hb2 Y1 Hm
  obtain ⟨V, hV⟩ : ∃ V, Hid (validE t = V) := ⟨_, hide rfl⟩
  rw [hV.out] at HFE ⊢
  generalize w.alloc (.cells _ 29) = w1 at *
  by_cases hv : V = 0
  · subst hv
    rw [if_neg (by simp)] at HFE
    have hcf := hide (hSa.out w2 hbw)
    obtain ⟨G, hG⟩ : ∃ G, Hid (goodS l = G) := ⟨_, hide rfl⟩
    rw [hG.out] at hcf HFE
    cases G with
    | false =>
      rw [if_pos rfl] at HFE
      obtain rfl := HFE.out
      go_wp2_with (go_at_call 57; refine hcf.out.mono ?_; rintro e w3 ⟨rfl, hb3⟩)
      go_ret
      exact ⟨rfl, hbw.trans (hb3.mono hbw.size)⟩
    | true =>
      rw [if_neg (by simp)] at HFE
      by_cases h2 : 2048 < n
      · have d1 : decide (2048 < (n : Int)) = true := decide_eq_true (by omega)
        rw [if_pos h2] at HFE
        obtain rfl := HFE.out
        go_wp2_with (go_at_call 57; refine hcf.out.mono ?_; rintro e w3 ⟨rfl, hb3⟩)
        go_ret
        exact ⟨rfl, hbw.trans (hb3.mono hbw.size)⟩
      · have d1 : decide (2048 < (n : Int)) = false := decide_eq_false (by omega)
        rw [if_neg h2] at HFE
        obtain rfl := HFE.out
        go_wp2_with (go_at_call 57; refine hcf.out.mono ?_; rintro e w3 ⟨rfl, hb3⟩)
        go_ret
        exact ⟨rfl, hbw.trans (hb3.mono hbw.size)⟩
  · rw [if_pos hv] at HFE
    obtain rfl := HFE.out
    have d0 : (V == 0) = false := by simp [hv]
    go_wp2_with fail
    go_ret
    exact ⟨rfl, hbw⟩
end Go.Proofs.Ytlpkicjijlcbfaa
end

/- the text B38 -/
section
/- Chapter 06: rules that a call owns, with cells that lie below or that the call owns; what later stores leave. -/
namespace Go.Dx
open Go.RowKit
/-- the blocks from B on that were there are still as they were -/
def KeepAbove (B : Nat) (w w' : World) : Prop := ∀ k, B ≤ k → k < w.heap.size → w'.heap[k]? = w.heap[k]?
theorem KeepAbove.refl (B : Nat) (w : World) : KeepAbove B w w := fun _ _ _ => rfl
theorem KeepAbove.grown {B : Nat} {w w1 w2 : World} (h : KeepAbove B w w1) (hs : w.heap.size ≤ w1.heap.size) {g : Nat} (hg : w1.grownBy w2 (some g)) (hB : g < B) : KeepAbove B w w2 :=
  fun k h1 h2 => (hg.block k (Nat.lt_of_lt_of_le h2 hs) (fun e => by cases e; omega)).trans (h k h1 h2)
theorem KeepAbove.bel {B : Nat} {w w1 w2 : World} (h : KeepAbove B w w1) (hs : w.heap.size ≤ w1.heap.size) (hb : Below w1.heap.size w1 w2) : KeepAbove B w w2 :=
  fun k h1 h2 => (hb.block k (Nat.lt_of_lt_of_le h2 hs)).trans (h k h1 h2)
theorem Own.keep {w w' : World} {B B' : Nat} {e : TypeId} {sz : Nat} {a : Option Addr} {n c : Nat} {cs : List Value} (h : Own w B e sz a n c cs) (hB : B' ≤ B) (hk : KeepAbove B' w w') : Own w' B e sz a n c cs := by
  refine ⟨h.1, ?_⟩
  rcases h.2 with h2 | ⟨g, cap, cur, h1, h2, h3, r⟩
  · exact .inl h2
  · exact .inr ⟨g, cap, cur, h1, h2, (hk g (by omega) (Array.getElem?_eq_some_iff.1 h3).1).trans h3, r⟩
theorem Own.pre {w : World} {B : Nat} {e : TypeId} {sz : Nat} {a : Option Addr} {n c : Nat} {xs : List Value} (h : Own w B e sz a n c xs) (k : Nat) (hk : k ≤ n) : Own w B e sz a k c (xs.take (k * sz)) := by
  refine ⟨by rw [List.length_take, h.1]; exact Nat.min_eq_left (Nat.mul_le_mul_right _ hk), ?_⟩
  rcases h.2 with ⟨h1, h0⟩ | ⟨g, cap, cur, h1, h2, h3, h4, h5, h6, h7⟩
  · left
    injection h1 with e1 e2 e3
    subst e1; subst e3
    obtain rfl : k = 0 := by omega
    exact ⟨rfl, rfl⟩
  · injection h1 with e1 e2 e3
    subst e1; subst e3
    refine .inr ⟨g, c, cur, rfl, h2, h3, by omega, h5, h6, ?_⟩
    rw [← h7, List.take_take, Nat.min_eq_left (Nat.mul_le_mul_right _ hk)]
theorem Own.putn {w : World} {B : Nat} {e : TypeId} {sz : Nat} {p : Addr} {n c : Nat} {xs : List Value} (h : Own w B e sz (some p) n c xs) {i : Nat} (v : Value) : Own (w.setCell ⟨p.block, i, none⟩ v) B e sz (some p) n c (xs.set i v) := by
  refine ⟨by rw [List.length_set]; exact h.1, ?_⟩
  rcases h.2 with ⟨h1, _⟩ | ⟨g, cap, cur, h1, h2, h3, h4, h5, h6, h7⟩
  · cases h1
  · injection h1 with h1 hn hc
    injection h1 with h1
    subst h1
    refine .inr ⟨g, cap, cur.setIfInBounds i v, by rw [hc], h2, ?_, h4, h5, by simpa using h6, ?_⟩
    · simp [World.setCell, Array.getElem?_modify, h3]
    · rw [Array.toList_setIfInBounds, ← h7, List.take_set]
theorem Own.zero3 {w : World} {B : Nat} {e : TypeId} {p : Addr} {n c : Nat} {sz : Nat} {xs : List Value} (h : Own w B e sz (some p) n c xs) : p = ⟨p.block, 0, none⟩ := by
  rcases h.2 with ⟨h1, _⟩ | ⟨g, cap, cur, h1, _⟩
  · cases h1
  · injection h1 with h1 hn hc
    injection h1 with h1
    subst h1; rfl
theorem Own.other3 {w : World} {B : Nat} {e : TypeId} {a : Option Addr} {n c : Nat} {sz : Nat} {xs : List Value} (h : Own w B e sz a n c xs) {p : Addr} (hp : ∀ q, a = some q → q.block ≠ p.block) (v : Value) : Own (w.setCell p v) B e sz a n c xs := by
  refine ⟨h.1, ?_⟩
  rcases h.2 with h1 | ⟨g, cap, cur, h1, h2, h3, r⟩
  · exact .inl h1
  · refine .inr ⟨g, cap, cur, h1, h2, ?_, r⟩
    injection h1 with h1
    rw [Below.heap_setCell w p v g (hp _ h1)]
    exact h3
theorem flat_set {α : Type} {f : α → List Value} {sz : Nat} (hf : ∀ x, (f x).length = sz) {x y : α} {j : Nat} (hj : j < sz) {v : Value} (hy : f y = (f x).set j v) : ∀ (l : List α) (i : Nat), l[i]? = some x → (l.flatMap f).set (i * sz + j) v = (l.set i y).flatMap f
  | [], i, h => by simp at h
  | z :: l, 0, h => by
    have e : z = x := by simpa using h
    subst e
    rw [List.flatMap_cons, List.set_cons_zero, List.flatMap_cons, hy, Nat.zero_mul, Nat.zero_add, List.set_append_left _ _ (by rw [hf]; exact hj)]
  | z :: l, i + 1, h => by
    have h' : l[i]? = some x := by simpa using h
    rw [List.flatMap_cons, List.set_cons_succ, List.flatMap_cons, ← flat_set hf hj hy l i h', List.set_append_right _ _ (by rw [hf, Nat.succ_mul]; omega), hf, show (i + 1) * sz + j - sz = i * sz + j by rw [Nat.succ_mul]; omega]
/-- Rules that the call owns: the slice of element type E; the cells of each lie in the old world, or the call owns them. -/
structure OL (w0 w : World) (E U : TypeId) (B : Nat) (a : Option Addr) (c : Nat) (ps : List RH) : Prop where
  top : Own w B E 3 a ps.length c (ps.flatMap rc)
  row : ∀ p ∈ ps, (Sl w0 1 p.2.1 p.2.2.1 p.2.2.2 (p.1.cells.map B8) ∨ Own w B U 1 p.2.1 p.2.2.1 p.2.2.2 (p.1.cells.map B8)) ∧ p.1.text.size ≤ 1000
section
variable {w0 w w' : World} {E U : TypeId} {B : Nat} {a : Option Addr} {c : Nat} {ps : List RH}
theorem OL.rul (h : OL w0 w E U B a c ps) (hb : Below w0.heap.size w0 w') (hk : KeepAbove B w w') : Rul w' a ps.length c ps :=
  ⟨(h.top.keep (Nat.le_refl _) hk).sl, fun p hp => ⟨by
    rcases (h.row p hp).1 with h1 | h1
    · exact h1.below hb
    · exact (h1.keep (Nat.le_refl _) hk).sl, (h.row p hp).2⟩⟩
theorem OL.below (h : OL w0 w E U B a c ps) (hb : Below w.heap.size w w') : OL w0 w' E U B a c ps :=
  ⟨h.top.below hb, fun p hp => ⟨(h.row p hp).1.imp id (fun h => h.below hb), (h.row p hp).2⟩⟩
theorem OL.rows {a' : Option Addr} {n' c' : Nat} {cs' : List Value} (h : OL w0 w E U B a c ps) (ht : Own w' B E 3 a' n' c' cs') (hg : w.grownBy w' (a.map (·.block))) (hE : E ≠ U) : ∀ p ∈ ps, (Sl w0 1 p.2.1 p.2.2.1 p.2.2.2 (p.1.cells.map B8) ∨ Own w' B U 1 p.2.1 p.2.2.1 p.2.2.2 (p.1.cells.map B8)) ∧ p.1.text.size ≤ 1000 := by
  intro p hp
  refine ⟨?_, (h.row p hp).2⟩
  rcases (h.row p hp).1 with h1 | h1
  · exact .inl h1
  · refine .inr (h1.kept hg fun r hr => ?_)
    cases a with
    | none => simp
    | some t =>
      have ho := h.top
      rw [hr] at h1
      have := own_far h1 ho (fun e => hE e.symm)
      simpa using this
theorem OL.push {a' : Option Addr} {c' : Nat} {p : RH} (h : OL w0 w E U B a c ps) (hx : Sl w0 1 p.2.1 p.2.2.1 p.2.2.2 (p.1.cells.map B8) ∨ Own w B U 1 p.2.1 p.2.2.1 p.2.2.2 (p.1.cells.map B8)) (hz : p.1.text.size ≤ 1000)
    (ht : Own w' B E 3 a' (ps.length + 1) c' (ps.flatMap rc ++ rc p)) (hg : w.grownBy w' (a.map (·.block))) (hE : E ≠ U) : OL w0 w' E U B a' c' (ps ++ [p]) := by
  refine ⟨by rw [List.length_append, List.flatMap_append, List.flatMap_singleton]; exact ht, fun q hq => ?_⟩
  rcases List.mem_append.1 hq with hq | hq
  · exact h.rows ht hg hE q hq
  · rw [List.mem_singleton] at hq
    subst hq
    refine ⟨?_, hz⟩
    rcases hx with h1 | h1
    · exact .inl h1
    · refine .inr (h1.kept hg fun r hr => ?_)
      cases a with
      | none => simp
      | some t =>
        have ho := h.top
        rw [hr] at h1
        have := own_far h1 ho (fun e => hE e.symm)
        simpa using this
theorem OL.take (h : OL w0 w E U B a c ps) (k : Nat) (hk : k ≤ ps.length) : OL w0 w E U B a c (ps.take k) := by
  have := h.top.pre k hk
  rw [flat_take rc_len] at this
  exact ⟨by rw [List.length_take, Nat.min_eq_left hk]; exact this, fun p hp => h.row p (List.mem_of_mem_take hp)⟩
/-- one of the rules is changed in one field -/
theorem OL.put {q : Addr} {x y : RH} {i j : Nat} {v : Value} (h : OL w0 w E U B (some q) c ps) (hx : ps[i]? = some x) (hj : j < 3) (hy : rc y = (rc x).set j v) (hw : w' = w.setCell ⟨q.block, i * 3 + j, none⟩ v) (hE : E ≠ U)
    (hr : Sl w0 1 y.2.1 y.2.2.1 y.2.2.2 (y.1.cells.map B8) ∨ Own w B U 1 y.2.1 y.2.2.1 y.2.2.2 (y.1.cells.map B8)) (hz : y.1.text.size ≤ 1000) : OL w0 w' E U B (some q) c (ps.set i y) := by
  subst hw
  have key : ∀ p : RH, Own w B U 1 p.2.1 p.2.2.1 p.2.2.2 (p.1.cells.map B8) → Own (w.setCell ⟨q.block, i * 3 + j, none⟩ v) B U 1 p.2.1 p.2.2.1 p.2.2.2 (p.1.cells.map B8) := by
    intro p hp
    refine hp.other3 (fun r hr => ?_) v
    rw [hr] at hp
    show r.block ≠ q.block
    exact own_far hp h.top (fun e => hE e.symm)
  refine ⟨?_, fun p hp => ?_⟩
  · rw [List.length_set, ← flat_set rc_len hj hy ps i hx]
    exact h.top.putn v
  · rcases List.mem_or_eq_of_mem_set hp with hp | hp
    · exact ⟨(h.row p hp).1.imp id (key p), (h.row p hp).2⟩
    · subst hp
      exact ⟨hr.imp id (key _), hz⟩
theorem OL.some (h : OL w0 w E U B a c ps) (h0 : ps.length ≠ 0) : ∃ g, a = Option.some ⟨g, 0, none⟩ ∧ B ≤ g ∧ g < w.heap.size := by
  cases a with
  | none =>
    have := h.top.sl.nil rfl
    have h2 := h.top.sl.le
    omega
  | some p =>
    have hz := h.top.zero3
    exact ⟨p.block, by rw [← hz], h.top.base.1, h.top.base.2⟩
end
section
variable {P : Program} {w : World} {ops : Array Oper} {rest : List Oper} {act : Act} {Q : Exit → Act → World → Prop} {ty : TypeId} {pos : String} {after : Array Edge}
end
end Go.Dx
end

/- the text B39 -/
section
/- Chapter 06: what Bent's switch leaves. -/
namespace Go.Dx
open Go.RowKit
/-- sizes of tables that may be changed again -/
def BSz (m : Nat) (t : Ta) : Prop := (1 ≤ t.dig.length ∧ t.dig.length ≤ 1000) ∧ t.l0.length ≤ m ∧ t.l1.length ≤ m
theorem BSz.mono {m m' : Nat} {t : Ta} (h : BSz m t) (hm : m ≤ m') : BSz m' t := ⟨h.1, Nat.le_trans h.2.1 hm, Nat.le_trans h.2.2 hm⟩
/-- an owned row is a block known whole -/
theorem Own.box {w : World} {B : Nat} {e : TypeId} {sz : Nat} {q : Addr} {n c : Nat} {cs : List Value} (h : Own w B e sz (some q) n c cs) :
    ∃ cur : List Value, q = ⟨q.block, 0, none⟩ ∧ Box w q.block e cur ∧ n * sz ≤ cur.length ∧ ∀ (w' : World) (i : Nat) (v : Value), i < n * sz → Box w' q.block e (cur.set i v) → Own w' B e sz (some q) n c (cs.set i v) := by
  obtain ⟨hl, h2⟩ := h
  rcases h2 with ⟨h1, _⟩ | ⟨g, cap, cur, h1, h2, h3, h4, h5, h6, h7⟩
  · cases h1
  · injection h1 with h1 hn hc
    injection h1 with h1
    subst h1
    subst hc
    have hm : n * sz ≤ c * sz := Nat.mul_le_mul_right _ h4
    refine ⟨cur.toList, rfl, (by unfold Box; simpa using h3), by rw [Array.length_toList]; omega, fun w' i v hi hx => ⟨by rw [List.length_set]; exact hl, .inr ⟨g, c, (cur.toList.set i v).toArray, rfl, h2, hx, h4, h5, by simpa using h6, ?_⟩⟩⟩
    rw [List.toList_toArray, List.take_set, h7]
/-- what the switch leaves -/
def RBt (w0 : World) (T : TypeId) (B g4 g8 m : Nat) (v : Value) (w : World) : Prop :=
  ∃ (H : TH) (t : Ta) (a : Option Addr) (c : Nat) (ps : List RH), v = .slice a ps.length c ∧ Hid (∀ w', Below w0.heap.size w0 w' → KeepAbove B w w' → TaIs w' H t ∧ Rul w' a ps.length c ps) ∧ Box w g4 T (tcells H) ∧ (∃ z, Box w g8 T z ∧ z.length = 7) ∧ Below w0.heap.size w0 w ∧ BSz m t ∧ ps.length ≤ m + 100
section
variable {w0 w w' : World} {T E U : TypeId} {B g4 g8 m : Nat} {a : Option Addr} {c : Nat} {ps : List RH} {H : TH} {t : Ta}
theorem RBt.rules (hT : TaIs w0 H t) (hO : OL w0 w E U B a c ps) (b4 : Box w g4 T (tcells H)) (b8 : ∃ z, Box w g8 T z ∧ z.length = 7) (hb : Below w0.heap.size w0 w) (hm : BSz m t) (hl : ps.length ≤ m + 100) : RBt w0 T B g4 g8 m (.slice a ps.length c) w :=
  ⟨H, t, a, c, ps, rfl, hide fun _ h1 h2 => ⟨hT.below h1, hO.rul h1 h2⟩, b4, b8, hb, hm, hl⟩
theorem KeepAbove.box {g : Nat} {us : List Value} (h : KeepAbove B w w') (hx : Box w g T us) (hg : B ≤ g) : Box w' g T us := (h g hg hx.lt).trans hx
/-- how far an append in place is -/
def GDel (w0 : World) (B : Nat) (E : TypeId) (sz g k : Nat) (ys : List Value) : Nat → List Value → World → Prop
  | 0, _, w => Below w0.heap.size w0 w
  | _ + 1, vs, w => (∃ a' c', vs = [.slice a' k c'] ∧ Own w B E sz a' k c' ys) ∧ w0.grownBy w (some g)
theorem GDel.mono {w0 : World} {B : Nat} {E : TypeId} {sz g k : Nat} {ys : List Value} : ∀ j vs w w', Below w.heap.size w w' → GDel w0 B E sz g k ys j vs w → GDel w0 B E sz g k ys j vs w'
  | 0, _, _, _, hb, h => Below.trans h (hb.mono (Below.size h))
  | _ + 1, _, _, _, hb, ⟨⟨a', c', h1, h2⟩, h3⟩ => ⟨⟨a', c', h1, h2.below hb⟩, grown_below h3 (hb.mono h3.size)⟩
theorem OL.sub {qs : List RH} {a' : Option Addr} {n' c' : Nat} (h : OL w0 w E U B a c ps) (hq : ∀ p ∈ qs, p ∈ ps) (hl : qs.length = n') (ht : Own w' B E 3 a' n' c' (qs.flatMap rc)) (hg : w.grownBy w' (a.map (·.block))) (hE : E ≠ U) : OL w0 w' E U B a' c' qs :=
  ⟨by rw [hl]; exact ht, fun p hp => h.rows ht hg hE p (hq p hp)⟩
theorem OL.cut_lo {g k : Nat} (h : OL w0 w E U B (Option.some ⟨g, 0, none⟩) c ps) (hk : k ≤ ps.length) : ∃ aW : Option Addr, (if c = k then Option.some ⟨g, 0, none⟩ else (Option.some (⟨g, 0, none⟩ : Addr)).map (·.add (k * 3))) = aW ∧ Sl w 3 aW (ps.length - k) (c - k) ((ps.drop k).flatMap rc) := by
  refine ⟨_, rfl, ?_⟩
  have := h.top.sl.cut k ps.length hk (Nat.le_refl _)
  rw [flat_drop rc_len, flat_take rc_len, List.take_of_length_le (by rw [List.length_drop]; exact Nat.le_refl _)] at this
  exact this
end
end Go.Dx
end

/- the text B40 -/
section
/- Chapter 06: the reference's Bent: tables with something changed; what they are does not matter. -/
namespace Go.Proofs.Ytlpkicjijlcbfaa
open Go.RowKit Go.Dx
end Go.Proofs.Ytlpkicjijlcbfaa
end
