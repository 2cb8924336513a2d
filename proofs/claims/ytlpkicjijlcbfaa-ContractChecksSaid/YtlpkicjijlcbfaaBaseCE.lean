/- The contracts of the functions that the law reaches, joined into one text. -/
import Derived.Test.YtlpkicjijlcbfaaBaseCD
set_option linter.unusedVariables false
set_option linter.unusedSimpArgs false

section
/- Chapter 08: the program's numbers. -/
namespace Go.Dx
theorem minus_step {r : List Int} {k : Nat} (hr : r.length = 8) (hk : k < 8) : (List.replicate k (-1) ++ r.drop k).set k (-1) = List.replicate (k + 1) (-1) ++ r.drop (k + 1) := by
 have h1 : r.drop k = r[k]'(by omega) :: r.drop (k + 1) := List.drop_eq_getElem_cons (by omega)
 rw [h1, List.set_append_right _ _ (by simp), List.length_replicate, Nat.sub_self, List.set_cons_zero, List.replicate_succ', List.append_assoc]
 rfl
theorem minus_len {r : List Int} {k : Nat} (hr : r.length = 8) (hk : k ≤ 8) : (List.replicate k (-1) ++ r.drop k).length = 8 := by simp; omega
def stgT (t : Ta) (l : List Sy) (j : Nat) (g : Int) (A : Nums) : Nat → Nums
 | 0 => A
 | τ + 1 => turnU t l j g τ 8 (stgT t l j g A τ)
theorem list_last {α : Type} {P : List α} {j : Nat} (h : P.length = j + 1) : ∃ Q x, P = Q ++ [x] ∧ Q.length = j := by
 refine ⟨P.dropLast, P.getLast (by intro e; rw [e] at h; simp at h), (List.dropLast_concat_getLast _).symm, by rw [List.length_dropLast]; omega⟩
theorem cell_upd {t : Ta} {l : List Sy} {j k : Nat} {A : Nums} (h : R8 A) {r : List Int} (hr : A[j]? = some r) (v : Int) (hv : v = (leastF (lookA A j) (stepsL t (stN k) l j)).2) : A.set j (r.set k v) = cellU t l j k A := by
 unfold cellU
 rw [List.getD_eq_getElem?_getD, hr, hv]
 rfl
end Go.Dx
namespace Go.Proofs.Ytlpkicjijlcbfaa
open Go.RowKit Go.Dx Go.Al
def row0 : Value := .agg #[.int .i64 0, .int .i64 0, .int .i64 0, .int .i64 0, .int .i64 0, .int .i64 0, .int .i64 0, .int .i64 0]
theorem info_row8 : (Try.prog.info? 93).map (fun i => (i.zero, i.size, i.bytes)) = some (some row0, 8, 64) := by kernel_rfl
theorem row0_at : ∀ i, i < row0.cells.size → row0.cells[i]? = some (.int .i64 0) := by
 intro i hi
 have h : i = 0 ∨ i = 1 ∨ i = 2 ∨ i = 3 ∨ i = 4 ∨ i = 5 ∨ i = 6 ∨ i = 7 := by have : i < 8 := hi; omega
 rcases h with rfl | rfl | rfl | rfl | rfl | rfl | rfl | rfl <;> rfl
theorem sv_cells (s : St) : (sv s).cells = (scells s).toArray := rfl
theorem scells_one (s : St) : ∀ u ∈ scells s, u.oneCell' = true := by simp [scells, Value.oneCell']
def RcF (bA at_ : Nat) (A : Nums) (vs : List Value) (w : World) : Prop := ∃ b1 b2, vs = [RCH b1 b2] ∧ RBx w b1 b2 bA at_ A
theorem RcF.below {bA at_ : Nat} {A : Nums} {vs : List Value} {w w' : World} (h : RcF bA at_ A vs w) (hb : Below w.heap.size w w') : RcF bA at_ A vs w' := by obtain ⟨b1, b2, h1, h2⟩ := h; exact ⟨b1, b2, h1, h2.below hb⟩
theorem stl_hdr {w : World} {a : Option Addr} {n c : Nat} {ps : List SH} {L : List Stp} (h : Stl w a n c ps L) : ∀ p ∈ ps, p.2.2.1 = p.1.cells.length := fun p hp => (h.row p hp).n_eq
theorem stl_mem {w : World} {a : Option Addr} {n c : Nat} {ps : List SH} {L : List Stp} (h : Stl w a n c ps L) : ∀ p ∈ ps, p.1 ∈ L := fun p hp => by rw [← h.eq]; exact List.mem_map_of_mem hp
def PtL (v : Value) (vs : List Value) (w' : World) : Prop := ∃ b o, vs = [.pointer (some ⟨b, o, none⟩)] ∧ w'.cell? ⟨b, o, none⟩ = some v
theorem cell_blw8 {w w' : World} {p : Addr} {u : Value} (h : w.cell? p = some u) (hb : Below w.heap.size w w') : w'.cell? p = some u := by rw [hb.cell (World.block_lt_of_cell? w _ h)]; exact h
theorem steps_few {t : Ta} (ht : validE t = 0) (s : St) (l : List Sy) (i : Int) : (stepsL t s l i).length ≤ 1000000 := by
 have hp := valid_parts ht
 have hlen : ∀ (rs : List Ru) (x : Sy) (k i : Nat), (ruleSteps t s x l i k rs).length ≤ rs.length := fun rs => by
  induction rs with
  | nil => intro x k i; exact Nat.le_refl _
  | cons r rs ih =>
   intro x k i
   simp only [ruleSteps, List.length_append, List.length_cons]
   have := ih x (k + 1) i
   split <;> simp <;> omega
 unfold stepsL
 split
 ·split
  ·simp
  ·rename_i y _
   unfold nextL
   split
   ·simp
   ·split
    ·simp
    ·have := hlen (langOf t y.lang) y 0 i.toNat
     have h2 : (langOf t y.lang).length ≤ 96 := by unfold langOf; split; exact hp.1; exact hp.2.1
     omega
 ·simp
set_option maxRecDepth 100000 in
set_option maxHeartbeats 16000000 in
theorem con_numbers (H : TH) (t : Ta) (l : List Sy) (a : Option Addr) (n c : Nat) (w : World) (hT : TaIs w H t) (hs : Sl w 2 a n c (l.flatMap sc)) (hv : validE t = 0) (hg : goodS l = true) (h2048 : l.length ≤ 2048) :
  Calls Try.prog 39 #[H.v, .slice a n c] w fun e w' => ∃ bA, e = .returned (.slice (some ⟨bA, 0, none⟩) (n + 1) (n + 1)) ∧ Box w' bA 93 ((numT t l).flatMap rowc) ∧ w.heap.size ≤ bA ∧ Below w.heap.size w w' := by
 have hnl : Hid (n = l.length) := hide (hs.nf sc_len (by decide))
 have hn2 : n ≤ 2048 := by rw [hnl.out]; exact h2048
 have h2048' := h2048
 have HV := hide hv
 have HG := hide hg
 obtain ⟨N, hN⟩ : ∃ N, Hid (n + 1 = N) := ⟨_, hide rfl⟩
 have hNI : (n : Int) + 1 = (N : Int) := by have := hN.out; omega
 have hNn : Hid (N = l.length + 1) := hide (by rw [← hN.out, hnl.out])
 have hN6 : N ≤ 2049 := by have := hN.out; omega
 rw [hN.out]
 clear hv hg h2048
 have hSa := fun (w' : World) (hb : Below w.heap.size w w') => hs.below hb
 have HS0 := hide hs
 have HSa := hide hSa
 have Hm := hide hT
 clear hT hs hSa
 obtain ⟨⟨a0, n0, c0⟩, ⟨a1, n1, c1⟩, ps0, ps1, ⟨ad, nd, cd⟩, ⟨ac, nc, cc⟩, ⟨an, nn, cn⟩, ⟨af, nf, cf⟩, ⟨aw, nw, cw⟩⟩ := H
 unfold TH.v
 simp only [hdv]
 have Y1 := Box.new w 29 #[.slice a0 n0 c0, .slice a1 n1 c1, .slice ad nd cd, .slice ac nc cc, .slice an nn cn, .slice af nf cf, .slice aw nw cw]
 have hba := blo w (.cells #[.slice a0 n0 c0, .slice a1 n1 c1, .slice ad nd cd, .slice ac nc cc, .slice an nn cn, .slice af nf cf, .slice aw nw cw] 29)
 have hsz0 : Hid ((w.alloc (.cells #[.slice a0 n0 c0, .slice a1 n1 c1, .slice ad nd cd, .slice ac nc cc, .slice an nn cn, .slice af nf cf, .slice aw nw cw] 29)).heap.size = w.heap.size + 1) := hide (by simp)
 go_enter Try.func39, Try.ntmps39
 go_wp2_with (first
  | (with_reducible refine make_wide 14 90 _ _ 93 row0 (.int .i64 0) 8 64 Try.underlying90 info_row8 rfl (by decide) row0_at .i64 .i64 _ _ N rfl rfl rfl rfl (by omega) (by omega) ?_; intro w1 HA1 hb1; refine hold ?_))
 refine hide ?_
 generalize w.alloc (.cells _ 29) = wa at *
 obtain ⟨H, hH⟩ : ∃ H : TH, H = ⟨(a0, n0, c0), (a1, n1, c1), ps0, ps1, (ad, nd, cd), (ac, nc, cc), (an, nn, cn), (af, nf, cf), (aw, nw, cw)⟩ := ⟨_, rfl⟩
 have HXa : Box wa w.heap.size 29 (tcells H) := by rw [hH]; exact Y1
 have HTa : TaIs wa H t := by rw [hH]; exact Hm.out.below hba
 have HT0 : Hid (TaIs w H t) := hide (by rw [hH]; exact Hm.out)
 have HSl0 := HSa.out wa hba
 clear hH Hm Y1 HSa
 obtain ⟨gT, hgT⟩ : ∃ gT, Hid (w.heap.size = gT) := ⟨_, hide rfl⟩
 rw [hgT.out] at HXa ⊢
 obtain ⟨bA, hbA⟩ : ∃ bA, Hid (gT + 1 = bA) := ⟨_, hide rfl⟩
 rw [hsz0.out, hgT.out, hbA.out] at HA1
 rw [hbA.out]
 have hbA1 : bA ≤ w1.heap.size := Nat.le_of_lt HA1.lt
 have hbA0 : Hid (w.heap.size ≤ bA) := hide (by rw [← hbA.out, ← hgT.out]; omega)
 have HB01 := hide (hba.trans (hb1.mono hba.size))
 have HXT1 := HXa.under hb1
 have hgA : some gT ≠ some bA := fun e => by injection e with e; have := hbA.out; omega
 clear HXa HTa HSl0 hba hb1 hsz0
 go_wp2_with fail
 go_loopg [6] n (fun gh v w' => ∃ (i : Nat) (P : Nums), i ≤ n ∧ i = gh ∧ v = .int .i64 ((i : Int) - 1) ∧ P.length = i ∧ R8 P ∧ BdN P 1000000 ∧ Box w' bA 93 ((P ++ sufT t l (n - i)).flatMap rowc) ∧ Box w' gT 29 (tcells H) ∧ Below w.heap.size w w')
 case atStart =>
  refine ⟨n, List.replicate n zeros, Nat.le_refl _, rfl, rfl, by simp, fun r hr => ?_, fun r hr v hv => ?_, ?_, HXT1, HB01.out⟩
  ·rw [List.eq_of_mem_replicate hr]; rfl
  ·rw [List.eq_of_mem_replicate hr] at hv
   simp [zeros] at hv
   omega
  ·rw [Nat.sub_self]
   have e : (List.replicate n zeros ++ sufT t l 0).flatMap rowc = List.replicate (N * 8) (.int .i64 0) := by
    have h1 : List.replicate n zeros ++ sufT t l 0 = List.replicate (n + 1) zeros := by rw [List.replicate_succ']; rfl
    rw [h1, nf_zero, hN.out]
   rw [e]
   exact HA1
 case round =>
  clear HA1 HXT1
  obtain ⟨i, P, hi, rfl, rfl, hPi, hP8, hPb, hBA, hXT, hbw⟩ := hrel
  cases i with
  | zero =>
   have hP0 : P = [] := List.length_eq_zero_iff.1 hPi
   subst hP0
   have e : sufT t l (n - 0) = numT t l := by unfold numT; rw [Nat.sub_zero, hnl.out]
   rw [List.nil_append, e] at hBA
   go_wp2_with fail
   go_ret
   exact ⟨bA, rfl, hBA, hbA0.out, hbw⟩
  | succ j =>
   obtain ⟨Q, r0, rfl, hQj⟩ := list_last hPi
   have hjn : j < n := by omega
   have hji : ((j + 1 : Nat) : Int) - 1 = (j : Int) := by omega
   rw [hji]
   have hr0 : r0.length = 8 := hP8 r0 (by simp)
   have hQ8 : R8 Q := fun q hq => hP8 q (by simp [hq])
   have hQb : BdN Q 1000000 := fun q hq => hPb q (by simp [hq])
   obtain ⟨P, rfl⟩ : ∃ P', P' = Q := ⟨_, rfl⟩
   obtain ⟨R, hR⟩ : ∃ R, Hid (sufT t l (n - (j + 1)) = R) := ⟨_, hide rfl⟩
   rw [hR.out, List.append_assoc] at hBA
   obtain ⟨⟨xl, xc⟩, HX⟩ : ∃ x, Hid (l[j]? = some x) := ⟨l[j]'(by rw [← hnl.out]; exact hjn), hide (by simp)⟩
   obtain ⟨g, hg⟩ : ∃ g, Hid (langAt l j = g) := ⟨_, hide rfl⟩
   have hxg : Hid (xl = g) := hide (by rw [← hg.out, langAt_eq HX.out])
   obtain ⟨A0, hA0⟩ : ∃ A0, Hid (P ++ minus :: R = A0) := ⟨_, hide rfl⟩
   have hPj : P.length = j := hQj
   have hR' : R = sufT t l (l.length - (P.length + 1)) := by rw [← hR.out, hPj, hnl.out]
   have hR0 : Hid (∀ k, k ≤ 8 → RdT l (turnU t l j g 0 k A0)) := hide (fun k hk => by
    have := turn0_ok HV.out HG.out h2048' (P := P) (R := R) (by rw [hPj, ← hnl.out]; exact hjn) hQ8 hQb hR' k hk
    rw [hPj, hg.out, hA0.out] at this
    exact this)
   have hR1 : Hid (∀ k, k ≤ 8 → RdT l (turnU t l j g 1 k (turnU t l j g 0 8 A0))) := hide (fun k hk => by
    have := turn1_ok HV.out HG.out h2048' (P := P) (R := R) (by rw [hPj, ← hnl.out]; exact hjn) hQ8 hQb hR' k hk
    rw [hPj, hg.out, hA0.out] at this
    exact this)
   have hsuf : Hid (P ++ sufT t l (n - j) = stgT t l j g A0 2) := hide (by
    have h1 := place_row (here_at HV.out HG.out (i := P.length) (by rw [hPj, ← hnl.out]; exact hjn)) R
    rw [hPj, hg.out, hA0.out] at h1
    show _ = turnU t l j g 1 8 (turnU t l j g 0 8 A0)
    rw [h1, show n - j = (n - (j + 1)) + 1 by omega]
    simp only [sufT]
    rw [hR.out, show l.length - (n - (j + 1) + 1) = j by rw [← hnl.out]; omega, hg.out])
   have hRl : Hid ((P ++ minus :: R).length = N) := hide (by have := (hR0.out 0 (by omega)).len; simp only [turnU] at this; rw [hA0.out, this]; exact hNn.out.symm)
   have hR8 : Hid (R8 R) := hide (by rw [hR']; exact sufT_rows t l _)
   have hjN : j < N := by have := hNn.out; rw [this, ← hnl.out]; omega
   clear hR' hP8 hPb hPi
   go_wp2_with fail
   go_loopg [22] 8 (fun gh v w' => ∃ k : Nat, k ≤ 8 ∧ gh = 8 - k ∧ v = .int .i64 (k : Int) ∧ Box w' bA 93 ((P ++ (List.replicate k (-1) ++ r0.drop k) :: R).flatMap rowc) ∧ Box w' gT 29 (tcells H) ∧ Below w.heap.size w w')
   case atStart => exact ⟨0, by omega, rfl, rfl, hBA, hXT, hbw⟩
   case round =>
    clear hBA hXT hbw
    obtain ⟨k, hk, rfl, rfl, hBA, hXT, hbw⟩ := hrel
    by_cases hk8 : k < 8
    ·have hm8 : Hid (R8 (P ++ (List.replicate k (-1) ++ r0.drop k) :: R)) := hide (r8_mid hQ8 (minus_len hr0 hk) hR8.out)
     have hml : Hid ((P ++ (List.replicate k (-1) ++ r0.drop k) :: R).length = N) := hide (by have := hRl.out; rw [List.length_append, List.length_cons] at this ⊢; exact this)
     go_wp2_with (first
      | (with_reducible refine index_knownN 28 90 _ _ 93 Try.underlying90 8 size_row8 bA N N rfl _ _ j rfl rfl hjN ?_)
      | (with_reducible refine index_arrp 29 93 _ _ 3 8 Try.underlying93 size_int bA (j * 8) rfl _ _ k rfl rfl hk8 ?_)
      | (with_reducible refine hold_store ?_))
     refine hide ?_
     refine store_cell 3 _ _ 93 bA (j * 8 + k) _ (.int .i64 (-1)) size_int hBA rfl rfl rfl rfl (by rw [nf_len _ hm8.out, hml.out]; omega) ?_; intro w6 HB6 gb6 zb6
     have h6 : Hid (Box w6 bA 93 ((P ++ (List.replicate (k + 1) (-1) ++ r0.drop (k + 1)) :: R).flatMap rowc)) := hide (by
      have e := nf_set _ hm8.out (i := j) (r := List.replicate k (-1) ++ r0.drop k) (by rw [← hPj, List.getElem?_append_right (Nat.le_refl _), Nat.sub_self]; rfl) hk8 (-1)
      have h7 : Box w6 bA 93 (((P ++ (List.replicate k (-1) ++ r0.drop k) :: R).flatMap rowc).set (j * 8 + k) (I64 (-1))) := HB6
      rw [e, ← hPj, set_mid, minus_step hr0 hk8] at h7
      exact h7)
     have hb6 := hbw.grown gb6 hbw.size (fun q hq => by cases hq; exact hbA0.out)
     have hX6 := hXT.grown gb6 hgA
     clear HB6 gb6 zb6 hBA hm8 hml
     go_wp2_with fail
     go_roundg (8 - (k + 1))
     case measure => omega
     case rel => exact ⟨k + 1, by omega, rfl, by go_num, h6.out, hX6, hb6⟩
    ·obtain rfl : k = 8 := by omega
     have hBA0 : Hid (Box wr bA 93 (A0.flatMap rowc)) := hide (by
      have e : List.replicate 8 (-1) ++ r0.drop 8 = minus := by rw [List.drop_of_length_le (by omega), List.append_nil]; rfl
      rw [e, hA0.out] at hBA
      exact hBA)
     clear hBA
     go_wp2_with fail
     go_loopg [31] 2 (fun gh v w' => ∃ τ : Nat, τ ≤ 2 ∧ gh = 2 - τ ∧ v = .int .i64 (τ : Int) ∧ Box w' bA 93 ((stgT t l j g A0 τ).flatMap rowc) ∧ Box w' gT 29 (tcells H) ∧ Below w.heap.size w w')
     case atStart => exact ⟨0, by omega, rfl, rfl, hBA0.out, hXT, hbw⟩
     case round =>
      clear hBA0 hXT hbw
      obtain ⟨τ, hτ, rfl, rfl, hBA, hXT, hbw⟩ := hrel
      by_cases hτ2 : τ < 2
      ·have hRdA : Hid (∀ k, k ≤ 8 → RdT l (turnU t l j g τ k (stgT t l j g A0 τ))) := hide (by
        have h3 : τ = 0 ∨ τ = 1 := by omega
        rcases h3 with rfl | rfl
        ·intro k hk
         exact hR0.out k hk
        ·intro k hk
         exact hR1.out k hk)
       have dτ : decide ((τ : Int) < 2) = true := decide_eq_true (by omega)
       have dτ' : decide (τ < 2) = true := decide_eq_true hτ2
       go_wp2_with fail
       go_loopg [34] 8 (fun gh v w' => ∃ k : Nat, k ≤ 8 ∧ gh = 8 - k ∧ v = .int .i64 (k : Int) ∧ Box w' bA 93 ((turnU t l j g τ k (stgT t l j g A0 τ)).flatMap rowc) ∧ Box w' gT 29 (tcells H) ∧ Below w.heap.size w w')
       case atStart => exact ⟨0, by omega, rfl, rfl, hBA, hXT, hbw⟩
       case round =>
        clear hBA hXT hbw
        obtain ⟨k, hk, rfl, rfl, hBA, hXT, hbw⟩ := hrel
        by_cases hk8 : k < 8
        ·obtain ⟨A, hAe⟩ : ∃ A, Hid (turnU t l j g τ k (stgT t l j g A0 τ) = A) := ⟨_, hide rfl⟩
         rw [hAe.out] at hBA
         have hRd := hide (hRdA.out k (by omega))
         rw [hAe.out] at hRd
         have hAN : Hid (A.length = N) := hide (by rw [hRd.out.len]; exact hNn.out.symm)
         obtain ⟨r, hr⟩ : ∃ r, Hid (A[j]? = some r) := ⟨A[j]'(by rw [hAN.out]; omega), hide (by simp)⟩
         have hrow := hr
         obtain ⟨S, hS⟩ : ∃ S, Hid (stN k = S) := ⟨_, hide rfl⟩
         have hsta := hide (con_state k hk8 wr)
         rw [hS.out] at hsta
         go_wp2_with (go_at_call 53; refine hsta.out.mono ?_; rintro e w2 ⟨rfl, hb2⟩; refine hold ?_)
         refine hide ?_
         have hbw2 := hbw.trans (hb2.mono hbw.size)
         go_wp2_with (with_reducible refine store_fresh 63 63 _ _ 3 size_state _ rfl (sv S) (scells S) rfl (sv_cells S) rfl rfl (scells_one S) ?_; refine hold ?_)
         refine hide ?_
         have HSB := Box.new w2 63 (scells S).toArray
         have hbS := blo w2 (.cells (scells S).toArray 63)
         have hbw3 := hbw2.trans (hbS.mono hbw2.size)
         have HBA := (hBA.under hb2).under hbS
         generalize w2.alloc (.cells (scells S).toArray 63) = w3 at *
         obtain ⟨gS, hgS⟩ : ∃ gS, Hid (w2.heap.size = gS) := ⟨_, hide rfl⟩
         rw [hgS.out] at HSB ⊢
         have HXT := (hXT.under hb2).under hbS
         have HTT := HT0.out.below hbw3
         have HSl := HS0.out.below hbw3
         have HSB : Box w3 gS 63 (scells S) := HSB
         clear hbS hb2 hBA hXT hbw2 hsta
         obtain ⟨sl, hsl⟩ : ∃ sl, S.lang = sl := ⟨_, rfl⟩
         have HSB0 : Hid (scells S = [.int .i64 sl, .bool S.num, .bool S.wrd]) := hide (by unfold scells; rw [hsl])
         obtain ⟨B1, hB1⟩ : ∃ B1, (sl == xl) = B1 := ⟨_, rfl⟩
         obtain ⟨B2, hB2⟩ : ∃ B2, ((τ : Int) == 0) = B2 := ⟨_, rfl⟩
         obtain ⟨BB, hBB⟩ : ∃ BB, (B1 == B2) = BB := ⟨_, rfl⟩
         have hcond : Hid ((decide ((stN k).lang = g) == decide (τ = 0)) = BB) := hide (by
          rw [← hBB, ← hB1, ← hB2, ← hsl, hS.out, ← hxg.out]
          have e1 : (S.lang == xl) = decide (S.lang = xl) := by by_cases h : S.lang = xl <;> simp [h]
          have e2 : ((τ : Int) == 0) = decide (τ = 0) := by by_cases h : τ = 0 <;> simp [h]
          rw [e1, e2])
         clear hsl
         go_wp2_with fail
         refine wp_region_free 10 [⟨0, 39, [39], fun vs _ => vs = [.pointer (some ⟨gS, 0, none⟩)]⟩, ⟨1, 40, [40], fun vs _ => vs = [.int .i64 sl]⟩, ⟨2, 41, [41], fun vs _ => vs = [.slice a n c]⟩, ⟨3, 42, [42], fun vs _ => vs = [.int .i64 (j : Int)]⟩, ⟨4, 43, [43], PtL (.int .i64 xl)⟩, ⟨5, 44, [44], PtL (.int .i64 xl)⟩, ⟨6, 45, [45], fun vs _ => vs = [.int .i64 xl]⟩, ⟨7, 46, [46], fun vs _ => vs = [.bool B1]⟩, ⟨8, 47, [47], fun vs _ => vs = [.int .i64 (τ : Int)]⟩, ⟨9, 48, [48], fun vs _ => vs = [.bool B2]⟩] (by kernel_rfl) (by kernel_rfl) ?_ ?_ ?_
         ·simp only [All]
          refine ⟨fun _ _ _ _ h => h, fun _ _ _ _ h => h, fun _ _ _ _ h => h, fun _ _ _ _ h => h, ?_, ?_, fun _ _ _ _ h => h, fun _ _ _ _ h => h, fun _ _ _ _ h => h, fun _ _ _ _ h => h, trivial⟩
          ·rintro vs w1 w2 hb ⟨b, o, h1, h2⟩
           exact ⟨b, o, h1, cell_blw8 h2 hb⟩
          ·rintro vs w1 w2 hb ⟨b, o, h1, h2⟩
           exact ⟨b, o, h1, cell_blw8 h2 hb⟩
         ·simp only [All]
          refine ⟨?_, ?_, ?_, ?_, ?_, ?_, ?_, ?_, ?_, ?_, trivial⟩
          ·intro o ho a' w' hb hfr hdep; obtain rfl := oj ho
           have g10 : a'.tmps[10]?.getD undef = .pointer (some ⟨gS, 0, none⟩) := by simpa using hfr 10 (by kernel_rfl)
           clear ho hfr hdep; go_wp2_with fail; exact ⟨rfl, _, rfl, br, rfl⟩
          ·intro o ho a' w' hb hfr hdep; obtain rfl := oj ho
           have g39 : a'.tmps[39]?.getD undef = .pointer (some ⟨gS, 0, none⟩) := by simpa using hdep 0 _ rfl (by kernel_rfl)
           clear ho hfr hdep; have hcl : w'.cell? ⟨gS, 0, none⟩ = some (.int .i64 sl) := by have h := HSB.under hb; rw [HSB0.out] at h; exact h.at_ rfl
           go_wp2_with fail; exact ⟨rfl, _, rfl, br, rfl⟩
          ·intro o ho a' w' hb hfr hdep; obtain rfl := oj ho
           have g1 : a'.tmps[1]?.getD undef = .slice a n c := by simpa using hfr 1 (by kernel_rfl)
           clear ho hfr hdep; go_wp2_with fail; exact ⟨rfl, _, rfl, br, rfl⟩
          ·intro o ho a' w' hb hfr hdep; obtain rfl := oj ho
           have g6 : a'.tmps[6]?.getD undef = .int .i64 (j : Int) := by simpa using hfr 6 (by kernel_rfl)
           clear ho hfr hdep; go_wp2_with fail; exact ⟨rfl, _, rfl, br, rfl⟩
          ·intro o ho a' w' hb hfr hdep; obtain rfl := oj ho
           have g41 : a'.tmps[41]?.getD undef = .slice a n c := by simpa using hdep 2 _ rfl (by kernel_rfl)
           have g42 : a'.tmps[42]?.getD undef = .int .i64 (j : Int) := by simpa using hdep 3 _ rfl (by kernel_rfl)
           clear ho hfr hdep; refine idx_y 43 _ _ _ _ _ _ (by show a'.tmps.getD 41 undef = _; simpa using g41) (HSl.below hb) _ _ j (by show a'.tmps.getD 42 undef = _; simpa using g42) rfl _ HX.out ?_
           intro b o hcell hcell2 hbo
           exact ⟨rfl, _, rfl, br, b, o, rfl, hcell⟩
          ·intro o ho a' w' hb hfr hdep; obtain rfl := oj ho
           obtain ⟨b43, o43, g43, c43⟩ := hdep 4 _ rfl (by kernel_rfl)
           simp at g43
           clear ho hfr hdep; go_wp2_with fail; exact ⟨rfl, _, rfl, br, b43, o43, rfl, c43⟩
          ·intro o ho a' w' hb hfr hdep; obtain rfl := oj ho
           obtain ⟨b44, o44, g44, c44⟩ := hdep 5 _ rfl (by kernel_rfl)
           simp at g44
           clear ho hfr hdep; have hcl := c44
           go_wp2_with fail; exact ⟨rfl, _, rfl, br, rfl⟩
          ·intro o ho a' w' hb hfr hdep; obtain rfl := oj ho
           have g40 : a'.tmps[40]?.getD undef = .int .i64 sl := by simpa using hdep 1 _ rfl (by kernel_rfl)
           have g45 : a'.tmps[45]?.getD undef = .int .i64 xl := by simpa using hdep 6 _ rfl (by kernel_rfl)
           clear ho hfr hdep; go_wp2_with fail; exact ⟨rfl, _, rfl, br, rfl⟩
          ·intro o ho a' w' hb hfr hdep; obtain rfl := oj ho
           have g8 : a'.tmps[8]?.getD undef = .int .i64 (τ : Int) := by simpa using hfr 8 (by kernel_rfl)
           clear ho hfr hdep; go_wp2_with fail; exact ⟨rfl, _, rfl, br, rfl⟩
          ·intro o ho a' w' hb hfr hdep; obtain rfl := oj ho
           have g47 : a'.tmps[47]?.getD undef = .int .i64 (τ : Int) := by simpa using hdep 8 _ rfl (by kernel_rfl)
           clear ho hfr hdep; go_wp2_with fail; exact ⟨rfl, _, rfl, br, rfl⟩
         ·intro gg w5 hbl hp'
          have p46 := hp' 7 _ rfl
          have p48 := hp' 9 _ rfl
          clear hp'
          simp at p46 p48
          simp only [List.drop_succ_cons, List.drop_zero, List.map_cons, List.map_nil, putAll, Act.put, List.setIfInBounds_toArray, List.set_cons_succ, List.set_cons_zero, List.cons_append, List.nil_append, p46, p48]
          clear p46 p48
          have HB5 := HBA.under hbl
          have HSB5 := HSB.under hbl
          have HXT5 := HXT.under hbl
          have HTT5 := HTT.below hbl
          have HSl5 := HSl.below hbl
          have hbw5 := hbw3.trans (hbl.mono hbw3.size)
          clear HBA HSB HXT HTT HSl hbw3 hbl
          obtain ⟨w3, rfl⟩ : ∃ w' : World, w' = w5 := ⟨_, rfl⟩
          have HBA := HB5
          have HSB := HSB5
          have HXT := HXT5
          have HTT := HTT5
          have HSl := HSl5
          have hbw3 := hbw5
          clear HB5 HSB5 HXT5 HTT5 HSl5 hbw5
          cases BB with
          | true =>
           have hcl : (stN k).lang = g ∧ τ = 0 ∨ (stN k).lang ≠ g ∧ τ = 1 := by
            have h1 := hcond.out
            by_cases e1 : (stN k).lang = g
            ·by_cases e2 : τ = 0
             ·exact .inl ⟨e1, e2⟩
             ·simp [e1, e2] at h1
            ·by_cases e2 : τ = 0
             ·simp [e1, e2] at h1
             ·exact .inr ⟨e1, by omega⟩
           have hLk := hide (lkt_all HV.out HG.out (i := j) (s := S) (by rw [← hnl.out]; exact hjn) (by rw [← hS.out]; exact stN_lang k hk8) (A := A) (by rw [hAN.out]; exact hNn.out) hRd.out.bd)
           obtain ⟨L, hL⟩ : ∃ L, Hid (stepsL t S l j = L) := ⟨_, hide rfl⟩
           rw [hL.out] at hLk
           obtain ⟨LN, hLN⟩ : ∃ LN, L.length = LN := ⟨_, rfl⟩
           have hLN6 : LN ≤ 1000000 := by rw [← hLN, ← hL.out]; exact steps_few HV.out S l j
           obtain ⟨⟨LI, LV⟩, hLI⟩ : ∃ q : Int × Int, Hid (leastF (lookA A j) L = q) := ⟨_, hide rfl⟩
           clear hcl
           go_wp2_with fail
           refine wp_region_free 17 [⟨0, 51, [51], fun vs _ => vs = [.slice (some ⟨bA, 0, none⟩) N N]⟩, ⟨1, 52, [52], fun vs _ => vs = [.int .i64 (j : Int)]⟩, ⟨2, 53, [53], fun vs _ => vs = [.int .i64 (k : Int)]⟩, ⟨3, 54, [54], fun vs _ => vs = [H.v]⟩, ⟨4, 55, [55], fun vs _ => vs = [sv S]⟩, ⟨5, 56, [56], fun vs _ => vs = [.slice a n c]⟩, ⟨6, 57, [57], fun vs _ => vs = [.int .i64 (j : Int)]⟩, ⟨7, 58, [58], FStn LN L⟩, ⟨8, 59, [59], fun vs _ => vs = [.slice (some ⟨bA, 0, none⟩) N N]⟩, ⟨9, 60, [60], fun vs _ => vs = [.int .i64 (j : Int)]⟩, ⟨10, 61, [61], RcF bA j A⟩, ⟨11, 62, [62], fun vs _ => vs = [.tuple #[.int .i64 LI, .int .i64 LV]]⟩, ⟨12, 50, [50], fun vs _ => vs = [.tuple #[.int .i64 LI, .int .i64 LV]]⟩, ⟨13, 63, [63], fun vs _ => vs = [.int .i64 LI]⟩, ⟨14, 64, [64], fun vs _ => vs = [.int .i64 LV]⟩, ⟨15, 65, [65], fun vs _ => vs = [.pointer (some ⟨bA, j * 8, none⟩)]⟩, ⟨16, 66, [66], fun vs _ => vs = [.pointer (some ⟨bA, j * 8 + k, none⟩)]⟩] (by kernel_rfl) (by kernel_rfl) ?_ ?_ ?_
           ·simp only [All]
            refine ⟨fun _ _ _ _ h => h, fun _ _ _ _ h => h, fun _ _ _ _ h => h, fun _ _ _ _ h => h, fun _ _ _ _ h => h, fun _ _ _ _ h => h, fun _ _ _ _ h => h, ?_, fun _ _ _ _ h => h, fun _ _ _ _ h => h, ?_, fun _ _ _ _ h => h, fun _ _ _ _ h => h, fun _ _ _ _ h => h, fun _ _ _ _ h => h, fun _ _ _ _ h => h, fun _ _ _ _ h => h, trivial⟩
            ·exact fun vs w1 w2 hb h => h.below hb
            ·exact fun vs w1 w2 hb h => h.below hb
           ·simp only [All]
            refine ⟨?_, ?_, ?_, ?_, ?_, ?_, ?_, ?_, ?_, ?_, ?_, ?_, ?_, ?_, ?_, ?_, ?_, trivial⟩
            ·intro o ho a' w' hb hfr hdep; obtain rfl := oj ho
             have g5 : a'.tmps[5]?.getD undef = .slice (some ⟨bA, 0, none⟩) N N := by simpa using hfr 5 (by kernel_rfl)
             clear ho hfr hdep; go_wp2_with fail; exact ⟨rfl, _, rfl, br, rfl⟩
            ·intro o ho a' w' hb hfr hdep; obtain rfl := oj ho
             have g6 : a'.tmps[6]?.getD undef = .int .i64 (j : Int) := by simpa using hfr 6 (by kernel_rfl)
             clear ho hfr hdep; go_wp2_with fail; exact ⟨rfl, _, rfl, br, rfl⟩
            ·intro o ho a' w' hb hfr hdep; obtain rfl := oj ho
             have g9 : a'.tmps[9]?.getD undef = .int .i64 (k : Int) := by simpa using hfr 9 (by kernel_rfl)
             clear ho hfr hdep; go_wp2_with fail; exact ⟨rfl, _, rfl, br, rfl⟩
            ·intro o ho a' w' hb hfr hdep; obtain rfl := oj ho
             have g2 : a'.tmps[2]?.getD undef = .pointer (some ⟨gT, 0, none⟩) := by simpa using hfr 2 (by kernel_rfl)
             clear ho hfr hdep; refine load_struct 54 29 _ 7 size_tables _ Try.underlying29 ⟨gT, 0, none⟩ (by show a'.tmps.getD 2 undef = _; simpa using g2) (tcells H) rfl (fun j u hj => by rw [Addr.add_lit, Nat.zero_add]; exact (HXT.under hb).at_ hj) ?_
             exact ⟨rfl, _, rfl, br, rfl⟩
            ·intro o ho a' w' hb hfr hdep; obtain rfl := oj ho
             have g10 : a'.tmps[10]?.getD undef = .pointer (some ⟨gS, 0, none⟩) := by simpa using hfr 10 (by kernel_rfl)
             clear ho hfr hdep; refine load_struct 55 63 _ 3 size_state _ Try.underlying63 ⟨gS, 0, none⟩ (by show a'.tmps.getD 10 undef = _; simpa using g10) (scells S) rfl (fun j u hj => by rw [Addr.add_lit, Nat.zero_add]; exact (HSB.under hb).at_ hj) ?_
             exact ⟨rfl, _, rfl, br, rfl⟩
            ·intro o ho a' w' hb hfr hdep; obtain rfl := oj ho
             have g1 : a'.tmps[1]?.getD undef = .slice a n c := by simpa using hfr 1 (by kernel_rfl)
             clear ho hfr hdep; go_wp2_with fail; exact ⟨rfl, _, rfl, br, rfl⟩
            ·intro o ho a' w' hb hfr hdep; obtain rfl := oj ho
             have g6 : a'.tmps[6]?.getD undef = .int .i64 (j : Int) := by simpa using hfr 6 (by kernel_rfl)
             clear ho hfr hdep; go_wp2_with fail; exact ⟨rfl, _, rfl, br, rfl⟩
            ·intro o ho a' w' hb hfr hdep; obtain rfl := oj ho
             have g54 : a'.tmps[54]?.getD undef = H.v := by simpa using hdep 3 _ rfl (by kernel_rfl)
             have g55 : a'.tmps[55]?.getD undef = sv S := by simpa using hdep 4 _ rfl (by kernel_rfl)
             have g56 : a'.tmps[56]?.getD undef = .slice a n c := by simpa using hdep 5 _ rfl (by kernel_rfl)
             have g57 : a'.tmps[57]?.getD undef = .int .i64 (j : Int) := by simpa using hdep 6 _ rfl (by kernel_rfl)
             clear ho hfr hdep; have hst := hide (steps_of H t S l j hL.out a n c (by omega) w' (HTT.below hb) (HSl.below hb))
             go_wp2_with (go_at_call 28; refine hst.out.mono ?_; rintro e w2 ⟨a2, c2, ps2, rfl, hS2, h2⟩)
             exact ⟨rfl, _, rfl, h2, a2, c2, ps2, rfl, by rw [hLN] at hS2; exact hS2⟩
            ·intro o ho a' w' hb hfr hdep; obtain rfl := oj ho
             have g5 : a'.tmps[5]?.getD undef = .slice (some ⟨bA, 0, none⟩) N N := by simpa using hfr 5 (by kernel_rfl)
             clear ho hfr hdep; go_wp2_with fail; exact ⟨rfl, _, rfl, br, rfl⟩
            ·intro o ho a' w' hb hfr hdep; obtain rfl := oj ho
             have g6 : a'.tmps[6]?.getD undef = .int .i64 (j : Int) := by simpa using hfr 6 (by kernel_rfl)
             clear ho hfr hdep; go_wp2_with fail; exact ⟨rfl, _, rfl, br, rfl⟩
            ·intro o ho a' w' hb hfr hdep; obtain rfl := oj ho
             have g59 : a'.tmps[59]?.getD undef = .slice (some ⟨bA, 0, none⟩) N N := by simpa using hdep 8 _ rfl (by kernel_rfl)
             have g60 : a'.tmps[60]?.getD undef = .int .i64 (j : Int) := by simpa using hdep 9 _ rfl (by kernel_rfl)
             clear ho hfr hdep; have hrc := hide (con_reach (.slice (some ⟨bA, 0, none⟩) N N) j N bA w' rfl)
             go_wp2_with (go_at_call 54; refine hrc.out.mono ?_; rintro e w2 ⟨b1, b2, rfl, X1, X2, h2⟩)
             exact ⟨rfl, _, rfl, h2, b1, b2, rfl, ⟨by rw [hAN.out]; exact X1, X2, (HBA.under hb).under h2, hRd.out.r8, by rw [hAN.out]; omega⟩⟩
            ·intro o ho a' w' hb hfr hdep; obtain rfl := oj ho
             obtain ⟨a58, c58, ps58, g58, S58⟩ := hdep 7 _ rfl (by kernel_rfl)
             simp at g58
             obtain ⟨b61, d61, g61, R61⟩ := hdep 10 _ rfl (by kernel_rfl)
             simp at g61
             clear ho hfr hdep; have hls := hide (con_least (lookA A j) ps58 L a58 LN c58 b61 d61 w' S58 hLN6 (fun p hp w3 hb3 => reach_1 p A bA b61 d61 j w3 (R61.below hb3) (hLk.out p.1 (stl_mem S58 p hp)) (stl_hdr S58 p hp)))
             rw [hLI.out] at hls
             go_wp2_with (go_at_call 52; refine hls.out.mono ?_; rintro e w2 ⟨rfl, h2⟩)
             exact ⟨rfl, _, rfl, h2, rfl⟩
            ·intro o ho a' w' hb hfr hdep; obtain rfl := oj ho
             have g62 : a'.tmps[62]?.getD undef = .tuple #[.int .i64 LI, .int .i64 LV] := by simpa using hdep 11 _ rfl (by kernel_rfl)
             clear ho hfr hdep; go_wp2_with fail; exact ⟨rfl, _, rfl, br, rfl⟩
            ·intro o ho a' w' hb hfr hdep; obtain rfl := oj ho
             have g50 : a'.tmps[50]?.getD undef = .tuple #[.int .i64 LI, .int .i64 LV] := by simpa using hdep 12 _ rfl (by kernel_rfl)
             clear ho hfr hdep; go_wp2_with fail; exact ⟨rfl, _, rfl, br, rfl⟩
            ·intro o ho a' w' hb hfr hdep; obtain rfl := oj ho
             have g50 : a'.tmps[50]?.getD undef = .tuple #[.int .i64 LI, .int .i64 LV] := by simpa using hdep 12 _ rfl (by kernel_rfl)
             clear ho hfr hdep; go_wp2_with fail; exact ⟨rfl, _, rfl, br, rfl⟩
            ·intro o ho a' w' hb hfr hdep; obtain rfl := oj ho
             have g51 : a'.tmps[51]?.getD undef = .slice (some ⟨bA, 0, none⟩) N N := by simpa using hdep 0 _ rfl (by kernel_rfl)
             have g52 : a'.tmps[52]?.getD undef = .int .i64 (j : Int) := by simpa using hdep 1 _ rfl (by kernel_rfl)
             clear ho hfr hdep; refine index_knownN 65 90 _ _ 93 Try.underlying90 8 size_row8 bA N N (by show a'.tmps.getD 51 undef = _; simpa using g51) _ _ j (by show a'.tmps.getD 52 undef = _; simpa using g52) rfl hjN ?_
             exact ⟨rfl, _, rfl, br, rfl⟩
            ·intro o ho a' w' hb hfr hdep; obtain rfl := oj ho
             have g65 : a'.tmps[65]?.getD undef = .pointer (some ⟨bA, j * 8, none⟩) := by simpa using hdep 15 _ rfl (by kernel_rfl)
             have g53 : a'.tmps[53]?.getD undef = .int .i64 (k : Int) := by simpa using hdep 2 _ rfl (by kernel_rfl)
             clear ho hfr hdep; refine index_arrp 66 93 _ _ 3 8 Try.underlying93 size_int bA (j * 8) (by show a'.tmps.getD 65 undef = _; simpa using g65) _ _ k (by show a'.tmps.getD 53 undef = _; simpa using g53) rfl hk8 ?_
             exact ⟨rfl, _, rfl, br, rfl⟩
           ·intro gg w5 hbl hp'
            have p64 := hp' 14 _ rfl
            have p66 := hp' 16 _ rfl
            clear hp'
            simp at p64 p66
            simp only [List.drop_succ_cons, List.drop_zero, List.map_cons, List.map_nil, putAll, Act.put, List.setIfInBounds_toArray, List.set_cons_succ, List.set_cons_zero, List.cons_append, List.nil_append, p64, p66]
            clear p64 p66
            have HB5 := HBA.under hbl
            have hb5 := hbw3.trans (hbl.mono hbw3.size)
            go_wp2_with (with_reducible refine hold_store ?_)
            refine hide ?_
            refine store_cell 3 _ _ 93 bA (j * 8 + k) _ (.int .i64 LV) size_int HB5 rfl rfl rfl rfl (by rw [nf_len A hRd.out.r8, hAN.out]; omega) ?_; intro w6 HB6 gb6 zb6
            have HB6' : Hid (Box w6 bA 93 ((turnU t l j g τ (k + 1) (stgT t l j g A0 τ)).flatMap rowc)) := hide (by
             have e := nf_set A hRd.out.r8 hrow.out hk8 LV
             have h6 : Box w6 bA 93 ((A.flatMap rowc).set (j * 8 + k) (I64 LV)) := HB6
             rw [e, cell_upd (t := t) (l := l) hRd.out.r8 hrow.out LV (by rw [hS.out, hL.out, hLI.out])] at h6
             simp only [turnU]
             rw [if_pos (by rw [hcond.out]), hAe.out]
             exact h6)
            have hb6 := hb5.grown gb6 hb5.size (fun q hq => by cases hq; exact hbA0.out)
            have hX6 := (HXT.under hbl).grown gb6 hgA
            clear HB5 HB6 gb6 zb6 hbl hb5
            go_wp2_with fail
            go_roundg (8 - (k + 1))
            case measure => omega
            case rel => exact ⟨k + 1, by omega, rfl, by go_num, HB6'.out, hX6, hb6⟩
          
          | false =>
           go_wp2_with fail
           go_roundg (8 - (k + 1))
           case measure => omega
           case rel => exact ⟨k + 1, by omega, rfl, by go_num, by
            simp only [turnU]
            rw [if_neg (by rw [hcond.out]; simp), hAe.out]
            exact HBA, HXT, hbw3⟩
        ·obtain rfl : k = 8 := by omega
         go_wp2_with fail
         go_roundg (2 - (τ + 1))
         case measure => omega
         case rel => exact ⟨τ + 1, by omega, rfl, by go_num, hBA, hXT, hbw⟩
      ·obtain rfl : τ = 2 := by omega
       go_wp2_with fail
       go_roundg j
       case measure => omega
       case rel => exact ⟨j, P, by omega, rfl, rfl, hPj, hQ8, hQb, by rw [hsuf.out]; exact hBA, hXT, hbw⟩
end Go.Proofs.Ytlpkicjijlcbfaa
end

section
/- A region that draws its order (as XFree), and a slot that a late operation writes may be read by those that it waits for. No program in sight. -/
namespace Go.Dx
open Go.RowKit
section
variable {P : Program}
structure FreeInvL (l : List Oper) (n : Nat) (T : List HOp) (a0 : Act) (w0 : World) (listed : Array Bool) (a : Act) (w : World) : Prop where
 inv : HeadInv .any l.toArray n listed
 defers : a.defers = a0.defers
 size : a.tmps.size = a0.tmps.size
 frame : ∀ k, (∀ t ∈ T, t.d ≠ k) → a.tmps.getD k undef = a0.tmps.getD k undef
 bel : Below w0.heap.size w0 w
 facts : ∀ t ∈ T, listed.getD t.i false = true → t.fact a w
 late : ∀ t ∈ T, listed.getD t.i false = false → a.tmps.getD t.d undef = a0.tmps.getD t.d undef

theorem wp_region_freeL {id : Nat} {Q : Exit → Act → World → Prop} {a0 : Act} {w0 : World} {l : List Oper} (n : Nat) (T : List HOp) (hm : P.follows .mixedOrders = true)
  (hB : headOk l n (T.map fun t => (t.i, t.d, t.s)) a0.tmps.size = true)
  (hmono : All (fun t : HOp => ∀ vs w w', Below w.heap.size w w' → t.p vs w → t.p vs w') T)
  (hop : All (fun t : HOp => ∀ o, l[t.i]? = some o → ∀ (a : Act) (w : World), Below w0.heap.size w0 w →
   (∀ k, (T.map (·.d)).contains k = false → a.tmps.getD k undef = a0.tmps.getD k undef) →
   (∀ (k : Nat) (u : HOp), T[k]? = some u → Region.waitsFor .any l.toArray t.i u.i = true → u.p (u.s.map fun k => a.tmps.getD k undef) w) →
   (∀ (k : Nat) (u : HOp), T[k]? = some u → Region.waitsFor .any l.toArray u.i t.i = true → a.tmps.getD u.d undef = a0.tmps.getD u.d undef) →
   wpList P l.toArray (OneDone t.d a w fun v w' => t.p (t.s.map fun k => if t.d = k then v else a.tmps.getD k undef) w') [o] a w) T)
  (hend : ∀ (g : Nat → Value) (w : World), Below w0.heap.size w0 w → (∀ (k : Nat) (u : HOp), T[k]? = some u → u.p (u.s.map fun k => if k ∈ T.map (·.d) then g k else a0.tmps.getD k undef) w) →
   wpList P l.toArray Q (l.drop n) (putAll a0 ((T.map (·.d)).map fun d => (d, g d))) w) : (Code.region id l.toArray true).wp P Q a0 w0 := by
 simp only [headOk, Bool.and_eq_true, decide_eq_true_eq] at hB
 obtain ⟨⟨⟨⟨⟨⟨⟨hnd, hn⟩, hs⟩, hc⟩, hseq⟩, hcov⟩, hT⟩, hpair⟩ := hB
 have hnodup : ∀ t ∈ T, ∀ u ∈ T, t.i = u.i → t = u := inj_nodup (·.i) T (by rw [List.map_map] at hnd; exact hnd)
 have hn' : n < l.toArray.size := by simpa using hn
 have cover : ∀ j, j < n → ∃ t ∈ T, t.i = j := by
  intro j hj
  have h := List.all_eq_true.1 hcov j (List.mem_range.2 hj)
  obtain ⟨x, hx, he⟩ := List.any_eq_true.1 h
  obtain ⟨t, ht, rfl⟩ := List.mem_map.1 hx
  exact ⟨t, ht, by simpa using he⟩
 have own : ∀ t ∈ T, t.i < n ∧ t.d < a0.tmps.size ∧ ∃ o, l[t.i]? = some o ∧ o.dst = some t.d ∧ ∀ e ∈ o.after, Region.binds .any e = true → e.on < t.i := by
  intro t ht
  have h := List.all_eq_true.1 hT _ (List.mem_map.2 ⟨t, ht, rfl⟩)
  simp only [Bool.and_eq_true, decide_eq_true_eq] at h
  obtain ⟨⟨h1, h2⟩, h3⟩ := h
  refine ⟨h1, h2, ?_⟩
  cases ho : l[t.i]? with
  | none => rw [ho] at h3; cases h3
  | some o =>
   rw [ho] at h3
   simp only [Bool.and_eq_true, beq_iff_eq] at h3
   refine ⟨o, rfl, h3.1, fun e he hb => ?_⟩
   have := Array.all_eq_true_iff_forall_mem.1 h3.2 e he
   simpa [hb] using this
 have pair : ∀ t ∈ T, ∀ u ∈ T, t.i ≠ u.i → t.d ≠ u.d ∧ (t.d ∈ u.s → Region.waitsFor .any l.toArray u.i t.i = true) := by
  intro t ht u hu hne
  have h := List.all_eq_true.1 (List.all_eq_true.1 hpair _ (List.mem_map.2 ⟨t, ht, rfl⟩)) _ (List.mem_map.2 ⟨u, hu, rfl⟩)
  simp only [Bool.or_eq_true, beq_iff_eq, hne, false_or, Bool.and_eq_true, bne_iff_ne, ne_eq, Bool.not_eq_true'] at h
  refine ⟨h.1, fun hin => ?_⟩
  rcases h.2 with h2 | h2
  ·have : u.s.contains t.d = true := by simpa using hin
   rw [this] at h2; cases h2
  ·exact h2
 have key : ∀ (f : Nat) (listed : Array Bool) (a : Act) (w : World), FreeInvL l n T a0 w0 listed a w → todo listed n = f → wpAny P .any l.toArray Q (f + (l.length - n)) listed a w := by
  intro f
  induction f with
  | zero =>
   intro listed a w I h0
   have hall : ∀ j, j < n → listed.getD j true = true := by
    intro j hj
    cases hb : listed.getD j true with
    | true => rfl
    | false =>
     have : j ∈ (List.range n).filter fun j => !listed.getD j true := List.mem_filter.2 ⟨List.mem_range.2 hj, by rw [hb]; rfl⟩
     unfold todo at h0
     rw [List.eq_nil_of_length_eq_zero h0] at this
     cases this
   have hlist : listed = (List.replicate n true ++ List.replicate (l.length - n) false).toArray := by
    have hsz := I.inv.size
    apply Array.ext
    ·simp at hsz ⊢; omega
    ·intro j h1 h2
     by_cases hj : j < n
     ·have := hall j hj
      simp [Array.getD, h1] at this
      simp [this, List.getElem_append_left, hj]
     ·have := I.inv.tail j (by omega) (by rw [← hsz]; exact h1)
      simp [Array.getD, h1] at this
      simp only [this, List.getElem_toArray]
      rw [List.getElem_append_right (by simp; omega)]
      simp
   have ha : a = putAll a0 ((T.map (·.d)).map fun d => (d, a.tmps.getD d undef)) := by
    have hd : ∀ d ∈ T.map (·.d), d < a0.tmps.size := by
     intro d hd
     obtain ⟨t, ht, rfl⟩ := List.mem_map.1 hd
     exact (own t ht).2.1
    refine act_ext (by rw [putAll_defers]; exact I.defers) (by rw [putAll_size]; exact I.size) (fun k => ?_)
    rw [putAll_get (fun d => a.tmps.getD d undef) _ _ _ hd]
    by_cases h : k ∈ T.map (·.d)
    ·rw [if_pos h]
    ·rw [if_neg h]
     exact I.frame k (fun t ht e => h (List.mem_map.2 ⟨t, ht, e⟩))
   have hfin := hend (fun d => a.tmps.getD d undef) w I.bel (fun k u hu => by
    have hu' := List.mem_of_getElem? hu
    have h1 := I.facts u hu' (by
     have := hall u.i (own u hu').1
     rcases Nat.lt_or_ge u.i listed.size with h' | h'
     ·simp [h'] at this ⊢; exact this
     ·have := I.inv.size; have := (own u hu').1; omega)
    unfold HOp.fact at h1
    have e : (u.s.map fun k => if k ∈ T.map (·.d) then a.tmps.getD k undef else a0.tmps.getD k undef) = u.s.map fun k => a.tmps.getD k undef := by
     apply List.map_congr_left
     intro k _
     by_cases h : k ∈ T.map (·.d)
     ·rw [if_pos h]
     ·rw [if_neg h]
      exact (I.frame k (fun t ht e => h (List.mem_map.2 ⟨t, ht, e⟩))).symm
    rw [e]
    exact h1)
   rw [← ha] at hfin
   rw [Nat.zero_add]
   have hseq' : Region.seqB .any l.toArray (l.drop n).length n listed = true := by rw [hlist, List.length_drop]; exact hseq
   have := wpAny_of_seq (md := .any) (Q' := Q) (l.drop n) n listed a w (fun j => by simp [List.getElem?_drop]) hseq' hfin
   rwa [List.length_drop] at this
  | succ f ih =>
   intro listed a w I hf
   have hex : ∃ j, j < n ∧ listed.getD j true = false := by
    cases hL : (List.range n).filter fun j => !listed.getD j true with
    | nil => unfold todo at hf; rw [hL] at hf; cases hf
    | cons j L =>
     have : j ∈ (List.range n).filter fun j => !listed.getD j true := by rw [hL]; exact List.mem_cons_self
     obtain ⟨h1, h2⟩ := List.mem_filter.1 this
     exact ⟨j, List.mem_range.1 h1, by simpa using h2⟩
   have hready : Region.ready .any l.toArray listed ≠ [] := by
    have hmin : ∀ m j, j ≤ m → j < n → listed.getD j true = false → ∃ i, i ∈ Region.ready .any l.toArray listed := by
     intro m
     induction m with
     | zero =>
      intro j hj hjn hjl
      have hj0 : j = 0 := by omega
      subst hj0
      obtain ⟨t, ht, hti⟩ := cover 0 hjn
      obtain ⟨_, _, o, ho, _, hb⟩ := own t ht
      rw [hti] at ho hb
      exact ⟨0, mem_ready.2 ⟨hjl, o, by simpa using ho, fun e he hbe => absurd (hb e he hbe) (by omega)⟩⟩
     | succ m ihm =>
      intro j hj hjn hjl
      obtain ⟨t, ht, hti⟩ := cover j hjn
      obtain ⟨_, _, o, ho, _, hb⟩ := own t ht
      rw [hti] at ho hb
      by_cases hall : ∀ e ∈ o.after, Region.binds .any e = true → listed.getD e.on false = true
      ·exact ⟨j, mem_ready.2 ⟨hjl, o, by simpa using ho, hall⟩⟩
      ·simp only [Classical.not_forall] at hall
       obtain ⟨e, he, hbe, hne⟩ := hall
       have hlt := hb e he hbe
       have hes : e.on < listed.size := by rw [I.inv.size]; simp; omega
       exact ihm e.on (by omega) (by omega) (getD_in hes (by simpa using hne))
    obtain ⟨j, hj, hjl⟩ := hex
    obtain ⟨i, hi⟩ := hmin j j (Nat.le_refl _) hj hjl
    intro h
    rw [h] at hi
    cases hi
   rw [show f + 1 + (l.length - n) = (f + (l.length - n)) + 1 by omega]
   refine ⟨fun h => absurd h hready, fun i hi => ?_⟩
   have hin : i < n := by
    rcases Nat.lt_or_ge i n with h | h
    ·exact h
    ·obtain ⟨j, hj, hjl⟩ := hex
     exact absurd hi (tail_waits hs hc hn' I.inv _ j rfl hj hjl i h)
   obtain ⟨t, ht, hti⟩ := cover i hin
   obtain ⟨_, htd, o, ho, hdst, _⟩ := own t ht
   obtain ⟨hil, oi, hoi, hafter⟩ := mem_ready.1 hi
   have hoo : oi = o := by rw [hti] at ho; exact Option.some.inj (hoi.symm.trans (by simpa using ho))
   subst hoo
   have H := hop.mem t ht oi ho a w I.bel (fun k hk => I.frame k (fun u hu e => by
     have : (T.map (·.d)).contains k = true := by simpa using ⟨u, hu, e⟩
     rw [this] at hk; cases hk)) (fun k u hu hw => by
    have hu' := List.mem_of_getElem? hu
    obtain ⟨oj, hoj, e, he, hb, hon⟩ := Region.waitsFor_spec hw
    have : oj = oi := by rw [hti] at hoj; exact Option.some.inj (hoj.symm.trans hoi)
    subst this
    have h1 := hafter e he hb
    rw [hon] at h1
    exact I.facts u hu' h1) (fun k u hu hw => by
    have hu' := List.mem_of_getElem? hu
    refine I.late u hu' ?_
    cases hl : listed.getD u.i false with
    | false => rfl
    | true =>
     obtain ⟨ou, hou, e, he, hb, hon⟩ := Region.waitsFor_spec hw
     have := I.inv.closed u.i ou hou hl e he hb
     rw [hon, hti, getD_both hil] at this
     cases this)
   have step : ∀ (a' : Act) (w' : World), OneDone t.d a w (fun v w' => t.p (t.s.map fun k => if t.d = k then v else a.tmps.getD k undef) w') .normal a' w' → wpAny P .any l.toArray Q (f + (l.length - n)) (listed.setIfInBounds i true) a' w' := by
    intro a' w' h
    obtain ⟨_, v, rfl, hbel, hp⟩ := h
    refine ih _ _ _ ⟨I.inv.set hi hin, I.defers, ?_, ?_, ?_, ?_, ?_⟩ ?_
    ·rw [← I.size]; simp [Act.put]
    ·intro k hk
     rw [put_get, if_neg (fun h => hk t ht h.1)]
     exact I.frame k hk
    ·exact I.bel.trans (hbel.mono I.bel.size)
    ·intro u hu hul
     by_cases hui : t.i = u.i
     ·have hd : u.d = t.d ∨ True := .inr trivial
      unfold HOp.fact
      by_cases hut : u = t
      ·subst hut
       have e : (u.s.map fun k => (a.put (some u.d) v).tmps.getD k undef) = u.s.map fun k => if u.d = k then v else a.tmps.getD k undef := by
        apply List.map_congr_left
        intro k _
        rw [put_get, I.size]
        by_cases hk : u.d = k
        ·rw [if_pos ⟨hk, htd⟩, if_pos hk]
        ·rw [if_neg (fun h => hk h.1), if_neg hk]
       rw [e]
       exact hp
      ·exact absurd (hnodup t ht u hu hui).symm hut
     ·unfold HOp.fact
      have hul2 : listed.getD u.i false = true := by rw [← getD_set_ne false (i := i) (j := u.i) (by rw [← hti]; exact hui)]; exact hul
      have h1 := hmono.mem u hu _ _ _ hbel (I.facts u hu hul2)
      have hnot : t.d ∉ u.s := by
       intro hin2
       have hw := (pair t ht u hu hui).2 hin2
       obtain ⟨ou, hou, e, he, hb, hon⟩ := Region.waitsFor_spec hw
       have := I.inv.closed u.i ou hou hul2 e he hb
       rw [hon, hti, getD_both hil] at this
       cases this
      have e : (u.s.map fun k => (a.put (some t.d) v).tmps.getD k undef) = u.s.map fun k => a.tmps.getD k undef := by
       apply List.map_congr_left
       intro k hk
       rw [put_get, if_neg (fun (h : t.d = k ∧ t.d < a.tmps.size) => hnot (by rw [h.1]; exact hk))]
      rw [e]
      exact h1
    ·intro u hu hul
     have hui : t.i ≠ u.i := fun h => by
      have h2 : i < listed.size := by rw [I.inv.size]; simp; omega
      rw [← h, hti] at hul
      simp [h2] at hul
     have hul2 : listed.getD u.i false = false := by rw [← getD_set_ne false (i := i) (j := u.i) (by rw [← hti]; exact hui)]; exact hul
     rw [put_get, if_neg (fun h => (pair t ht u hu hui).1 h.1)]
     exact I.late u hu hul2
    ·have := todo_set hin hil; omega
   unfold wpList at H
   unfold wpOp
   rw [hoi]
   simp only
   by_cases hwant : Region.wanted oi (yielded l.toArray a.tmps) = true
   ·rw [if_pos hwant] at H
    rw [if_pos hwant]
    left
    rcases H with H | ⟨_, a1, w1, h1, _⟩
    ·exact wp_both (fun a' w' h => step a' w' h) (fun e a' w' he h => absurd h.1 he) H
    ·cases h1
   ·rw [if_neg hwant] at H
    rw [if_neg hwant]
    exact step _ _ H
 refine wp_region_any hm ?_
 have inv0 : HeadInv .any l.toArray n (Array.replicate l.toArray.size false) :=
  ⟨by simp, fun j oj _ hl => (by rw [getD_replicate_false] at hl; cases hl), fun t _ ht => getD_in (by simpa using ht) (getD_replicate_false _ _)⟩
 have I0 : FreeInvL l n T a0 w0 (Array.replicate l.toArray.size false) a0 { w0 with drawn := w0.drawn + 1 } :=
  ⟨inv0, rfl, rfl, fun _ _ => rfl, Still.below 1, fun t _ hl => (by rw [getD_replicate_false] at hl; cases hl), fun _ _ _ => rfl⟩
 have ht0 : todo (Array.replicate l.toArray.size false) n = n := by
  unfold todo
  rw [List.filter_eq_self.2 (fun j hj => by
   have hj' := List.mem_range.1 hj
   have : (Array.replicate l.toArray.size false).getD j true = false := getD_in (by simp; omega) (getD_replicate_false _ _)
   rw [this]; rfl), List.length_range]
 have := key n _ _ _ I0 ht0
 rwa [show n + (l.length - n) = l.toArray.size by simp; omega] at this
end
end Go.Dx
end

section
/- Chapter 08: do the tables and the text fit. -/
namespace Go.Proofs.Ytlpkicjijlcbfaa
open Go.RowKit Go.Dx Go.Al
set_option maxRecDepth 100000 in
set_option maxHeartbeats 4000000 in
theorem con_fits (H : TH) (t : Ta) (l : List Sy) (a : Option Addr) (n c : Nat) (w : World) (hT : TaIs w H t) (hs : Sl w 2 a n c (l.flatMap sc)) :
  Calls Try.prog 38 #[H.v, .slice a n c] w fun e w' => e = .returned (.int .i64 (fitsE t l)) ∧ Below w.heap.size w w' := by
 have hnl : n = l.length := hs.nf sc_len (by decide)
 obtain ⟨FE, hFE⟩ : ∃ FE, Hid (fitsE t l = FE) := ⟨_, hide rfl⟩
 rw [hFE.out]
 have HFE := hFE
 unfold fitsE at HFE
 rw [← hnl] at HFE
 have hSa := hide (fun (w' : World) (hb : Below w.heap.size w w') => contains_yf l a n c w' (hs.below hb))
 have Hm := hide hT
 clear hT hs hnl
 obtain ⟨⟨a0, n0, c0⟩, ⟨a1, n1, c1⟩, ps0, ps1, ⟨ad, nd, cd⟩, ⟨ac, nc, cc⟩, ⟨an, nn, cn⟩, ⟨af, nf, cf⟩, ⟨aw, nw, cw⟩⟩ := H
 unfold TH.v
 simp only [hdv]
 have Y1 := Box.new w 29 #[.slice a0 n0 c0, .slice a1 n1 c1, .slice ad nd cd, .slice ac nc cc, .slice an nn cn, .slice af nf cf, .slice aw nw cw]
 have hba := blo w (.cells #[.slice a0 n0 c0, .slice a1 n1 c1, .slice ad nd cd, .slice ac nc cc, .slice an nn cn, .slice af nf cf, .slice aw nw cw] 29)
 have hTv : Hid (∀ w', Below (w.alloc (.cells #[.slice a0 n0 c0, .slice a1 n1 c1, .slice ad nd cd, .slice ac nc cc, .slice an nn cn, .slice af nf cf, .slice aw nw cw] 29)).heap.size (w.alloc (.cells #[.slice a0 n0 c0, .slice a1 n1 c1, .slice ad nd cd, .slice ac nc cc, .slice an nn cn, .slice af nf cf, .slice aw nw cw] 29)) w' → Calls Try.prog 56 #[(⟨(a0, n0, c0), (a1, n1, c1), ps0, ps1, (ad, nd, cd), (ac, nc, cc), (an, nn, cn), (af, nf, cf), (aw, nw, cw)⟩ : TH).v] w' fun e w2 => e = .returned (.int .i64 (validE t)) ∧ Below w'.heap.size w' w2) := hide (fun w' hb => tab_Valid _ t w' ((Hm.out.below hba).below hb))
 go_enter Try.func38, Try.ntmps38
 go_wp2_with (first
  | (with_reducible refine load_struct 6 29 _ 7 size_tables _ Try.underlying29 ⟨w.heap.size, 0, none⟩ rfl [.slice a0 n0 c0, .slice a1 n1 c1, .slice ad nd cd, .slice ac nc cc, .slice an nn cn, .slice af nf cf, .slice aw nw cw] rfl (fun j u hj => by rw [Addr.add_lit, Nat.zero_add]; exact Y1.at_ hj) ?_)
  | (go_at_call 56; refine (hTv.out _ (Below.refl _ _)).mono ?_; rintro e w2 ⟨rfl, hb2⟩; refine hold ?_))
 refine hide ?_
 have hbw := hba.trans (hb2.mono hba.size)
 clear hTv hba hb2 Y1 Hm
 obtain ⟨V, hV⟩ : ∃ V, Hid (validE t = V) := ⟨_, hide rfl⟩
 rw [hV.out] at HFE ⊢
 generalize w.alloc (.cells _ 29) = w1 at *
 by_cases hv : V = 0
 ·subst hv
  rw [if_neg (by simp)] at HFE
  have hcf := hide (hSa.out w2 hbw)
  obtain ⟨G, hG⟩ : ∃ G, Hid (goodS l = G) := ⟨_, hide rfl⟩
  rw [hG.out] at hcf HFE
  cases G with
  | false =>
   rw [if_pos rfl] at HFE
   obtain rfl := HFE.out
   go_wp2_with (go_at_call 57; refine hcf.out.mono ?_; rintro e w3 ⟨rfl, hb3⟩)
   go_ret
   exact ⟨rfl, hbw.trans (hb3.mono hbw.size)⟩
  | true =>
   rw [if_neg (by simp)] at HFE
   by_cases h2 : 2048 < n
   ·have d1 : decide (2048 < (n : Int)) = true := decide_eq_true (by omega)
    rw [if_pos h2] at HFE
    obtain rfl := HFE.out
    go_wp2_with (go_at_call 57; refine hcf.out.mono ?_; rintro e w3 ⟨rfl, hb3⟩)
    go_ret
    exact ⟨rfl, hbw.trans (hb3.mono hbw.size)⟩
   ·have d1 : decide (2048 < (n : Int)) = false := decide_eq_false (by omega)
    rw [if_neg h2] at HFE
    obtain rfl := HFE.out
    go_wp2_with (go_at_call 57; refine hcf.out.mono ?_; rintro e w3 ⟨rfl, hb3⟩)
    go_ret
    exact ⟨rfl, hbw.trans (hb3.mono hbw.size)⟩
 ·rw [if_pos hv] at HFE
  obtain rfl := HFE.out
  have d0 : (V == 0) = false := by simp [hv]
  go_wp2_with fail
  go_ret
  exact ⟨rfl, hbw⟩
end Go.Proofs.Ytlpkicjijlcbfaa
end

section
/- Chapter 06: rules that a call owns, with cells that lie below or that the call owns; what later stores leave. -/
namespace Go.Dx
open Go.RowKit
theorem Own.zero3 {w : World} {B : Nat} {e : TypeId} {p : Addr} {n c : Nat} {sz : Nat} {xs : List Value} (h : Own w B e sz (some p) n c xs) : p = ⟨p.block, 0, none⟩ := by
 rcases h.2 with ⟨h1, _⟩ | ⟨g, cap, cur, h1, _⟩
 ·cases h1
 ·injection h1 with h1 hn hc
  injection h1 with h1
  subst h1; rfl
structure OL (w0 w : World) (E U : TypeId) (B : Nat) (a : Option Addr) (c : Nat) (ps : List RH) : Prop where
 top : Own w B E 3 a ps.length c (ps.flatMap rc)
 row : ∀ p ∈ ps, (Sl w0 1 p.2.1 p.2.2.1 p.2.2.2 (p.1.cells.map B8) ∨ Own w B U 1 p.2.1 p.2.2.1 p.2.2.2 (p.1.cells.map B8)) ∧ p.1.text.size ≤ 1000
section
variable {w0 w w' : World} {E U : TypeId} {B : Nat} {a : Option Addr} {c : Nat} {ps : List RH}
theorem OL.some (h : OL w0 w E U B a c ps) (h0 : ps.length ≠ 0) : ∃ g, a = Option.some ⟨g, 0, none⟩ ∧ B ≤ g ∧ g < w.heap.size := by
 cases a with
 | none =>
  have := h.top.sl.nil rfl
  have h2 := h.top.sl.le
  omega
 | some p =>
  have hz := h.top.zero3
  exact ⟨p.block, by rw [← hz], h.top.base.1, h.top.base.2⟩
end
section
variable {P : Program} {w : World} {ops : Array Oper} {rest : List Oper} {act : Act} {Q : Exit → Act → World → Prop} {ty : TypeId} {pos : String} {after : Array Edge}
end
end Go.Dx
end

section
/- Chapter 06: what Bent's switch leaves. -/
namespace Go.Dx
open Go.RowKit
section
variable {w0 w w' : World} {T E U : TypeId} {B g4 g8 m : Nat} {a : Option Addr} {c : Nat} {ps : List RH} {H : TH} {t : Ta}
end
end Go.Dx
end

section
/- Chapter 06: the reference's Bent: tables with something changed; what they are does not matter. -/
namespace Go.Proofs.Ytlpkicjijlcbfaa
open Go.RowKit Go.Dx
end Go.Proofs.Ytlpkicjijlcbfaa
end

section
/- Chapter 06: the reference's Next and Steps; own, raw. -/
namespace Go.Dx
open Go.RowKit
end Go.Dx
namespace Go.Proofs.Ytlpkicjijlcbfaa
open Go.RowKit Go.Dx
set_option maxRecDepth 100000 in
set_option maxHeartbeats 8000000 in
theorem ref_Next_sw (H : TH) (t : Ta) (s : St) (l : List Sy) (a : Option Addr) (n c : Nat) (p : Nat) (x : Sy) (hx : l[p]? = some x) (hll : l.length ≤ 1000000) (hne : x.lang ≠ s.lang) (w : World) (hT : TaIs w H t) (hs : Sl w 2 a n c (l.flatMap sc)) :
  Calls Try.prog 72 #[H.v, .agg #[.int .i64 s.lang, .bool s.num, .bool s.wrd], .slice a n c, .int .i64 (p : Int)] w (StepsR [⟨⟨x.lang, false, false⟩, 0, t.sw, -1⟩] w) := by
 have HTS : Hid (Sl w 1 H.s.1 H.s.2.1 H.s.2.2 (t.sw.map B8)) := hide hT.s
 have hne0 : x.lang ≠ s.lang := hne
 clear hne
 obtain rfl := hs.nf sc_len (by decide)
 obtain ⟨⟨a0, n0, c0⟩, ⟨a1, n1, c1⟩, ps0, ps1, ⟨ad, nd, cd⟩, ⟨ac, nc, cc⟩, ⟨an, nn, cn⟩, ⟨af, nf, cf⟩, ⟨aw, nw, cw⟩⟩ := H
 obtain ⟨sg, sn, si⟩ := s
 obtain ⟨xg, xc⟩ := x
 unfold TH.v
 simp only [hdv]
 have hbb : Below w.heap.size w ((w.alloc (.cells #[.slice a0 n0 c0, .slice a1 n1 c1, .slice ad nd cd, .slice ac nc cc, .slice an nn cn, .slice af nf cf, .slice aw nw cw] 29)).alloc (.cells #[.int .i64 sg, .bool sn, .bool si] 70)) := (blo w _).trans ((blo _ _).mono (by simp))
 have X4 : Box ((w.alloc (.cells #[.slice a0 n0 c0, .slice a1 n1 c1, .slice ad nd cd, .slice ac nc cc, .slice an nn cn, .slice af nf cf, .slice aw nw cw] 29)).alloc (.cells #[.int .i64 sg, .bool sn, .bool si] 70)) w.heap.size 29 [.slice a0 n0 c0, .slice a1 n1 c1, .slice ad nd cd, .slice ac nc cc, .slice an nn cn, .slice af nf cf, .slice aw nw cw] := (Box.new w 29 #[.slice a0 n0 c0, .slice a1 n1 c1, .slice ad nd cd, .slice ac nc cc, .slice an nn cn, .slice af nf cf, .slice aw nw cw]).alloc _
 have X5 : Box ((w.alloc (.cells #[.slice a0 n0 c0, .slice a1 n1 c1, .slice ad nd cd, .slice ac nc cc, .slice an nn cn, .slice af nf cf, .slice aw nw cw] 29)).alloc (.cells #[.int .i64 sg, .bool sn, .bool si] 70)) (w.heap.size + 1) 70 [.int .i64 sg, .bool sn, .bool si] := by
  have := Box.new (w.alloc (.cells #[.slice a0 n0 c0, .slice a1 n1 c1, .slice ad nd cd, .slice ac nc cc, .slice an nn cn, .slice af nf cf, .slice aw nw cw] 29)) 70 #[.int .i64 sg, .bool sn, .bool si]
  rwa [show (w.alloc (.cells #[.slice a0 n0 c0, .slice a1 n1 c1, .slice ad nd cd, .slice ac nc cc, .slice an nn cn, .slice af nf cf, .slice aw nw cw] 29)).heap.size = w.heap.size + 1 by simp] at this
 have HBB := hide hbb
 have hs2 := hs.below hbb
 have hp := (List.getElem?_eq_some_iff.1 hx).1
 obtain ⟨bx, ox, hab, hbx, e0, e1⟩ := sy_cells hs2 hx
 have HXP := hide hx
 subst hab
 have HCX : Hid (∀ (j : Nat) (u : Value), ([.int .i64 xg, .int .u8 (xc.toNat : Int)] : List Value)[j]? = some u → ((w.alloc (.cells #[.slice a0 n0 c0, .slice a1 n1 c1, .slice ad nd cd, .slice ac nc cc, .slice an nn cn, .slice af nf cf, .slice aw nw cw] 29)).alloc (.cells #[.int .i64 sg, .bool sn, .bool si] 70)).cell? ⟨bx, ox + p * 2 + j, none⟩ = some u) := hide (by
  intro j u hj
  rcases j with _ | _ | j
  ·cases hj; exact e0
  ·cases hj; exact e1
  ·cases hj)
 have y9 := Box.new ((w.alloc (.cells #[.slice a0 n0 c0, .slice a1 n1 c1, .slice ad nd cd, .slice ac nc cc, .slice an nn cn, .slice af nf cf, .slice aw nw cw] 29)).alloc (.cells #[.int .i64 sg, .bool sn, .bool si] 70)) 88 #[.int .i64 xg, .int .u8 (xc.toNat : Int)]
 have y4 := X4.alloc (.cells #[.int .i64 xg, .int .u8 (xc.toNat : Int)] 88)
 have y5 := X5.alloc (.cells #[.int .i64 xg, .int .u8 (xc.toNat : Int)] 88)
 have hb5 := hbb.trans ((blo ((w.alloc (.cells #[.slice a0 n0 c0, .slice a1 n1 c1, .slice ad nd cd, .slice ac nc cc, .slice an nn cn, .slice af nf cf, .slice aw nw cw] 29)).alloc (.cells #[.int .i64 sg, .bool sn, .bool si] 70)) (.cells #[.int .i64 xg, .int .u8 (xc.toNat : Int)] 88)).mono hbb.size)
 have hz2 : w.heap.size + 2 ≤ ((w.alloc (.cells #[.slice a0 n0 c0, .slice a1 n1 c1, .slice ad nd cd, .slice ac nc cc, .slice an nn cn, .slice af nf cf, .slice aw nw cw] 29)).alloc (.cells #[.int .i64 sg, .bool sn, .bool si] 70)).heap.size := by simp
 rw [show ((w.alloc (.cells #[.slice a0 n0 c0, .slice a1 n1 c1, .slice ad nd cd, .slice ac nc cc, .slice an nn cn, .slice af nf cf, .slice aw nw cw] 29)).alloc (.cells #[.int .i64 sg, .bool sn, .bool si] 70)).heap.size = w.heap.size + 1 + 1 by simp] at y9
 clear hx hs2 X4 X5 hbb hbx e0 e1
 have d1 : (xg != sg) = true := by have hne : xg ≠ sg := hne0; simpa using hne
 clear hne0
 go_enter Try.func72, Try.ntmps72
 go_upto_region 3 with (first | (with_reducible refine load_struct 21 88 _ 2 size_sym _ Try.underlying88 ⟨bx, ox + p * 2, none⟩ rfl [.int .i64 xg, .int .u8 (xc.toNat : Int)] rfl (fun j u hj => by rw [Addr.add_lit]; exact HCX.out j u hj) ?_))
 generalize ((w.alloc (.cells _ 29)).alloc (.cells _ 70)).alloc (.cells _ 88) = w5 at *
 obtain ⟨g9, hg9⟩ : ∃ g9, g9 = w.heap.size + 1 + 1 := ⟨_, rfl⟩
 rw [← hg9] at y9 ⊢
 have hgw : w.heap.size < g9 := by omega
 clear hg9 hz2 HCX
 have k1 : w5.cell? ⟨g9, 0, none⟩ = some (.int .i64 xg) := y9.at_ rfl
 have k2 : w5.cell? ⟨w.heap.size + 1, 0, none⟩ = some (.int .i64 sg) := y5.at_ rfl
 have k3 : w5.cell? ⟨w.heap.size, 6, none⟩ = some (.slice aw nw cw) := y4.at_ rfl
 have hsw := HTS.out.below hb5
 have hal := blo w5 (.cells (stc (⟨⟨xg, false, false⟩, 0, t.sw, -1⟩, (aw, nw, cw))).toArray 103)
 go_wp2_with fail
 go_ret
 exact ⟨_, 1, [(⟨⟨xg, false, false⟩, 0, t.sw, -1⟩, (aw, nw, cw))], rfl, ⟨Sl.fresh _ _ 6 1 (stc (⟨⟨xg, false, false⟩, 0, t.sw, -1⟩, (aw, nw, cw))) rfl (by decide), fun q hq => by rw [List.mem_singleton] at hq; subst hq; exact hsw.below hal, rfl⟩, hb5.trans (hal.mono hb5.size)⟩

set_option maxRecDepth 100000 in
set_option maxHeartbeats 8000000 in
theorem ref_Next_dg (H : TH) (t : Ta) (s : St) (l : List Sy) (a : Option Addr) (n c : Nat) (p : Nat) (x : Sy) (hx : l[p]? = some x) (hll : l.length ≤ 1000000) (hv : validE t = 0) (heq : x.lang = s.lang) (hd : isD x.c = true) (w : World) (hT : TaIs w H t) (hs : Sl w 2 a n c (l.flatMap sc)) :
  Calls Try.prog 72 #[H.v, .agg #[.int .i64 s.lang, .bool s.num, .bool s.wrd], .slice a n c, .int .i64 (p : Int)] w (StepsR [⟨⟨x.lang, true, false⟩, 1, (if s.num then [] else t.num) ++ [t.dig.getD (x.c.toNat - 48) 0], -1⟩] w) := by
 obtain ⟨LL, HLL⟩ : ∃ LL, Hid ([(⟨⟨x.lang, true, false⟩, 1, (if s.num then [] else t.num) ++ [t.dig.getD (x.c.toNat - 48) 0], -1⟩ : Stp)] = LL) := ⟨_, hide rfl⟩
 rw [HLL.out]
 have HTN : Hid (Sl w 1 H.n.1 H.n.2.1 H.n.2.2 (t.num.map B8)) := hide hT.n
 have HTD : Hid (Sl w 1 H.d.1 H.d.2.1 H.d.2.2 (t.dig.map B8)) := hide hT.d
 have heq0 : x.lang = s.lang := heq
 have HDD : Hid (isD x.c = true) := hide hd
 have hgp := good_parts (valid_parts hv).2.2.1
 have HGP := hide hgp
 clear hv heq hd hT hgp
 obtain rfl := hs.nf sc_len (by decide)
 obtain ⟨⟨a0, n0, c0⟩, ⟨a1, n1, c1⟩, ps0, ps1, ⟨ad, nd, cd⟩, ⟨ac, nc, cc⟩, ⟨an, nn, cn⟩, ⟨af, nf, cf⟩, ⟨aw, nw, cw⟩⟩ := H
 obtain ⟨sg, sn, si⟩ := s
 obtain ⟨xg, xc⟩ := x
 unfold TH.v
 simp only [hdv]
 have hbb : Below w.heap.size w ((w.alloc (.cells #[.slice a0 n0 c0, .slice a1 n1 c1, .slice ad nd cd, .slice ac nc cc, .slice an nn cn, .slice af nf cf, .slice aw nw cw] 29)).alloc (.cells #[.int .i64 sg, .bool sn, .bool si] 70)) := (blo w _).trans ((blo _ _).mono (by simp))
 have X4 : Box ((w.alloc (.cells #[.slice a0 n0 c0, .slice a1 n1 c1, .slice ad nd cd, .slice ac nc cc, .slice an nn cn, .slice af nf cf, .slice aw nw cw] 29)).alloc (.cells #[.int .i64 sg, .bool sn, .bool si] 70)) w.heap.size 29 [.slice a0 n0 c0, .slice a1 n1 c1, .slice ad nd cd, .slice ac nc cc, .slice an nn cn, .slice af nf cf, .slice aw nw cw] := (Box.new w 29 #[.slice a0 n0 c0, .slice a1 n1 c1, .slice ad nd cd, .slice ac nc cc, .slice an nn cn, .slice af nf cf, .slice aw nw cw]).alloc _
 have X5 : Box ((w.alloc (.cells #[.slice a0 n0 c0, .slice a1 n1 c1, .slice ad nd cd, .slice ac nc cc, .slice an nn cn, .slice af nf cf, .slice aw nw cw] 29)).alloc (.cells #[.int .i64 sg, .bool sn, .bool si] 70)) (w.heap.size + 1) 70 [.int .i64 sg, .bool sn, .bool si] := by
  have := Box.new (w.alloc (.cells #[.slice a0 n0 c0, .slice a1 n1 c1, .slice ad nd cd, .slice ac nc cc, .slice an nn cn, .slice af nf cf, .slice aw nw cw] 29)) 70 #[.int .i64 sg, .bool sn, .bool si]
  rwa [show (w.alloc (.cells #[.slice a0 n0 c0, .slice a1 n1 c1, .slice ad nd cd, .slice ac nc cc, .slice an nn cn, .slice af nf cf, .slice aw nw cw] 29)).heap.size = w.heap.size + 1 by simp] at this
 have HBB := hide hbb
 have hs2 := hs.below hbb
 have hp := (List.getElem?_eq_some_iff.1 hx).1
 obtain ⟨bx, ox, hab, hbx, e0, e1⟩ := sy_cells hs2 hx
 have HXP := hide hx
 subst hab
 have HCX : Hid (∀ (j : Nat) (u : Value), ([.int .i64 xg, .int .u8 (xc.toNat : Int)] : List Value)[j]? = some u → ((w.alloc (.cells #[.slice a0 n0 c0, .slice a1 n1 c1, .slice ad nd cd, .slice ac nc cc, .slice an nn cn, .slice af nf cf, .slice aw nw cw] 29)).alloc (.cells #[.int .i64 sg, .bool sn, .bool si] 70)).cell? ⟨bx, ox + p * 2 + j, none⟩ = some u) := hide (by
  intro j u hj
  rcases j with _ | _ | j
  ·cases hj; exact e0
  ·cases hj; exact e1
  ·cases hj)
 have y9 := Box.new ((w.alloc (.cells #[.slice a0 n0 c0, .slice a1 n1 c1, .slice ad nd cd, .slice ac nc cc, .slice an nn cn, .slice af nf cf, .slice aw nw cw] 29)).alloc (.cells #[.int .i64 sg, .bool sn, .bool si] 70)) 88 #[.int .i64 xg, .int .u8 (xc.toNat : Int)]
 have y4 := X4.alloc (.cells #[.int .i64 xg, .int .u8 (xc.toNat : Int)] 88)
 have y5 := X5.alloc (.cells #[.int .i64 xg, .int .u8 (xc.toNat : Int)] 88)
 have hb5 := hbb.trans ((blo ((w.alloc (.cells #[.slice a0 n0 c0, .slice a1 n1 c1, .slice ad nd cd, .slice ac nc cc, .slice an nn cn, .slice af nf cf, .slice aw nw cw] 29)).alloc (.cells #[.int .i64 sg, .bool sn, .bool si] 70)) (.cells #[.int .i64 xg, .int .u8 (xc.toNat : Int)] 88)).mono hbb.size)
 have hz2 : w.heap.size + 2 ≤ ((w.alloc (.cells #[.slice a0 n0 c0, .slice a1 n1 c1, .slice ad nd cd, .slice ac nc cc, .slice an nn cn, .slice af nf cf, .slice aw nw cw] 29)).alloc (.cells #[.int .i64 sg, .bool sn, .bool si] 70)).heap.size := by simp
 rw [show ((w.alloc (.cells #[.slice a0 n0 c0, .slice a1 n1 c1, .slice ad nd cd, .slice ac nc cc, .slice an nn cn, .slice af nf cf, .slice aw nw cw] 29)).alloc (.cells #[.int .i64 sg, .bool sn, .bool si] 70)).heap.size = w.heap.size + 1 + 1 by simp] at y9
 clear hx hs2 X4 X5 hbb hbx e0 e1
 have heq0 : xg = sg := heq0
 subst heq0
 have hD := fun w' => ref_Digit xc w'
 rw [show isD xc = true from HDD.out] at hD
 have d1 : (xg != xg) = false := by simp
 go_enter Try.func72, Try.ntmps72
 go_upto_region 5 with (first | (go_at_call 92; refine (hD _).mono ?_; rintro e wd ⟨rfl, rfl⟩) | (with_reducible refine load_struct 21 88 _ 2 size_sym _ Try.underlying88 ⟨bx, ox + p * 2, none⟩ rfl [.int .i64 xg, .int .u8 (xc.toNat : Int)] rfl (fun j u hj => by rw [Addr.add_lit]; exact HCX.out j u hj) ?_))
 generalize ((w.alloc (.cells _ 29)).alloc (.cells _ 70)).alloc (.cells _ 88) = w5 at *
 obtain ⟨g9, hg9⟩ : ∃ g9, g9 = w.heap.size + 1 + 1 := ⟨_, rfl⟩
 rw [← hg9] at y9 ⊢
 have hgw : w.heap.size < g9 := by omega
 clear hg9 hz2 HCX
 obtain ⟨j, hj, hj9⟩ : ∃ j : Nat, xc.toNat = j + 48 ∧ j ≤ 9 := by
  have hd := HDD.out
  unfold isD at hd
  simp only [Bool.and_eq_true, decide_eq_true_eq] at hd
  exact ⟨xc.toNat - 48, by omega, by omega⟩
 have HJ := hide hj
 have hd10 : t.dig.length = 10 := HGP.out.1
 have hnn : nn = t.num.length := HTN.out.n_eq
 have hnn4 := indic_le HGP.out.2.2.1
 obtain ⟨pre, hpre⟩ : ∃ pre, pre = if sn then [] else t.num := ⟨_, rfl⟩
 have hprel : pre.length ≤ 4 := by rw [hpre]; split; (simp); omega
 obtain ⟨dj, hdj⟩ : ∃ dj, t.dig[j]? = some dj := ⟨t.dig[j]'(by omega), List.getElem?_eq_getElem _⟩
 have HDJ : Hid (t.dig.getD (xc.toNat - 48) 0 = dj) := hide (by rw [hj, Nat.add_sub_cancel, List.getD_eq_getElem?_getD, hdj]; rfl)
 have hTd : Sl w5 1 ad nd cd (t.dig.map B8) := HTD.out.below hb5
 have HND : Hid (nd = t.dig.length) := hide hTd.n_eq
 have hnd10 : nd = 10 := by rw [HND.out]; exact hd10
 obtain ⟨bd, od, hab, hbd, hcd⟩ := hTd.ex (by rw [List.length_map]; omega)
 have HCD : Hid (w5.cell? ⟨bd, od + j, none⟩ = some (.int .u8 (dj.toNat : Int))) := hide (hcd j _ (by rw [List.getElem?_map, hdj]; rfl))
 subst hab
 subst hnd10
 have hTn5 : Sl w5 1 an nn cn (t.num.map B8) := HTN.out.below hb5
 have HKC : Hid (w5.cell? ⟨g9, 1, none⟩ = some (.int .u8 ((j : Int) + 48))) := hide (by
  have := y9.at_ (j := 1) (u := .int .u8 (xc.toNat : Int)) rfl
  rw [this, hj]; rfl)
 have HKL : Hid (w5.cell? ⟨g9, 0, none⟩ = some (.int .i64 xg)) := hide (y9.at_ rfl)
 have kN : w5.cell? ⟨w.heap.size + 1, 1, none⟩ = some (.bool sn) := y5.at_ rfl
 have HKD : Hid (w5.cell? ⟨w.heap.size, 2, none⟩ = some (.slice (some ⟨bd, od, none⟩) 10 cd)) := hide (y4.at_ rfl)
 have kM : w5.cell? ⟨w.heap.size, 4, none⟩ = some (.slice an nn cn) := y4.at_ rfl
 have HNN := hide hnn
 have HPRE := hide hpre
 have hnn5 : nn ≤ 4 := by omega
 clear hj hd10 hnn hnn4 hdj hTd hcd hbd y9 y4 y5 hpre hD d1
 go_upto_if 39 with fail
 go_cut [10] (fun v w' => ∃ a c, v = .slice a pre.length c ∧ Own w' w5.heap.size 5 1 a pre.length c (pre.map B8) ∧ Below w5.heap.size w5 w')
 case first =>
  have hh := HPRE.out
  cases sn
  ·have hz : pre = t.num := hh
   rw [← hz] at hTn5
   obtain rfl : nn = pre.length := by rw [hz]; exact HNN.out
   clear hh hz
   go_wp2_with (at_builtin; refine app_bs rfl _ _ rfl w5 w5.heap.size _ 0 0 _ rfl (Own.nil _ _ _ _) an _ cn pre rfl hTn5 (by omega) (Nat.le_refl _) (Below.refl _ _) ?_; intro ca cc w6 ho6 hgr6 hb56; rw [Nat.zero_add] at ho6 ⊢)
   go_meet
   exact ⟨ca, cc, rfl, ho6, hb56⟩
  ·have hz : pre = [] := hh
   subst hz
   go_wp2_with fail
   go_meet
   exact ⟨none, 0, rfl, Own.nil _ _ _ _, Below.refl _ _⟩
 case rest =>
  clear kN kM hTn5
  obtain ⟨ca, cc, rfl, ho6, hb56⟩ := hcut
  obtain ⟨w6, rfl⟩ : ∃ w6 : World, w6 = wc := ⟨_, rfl⟩
  have kC := cell_below HKC.out hb56
  have kL := cell_below HKL.out hb56
  have kD := cell_below HKD.out hb56
  have kJ := cell_below HCD.out hb56
  have hbw6 := hb5.trans (hb56.mono hb5.size)
  have hz6 := hb56.size
  go_wp2_with (at_builtin; refine app_b rfl _ _ rfl w5 w5.heap.size ca pre.length cc _ rfl ho6 (dj.toNat : Int) rfl (by omega) hz6 hb56 ?_; intro a8 c8 w8 ho8 hgr8 hb8; refine hold ?_)
  refine hide ?_
  have kL8 := cell_below HKL.out hb8
  have hbw8 := hb5.trans (hb8.mono hb5.size)
  obtain ⟨CT, hCT⟩ : ∃ CT, pre ++ [dj] = CT := ⟨_, rfl⟩
  have hcl : pre.length + 1 = CT.length := by rw [← hCT, List.length_append]; rfl
  have ho9 : Own w8 w5.heap.size 5 1 a8 CT.length c8 (CT.map B8) := by rw [← hcl, ← hCT, List.map_append]; exact ho8
  rw [hcl]
  have hL : (if sn then [] else t.num) ++ [t.dig.getD (xc.toNat - 48) 0] = CT := by rw [← HPRE.out, HDJ.out, hCT]
  have HL := hide hL
  have hal := blo w8 (.cells (stc (⟨⟨xg, true, false⟩, 1, CT, -1⟩, (a8, CT.length, c8))).toArray 103)
  clear kC kL kD kJ hL ho8 ho6 hCT hcl hb56 hgr8
  go_wp2_with fail
  go_ret
  have hLL : [(⟨⟨xg, true, false⟩, 1, (if sn then [] else t.num) ++ [t.dig.getD (xc.toNat - 48) 0], -1⟩ : Stp)] = LL := HLL.out
  rw [← hLL, HL.out]
  exact ⟨_, 1, [(⟨⟨xg, true, false⟩, 1, CT, -1⟩, (a8, CT.length, c8))], rfl, ⟨Sl.fresh _ _ 6 1 (stc (⟨⟨xg, true, false⟩, 1, CT, -1⟩, (a8, CT.length, c8))) rfl (by decide), fun q hq => by rw [List.mem_singleton] at hq; subst hq; exact ho9.sl.below hal, rfl⟩, hbw8.trans (hal.mono hbw8.size)⟩

set_option maxRecDepth 100000 in
set_option maxHeartbeats 8000000 in
theorem ref_Next_ru (H : TH) (t : Ta) (s : St) (l : List Sy) (a : Option Addr) (n c : Nat) (p : Nat) (x : Sy) (hx : l[p]? = some x) (hll : l.length ≤ 1000000) (hv : validE t = 0) (heq : x.lang = s.lang) (hxl : x.lang = 0 ∨ x.lang = 1) (hd : isD x.c = false) (w : World) (hT : TaIs w H t) (hs : Sl w 2 a n c (l.flatMap sc)) :
  Calls Try.prog 72 #[H.v, .agg #[.int .i64 s.lang, .bool s.num, .bool s.wrd], .slice a n c, .int .i64 (p : Int)] w (StepsR (ruleSteps t s x l p 0 (langOf t x.lang)) w) := by
 have hxl0 : x.lang = 0 ∨ x.lang = 1 := hxl
 have heq0 : x.lang = s.lang := heq
 have HDD : Hid (isD x.c = false) := hide hd
 have HV0 := hide hv
 have HTT := hide hT
 obtain ⟨LL, HLL⟩ : ∃ LL, Hid (ruleSteps t s x l p 0 (langOf t x.lang) = LL) := ⟨_, hide rfl⟩
 rw [HLL.out]
 clear hv heq hd hT hxl
 obtain rfl := hs.nf sc_len (by decide)
 obtain ⟨⟨a0, n0, c0⟩, ⟨a1, n1, c1⟩, ps0, ps1, ⟨ad, nd, cd⟩, ⟨ac, nc, cc⟩, ⟨an, nn, cn⟩, ⟨af, nf, cf⟩, ⟨aw, nw, cw⟩⟩ := H
 obtain ⟨sg, sn, si⟩ := s
 obtain ⟨xg, xc⟩ := x
 have heq0 : sg = xg := heq0.symm
 subst heq0
 obtain ⟨kx, rfl, hkx⟩ : ∃ kx : Nat, sg = (kx : Int) ∧ kx < 2 := by
  rcases hxl0 with h | h
  ·exact ⟨0, h, by decide⟩
  ·exact ⟨1, h, by decide⟩
 clear hxl0
 unfold TH.v
 simp only [hdv]
 have hbb : Below w.heap.size w ((w.alloc (.cells #[.slice a0 n0 c0, .slice a1 n1 c1, .slice ad nd cd, .slice ac nc cc, .slice an nn cn, .slice af nf cf, .slice aw nw cw] 29)).alloc (.cells #[.int .i64 (kx : Int), .bool sn, .bool si] 70)) := (blo w _).trans ((blo _ _).mono (by simp))
 have X4 : Box ((w.alloc (.cells #[.slice a0 n0 c0, .slice a1 n1 c1, .slice ad nd cd, .slice ac nc cc, .slice an nn cn, .slice af nf cf, .slice aw nw cw] 29)).alloc (.cells #[.int .i64 (kx : Int), .bool sn, .bool si] 70)) w.heap.size 29 [.slice a0 n0 c0, .slice a1 n1 c1, .slice ad nd cd, .slice ac nc cc, .slice an nn cn, .slice af nf cf, .slice aw nw cw] := (Box.new w 29 #[.slice a0 n0 c0, .slice a1 n1 c1, .slice ad nd cd, .slice ac nc cc, .slice an nn cn, .slice af nf cf, .slice aw nw cw]).alloc _
 have X5 : Box ((w.alloc (.cells #[.slice a0 n0 c0, .slice a1 n1 c1, .slice ad nd cd, .slice ac nc cc, .slice an nn cn, .slice af nf cf, .slice aw nw cw] 29)).alloc (.cells #[.int .i64 (kx : Int), .bool sn, .bool si] 70)) (w.heap.size + 1) 70 [.int .i64 (kx : Int), .bool sn, .bool si] := by
  have := Box.new (w.alloc (.cells #[.slice a0 n0 c0, .slice a1 n1 c1, .slice ad nd cd, .slice ac nc cc, .slice an nn cn, .slice af nf cf, .slice aw nw cw] 29)) 70 #[.int .i64 (kx : Int), .bool sn, .bool si]
  rwa [show (w.alloc (.cells #[.slice a0 n0 c0, .slice a1 n1 c1, .slice ad nd cd, .slice ac nc cc, .slice an nn cn, .slice af nf cf, .slice aw nw cw] 29)).heap.size = w.heap.size + 1 by simp] at this
 have HBB := hide hbb
 have hs2 := hs.below hbb
 have hp := (List.getElem?_eq_some_iff.1 hx).1
 obtain ⟨bx, ox, hab, hbx, e0, e1⟩ := sy_cells hs2 hx
 have HXP := hide hx
 subst hab
 have HCX : Hid (∀ (j : Nat) (u : Value), ([.int .i64 (kx : Int), .int .u8 (xc.toNat : Int)] : List Value)[j]? = some u → ((w.alloc (.cells #[.slice a0 n0 c0, .slice a1 n1 c1, .slice ad nd cd, .slice ac nc cc, .slice an nn cn, .slice af nf cf, .slice aw nw cw] 29)).alloc (.cells #[.int .i64 (kx : Int), .bool sn, .bool si] 70)).cell? ⟨bx, ox + p * 2 + j, none⟩ = some u) := hide (by
  intro j u hj
  rcases j with _ | _ | j
  ·cases hj; exact e0
  ·cases hj; exact e1
  ·cases hj)
 have y9 := Box.new ((w.alloc (.cells #[.slice a0 n0 c0, .slice a1 n1 c1, .slice ad nd cd, .slice ac nc cc, .slice an nn cn, .slice af nf cf, .slice aw nw cw] 29)).alloc (.cells #[.int .i64 (kx : Int), .bool sn, .bool si] 70)) 88 #[.int .i64 (kx : Int), .int .u8 (xc.toNat : Int)]
 have y4 := X4.alloc (.cells #[.int .i64 (kx : Int), .int .u8 (xc.toNat : Int)] 88)
 have y5 := X5.alloc (.cells #[.int .i64 (kx : Int), .int .u8 (xc.toNat : Int)] 88)
 have hb5 := hbb.trans ((blo ((w.alloc (.cells #[.slice a0 n0 c0, .slice a1 n1 c1, .slice ad nd cd, .slice ac nc cc, .slice an nn cn, .slice af nf cf, .slice aw nw cw] 29)).alloc (.cells #[.int .i64 (kx : Int), .bool sn, .bool si] 70)) (.cells #[.int .i64 (kx : Int), .int .u8 (xc.toNat : Int)] 88)).mono hbb.size)
 have hz2 : w.heap.size + 2 ≤ ((w.alloc (.cells #[.slice a0 n0 c0, .slice a1 n1 c1, .slice ad nd cd, .slice ac nc cc, .slice an nn cn, .slice af nf cf, .slice aw nw cw] 29)).alloc (.cells #[.int .i64 (kx : Int), .bool sn, .bool si] 70)).heap.size := by simp
 rw [show ((w.alloc (.cells #[.slice a0 n0 c0, .slice a1 n1 c1, .slice ad nd cd, .slice ac nc cc, .slice an nn cn, .slice af nf cf, .slice aw nw cw] 29)).alloc (.cells #[.int .i64 (kx : Int), .bool sn, .bool si] 70)).heap.size = w.heap.size + 1 + 1 by simp] at y9
 clear hx hs2 X4 X5 hbb hbx e0 e1
 have hD := fun w' => ref_Digit xc w'
 have hL := fun w' => ref_Letter xc w'
 unfold LetterR at hL
 rw [show isD xc = false from HDD.out] at hD
 obtain ⟨il, hil⟩ : ∃ il, isL xc = il := ⟨_, rfl⟩
 obtain ⟨ic, hic⟩ : ∃ ic, isC xc = ic := ⟨_, rfl⟩
 rw [hil, hic] at hL
 have HIL := hide hil
 have HIC := hide hic
 have d1 : ((kx : Int) != (kx : Int)) = false := by simp
 clear hil hic
 go_enter Try.func72, Try.ntmps72
 go_upto_region 11 with (first | (go_at_call 92; refine (hD _).mono ?_; rintro e wd ⟨rfl, rfl⟩) | (go_at_call 93; refine (hL _).mono ?_; rintro e wl ⟨rfl, rfl⟩) | (with_reducible refine load_struct 21 88 _ 2 size_sym _ Try.underlying88 ⟨bx, ox + p * 2, none⟩ rfl [.int .i64 (kx : Int), .int .u8 (xc.toNat : Int)] rfl (fun j u hj => by rw [Addr.add_lit]; exact HCX.out j u hj) ?_))
 generalize ((w.alloc (.cells _ 29)).alloc (.cells _ 70)).alloc (.cells _ 88) = w5 at *
 obtain ⟨g9, hg9⟩ : ∃ g9, g9 = w.heap.size + 1 + 1 := ⟨_, rfl⟩
 rw [← hg9] at y9 ⊢
 have hgw : w.heap.size < g9 := by omega
 clear hg9 hz2 HCX
 have HLOW : Hid (langOf t (kx : Int) = langK t kx) := hide (two_cases (p := fun k => langOf t (k : Int) = langK t k) (by simp [langOf, langK]) (by simp [langOf, langK]) kx hkx)
 have hgp := good_parts (valid_parts HV0.out).2.2.1
 have hlok := fun r (hr : r ∈ langK t kx) => lang_ok (valid_parts HV0.out).2.2.1 (kx : Int) r (by rw [HLOW.out]; exact hr)
 have HLOK := hide hlok
 have hnf : nf = t.fin.length := HTT.out.f.n_eq
 have hnc : nc = t.cap.length := HTT.out.c.n_eq
 have hf4 := indic_le hgp.2.2.2.1
 have hc4 := indic_le hgp.2.1
 have hnf4 : nf ≤ 4 := by omega
 have hnc4 : nc ≤ 4 := by omega
 have HTF : Hid (Sl w 1 af nf cf (t.fin.map B8)) := hide HTT.out.f
 have HTC : Hid (Sl w 1 ac nc cc (t.cap.map B8)) := hide HTT.out.c
 obtain ⟨ak, nk, ck, pk, hck, hRk, hek⟩ := sel_lang HTT.out kx hkx
 simp only [hdv] at hck
 have HCK := hide hck
 have HEK := hide hek
 have HRK := hide hRk
 obtain rfl := hRk.n_eq
 have hm1 := Nat.le_trans hRk.top.le hRk.top.cap
 unfold maxLen at hm1
 have hpk96 : pk.length ≤ 96 := by
  have h1 := (valid_parts HV0.out).1
  have h2 := (valid_parts HV0.out).2.1
  have h3 : (rus pk).length = pk.length := by unfold rus; simp
  rw [← h3, hek]
  unfold langK
  split
  ·exact h1
  ·exact h2
 obtain ⟨cbv, hcb⟩ : ∃ cbv, (sn && il) = cbv := ⟨_, rfl⟩
 obtain ⟨pre1, hp1⟩ : ∃ pre1 : List UInt8, pre1 = if cbv then t.fin else [] := ⟨_, rfl⟩
 obtain ⟨pre2, hp2⟩ : ∃ pre2 : List UInt8, pre2 = pre1 ++ if ic then t.cap else [] := ⟨_, rfl⟩
 have HHEAD : Hid (headC t ⟨(kx : Int), sn, si⟩ ⟨(kx : Int), xc⟩ = pre2) := hide (by
  unfold headC
  simp only [HIL.out, HIC.out]
  rw [hp2, hp1, ← hcb])
 have hl1 : pre1.length ≤ 4 := by rw [hp1]; cases cbv <;> simp <;> omega
 have hl2 : pre2.length ≤ 8 := by rw [hp2, List.length_append]; cases ic <;> simp <;> omega
 have HP1 := hide hp1
 have HP2 := hide hp2
 have HCB := hide hcb
 have HNF := hide hnf
 have HNC := hide hnc
 have kr : w5.cell? ⟨w.heap.size, kx, none⟩ = some (.slice ak pk.length ck) := y4.at_ (by
  have h := HCK.out
  rcases kx with _ | _ | k
  ·exact h
  ·exact h
  ·omega)
 have HL5 : Hid (w5.cell? ⟨g9, 0, none⟩ = some (.int .i64 (kx : Int))) := hide (y9.at_ rfl)
 have kL : w5.cell? ⟨g9, 0, none⟩ = some (.int .i64 (kx : Int)) := HL5.out
 have HN5 : Hid (w5.cell? ⟨w.heap.size + 1, 1, none⟩ = some (.bool sn)) := hide (y5.at_ rfl)
 have HF5 : Hid (w5.cell? ⟨w.heap.size, 5, none⟩ = some (.slice af nf cf)) := hide (y4.at_ rfl)
 have HC5 : Hid (w5.cell? ⟨w.heap.size, 3, none⟩ = some (.slice ac nc cc)) := hide (y4.at_ rfl)
 have hRk5 := hRk.below hb5
 have HRK5 := hide hRk5
 have hs5 := hs.below hb5
 clear hgp hlok hnf hnc hf4 hc4 hck hek hRk hRk5 hcb hp1 hp2 y9 y4 y5 hD hL d1
 go_wp2_with fail
 go_loopg [14, 16] pk.length (fun gh o v w' => ∃ (k : Nat) (ps : List SH) (ao : Option Addr) (co : Nat), k ≤ pk.length ∧ gh = pk.length - k ∧ ps.length ≤ k ∧ o = .slice ao ps.length co ∧ v = .int .i64 (k : Int) ∧ Hid (ps.map (·.1) = ruleSteps t ⟨(kx : Int), sn, si⟩ ⟨(kx : Int), xc⟩ l p 0 ((rus pk).take k)) ∧ OSt w' 103 5 w5.heap.size ao co ps ∧ Below w5.heap.size w5 w')
 case atStart => exact ⟨0, [], none, 0, by omega, by omega, by simp, rfl, rfl, hide rfl, OSt.nil _ _ _ _, Below.refl _ _⟩
 case round =>
  clear kr kL
  obtain ⟨k, ps, ao, co, hk, hg, hpl, rfl, rfl, HPS, hOS, hbr⟩ := hrel
  have HG := hide hg
  clear hg
  by_cases hkl : k < pk.length
  ·obtain ⟨q, hq⟩ : ∃ q, pk[k]? = some q := ⟨pk[k], by simp [hkl]⟩
   have HQ := hide hq
   have hRr := HRK5.out.below hbr
   obtain ⟨hrow, _⟩ := hRr.row q (List.mem_of_getElem? hq)
   have hrk := ru_parts (HLOK.out q.1 (by rw [← HEK.out]; exact List.mem_of_getElem? (rus_get hq)))
   have HRJ := hide (rus_get hq)
   obtain ⟨b1, o1, hab1, hb1, k0, k1, k2⟩ := ru_cells hRr.top hq
   subst hab1
   clear hq
   obtain ⟨⟨sx, wh, cl⟩, h1, h2, h3⟩ := q
   have hs1 : 1 ≤ sx.size := hrk.1
   have hs8 : sx.size ≤ 8 := hrk.2.1
   have hcl4 : cl.length ≤ 4 := indic_le hrk.2.2.2.2.1
   have hrow : Sl wr 1 h1 h2 h3 (cl.map B8) := hrow
   obtain rfl := hrow.n_eq
   have HC1 : Hid (∀ (j : Nat) (u : Value), ([.string sx, .int .i64 wh, .slice h1 cl.length h3] : List Value)[j]? = some u → wr.cell? ⟨b1, o1 + k * 3 + j, none⟩ = some u) := hide (by
    intro j u hj
    rcases j with _ | _ | _ | j
    ·cases hj; exact k0
    ·cases hj; exact k1
    ·cases hj; exact k2
    ·cases hj)
   have hF := fun w' (hb : Below wr.heap.size wr w') => ref_Fits sx wh cl h1 cl.length h3 l (some ⟨bx, ox, none⟩) _ c (p : Int) p rfl ⟨(kx : Int), xc⟩ HXP.out hs1 hs8 hll w' ((hs5.below hbr).below hb)
   have HSN := hide (ruleSteps_snoc t ⟨(kx : Int), sn, si⟩ ⟨(kx : Int), xc⟩ l p ⟨sx, wh, cl⟩ ((rus pk).take k) 0)
   have HTK : Hid ((rus pk).take (k + 1) = (rus pk).take k ++ [⟨sx, wh, cl⟩]) := hide (take_succ_get HRJ.out)
   have hrl : (rus pk).length = pk.length := by unfold rus; simp
   have HTL : Hid (((rus pk).take k).length = k) := hide (by rw [List.length_take, hrl]; omega)
   have i0 : decide (k < pk.length) = true := decide_eq_true hkl
   have i0' : decide ((k : Int) < (pk.length : Int)) = true := decide_eq_true (by omega)
   clear hrl hrk k0 k1 k2
   have K0 : wr.cell? ⟨b1, o1 + k * 3, none⟩ = some (.string sx) := HC1.out 0 _ rfl
   have K2 : wr.cell? ⟨b1, o1 + k * 3 + 2, none⟩ = some (.slice h1 cl.length h3) := HC1.out 2 _ rfl
   have HK0 := hide K0
   have HK2 := hide K2
   clear K0 K2
   cases hfb : fitsB ⟨sx, wh, cl⟩ l p
   ·have HN : Hid (ps.map (·.1) = ruleSteps t ⟨(kx : Int), sn, si⟩ ⟨(kx : Int), xc⟩ l p 0 ((rus pk).take (k + 1))) := hide (by rw [HTK.out, HSN.out, hfb, HPS.out]; simp)
    rw [hfb] at hF
    clear hfb
    go_wp2_with (first
     | (with_reducible refine load_struct 82 84 _ 3 size_rule _ Try.underlying84 ⟨b1, o1 + k * 3, none⟩ rfl [.string sx, .int .i64 wh, .slice h1 cl.length h3] rfl (fun j u hj => by rw [Addr.add_lit]; exact HC1.out j u hj) ?_)
     | (go_at_call 94; refine (hF _ (Below.refl _ _)).mono ?_; rintro e w8 ⟨rfl, hb8⟩))
    have hb58 := hbr.trans (hb8.mono hbr.size)
    have hOS8 := hOS.below hb8
    go_roundg (pk.length - (k + 1))
    case measure => have := HG.out; omega
    case rel => exact ⟨k + 1, ps, ao, co, by omega, rfl, by omega, rfl, by go_num, HN, hOS8, hb58⟩
   ·obtain ⟨CT, hCT⟩ : ∃ CT, pre2 ++ cl = CT := ⟨_, rfl⟩
    have HCT := hide hCT
    have HCL : Hid (pre2.length + cl.length = CT.length) := hide (by rw [← hCT, List.length_append])
    have hct : CT.length ≤ 100 := by rw [← hCT, List.length_append]; omega
    clear hCT
    have HN : Hid (∀ q : (Option Addr × Nat × Nat), ((ps ++ [((⟨⟨(kx : Int), false, il⟩, (sx.size : Int), CT, (k : Int)⟩ : Stp), q)]) : List SH).map (·.1) = ruleSteps t ⟨(kx : Int), sn, si⟩ ⟨(kx : Int), xc⟩ l p 0 ((rus pk).take (k + 1))) := hide (fun q => by
     rw [HTK.out, HSN.out, hfb, List.map_append, HPS.out, HHEAD.out, HTL.out, HIL.out, HCT.out]; simp)
    rw [hfb] at hF
    clear hfb
    go_upto_region 18 with (first
     | (with_reducible refine load_struct 82 84 _ 3 size_rule _ Try.underlying84 ⟨b1, o1 + k * 3, none⟩ rfl [.string sx, .int .i64 wh, .slice h1 cl.length h3] rfl (fun j u hj => by rw [Addr.add_lit]; exact HC1.out j u hj) ?_)
     | (go_at_call 94; refine (hF _ (Below.refl _ _)).mono ?_; rintro e w8 ⟨rfl, hb8⟩))
    have hb58 := hbr.trans (hb8.mono hbr.size)
    have hOS8 := hOS.below hb8
    have hrow8 := hrow.below hb8
    have kN8 := cell_below HN5.out hb58
    clear hF hOS hrow HSN HTK HTL HPS HRJ
    go_cut [91] from 87 to 91 (fun v w' => v = .bool cbv ∧ w8 = w')
    case first =>
     have hh := HCB.out
     cases il
     ·have hz : cbv = false := by rw [← hh]; simp
      subst hz
      clear hh
      go_wp2_with fail
      go_meet
      exact ⟨rfl, rfl⟩
     ·have hz : cbv = sn := by rw [← hh]; simp
      subst hz
      clear hh
      go_wp2_with fail
      go_meet
      exact ⟨rfl, rfl⟩
    case rest =>
     clear kN8
     obtain ⟨rfl, rfl⟩ := hcut
     have kf : w8.cell? ⟨w.heap.size, 5, none⟩ = some (.slice af nf cf) := cell_below HF5.out hb58
     have kc : w8.cell? ⟨w.heap.size, 3, none⟩ = some (.slice ac nc cc) := cell_below HC5.out hb58
     have hbw8 := hb5.trans (hb58.mono hb5.size)
     have hTf8 := HTF.out.below hbw8
     have hTc8 := HTC.out.below hbw8
     have hz58 := hb58.size
     go_upto_if 91 with fail
     go_cut [17] (fun v w' => ∃ a c, v = .slice a pre1.length c ∧ Own w' w8.heap.size 5 1 a pre1.length c (pre1.map B8) ∧ Below w8.heap.size w8 w')
     case first =>
      have hh := HP1.out
      cases cbv
      ·have hz : pre1 = [] := hh
       subst hz
       go_wp2_with fail
       go_meet
       exact ⟨none, 0, rfl, Own.nil _ _ _ _, Below.refl _ _⟩
      ·have hz : pre1 = t.fin := hh
       have hnf : nf = pre1.length := by rw [hz]; exact HNF.out
       rw [← hz] at hTf8
       subst hnf
       clear hz hh
       go_wp2_with (at_builtin; refine app_bs rfl _ _ rfl w8 w8.heap.size _ 0 0 _ rfl (Own.nil _ _ _ _) af _ cf pre1 rfl hTf8 (by omega) (Nat.le_refl _) (Below.refl _ _) ?_; intro a6 c6 w6 ho6 hgr6 hb6; rw [Nat.zero_add] at ho6 ⊢)
       go_meet
       exact ⟨a6, c6, rfl, ho6, hb6⟩
     case rest =>
      obtain ⟨a6, c6, rfl, ho6, hb6⟩ := hcut
      obtain ⟨w6, rfl⟩ : ∃ w6 : World, w6 = wc := ⟨_, rfl⟩
      go_upto_if 96 with fail
      go_cut [17] (fun v w' => ∃ a c, v = .slice a pre2.length c ∧ Own w' w8.heap.size 5 1 a pre2.length c (pre2.map B8) ∧ Below w8.heap.size w8 w')
      case first =>
       have hh := HP2.out
       cases ic
       ·have hz : pre2 = pre1 := by rw [hh]; simp
        clear hh
        subst hz
        go_wp2_with fail
        go_meet
        exact ⟨a6, c6, rfl, ho6, hb6⟩
       ·have hz : pre2 = pre1 ++ t.cap := hh
        have hnc : nc = t.cap.length := HNC.out
        have kc6 := cell_below kc hb6
        have hTc6 := hTc8.below hb6
        subst hnc
        have HZL : Hid (pre2.length = pre1.length + t.cap.length) := hide (by rw [hz, List.length_append])
        have HZ := hide hz
        clear hh hz
        go_wp2_with (at_builtin; refine app_bs rfl _ _ rfl w8 w8.heap.size a6 _ c6 _ rfl ho6 ac _ cc t.cap rfl hTc6 (by omega) hb6.size hb6 ?_; intro a8 c8 w8' ho8 hgr8 hb8')
        go_meet
        exact ⟨a8, c8, by rw [HZL.out], by rw [HZL.out, HZ.out, List.map_append]; exact ho8, hb8'⟩
      case rest =>
       clear ho6 hb6 kf kc hTf8 hTc8
       obtain ⟨ab, cb, rfl, hob, hb87⟩ := hcut
       obtain ⟨w7, rfl⟩ : ∃ w7 : World, w7 = wc := ⟨_, rfl⟩
       have K2 := cell_below (cell_below HK2.out hb8) hb87
       have hrow7 := hrow8.below hb87
       have hz87 := hb87.size
       go_wp2_with (at_builtin; refine app_bs rfl _ _ rfl w8 w8.heap.size ab _ cb _ rfl hob h1 cl.length h3 cl rfl hrow7 (by omega) hz87 hb87 ?_; intro ac9 cc9 w9 ho9 hgr9 hb89; refine hold ?_)
       refine hide ?_
       rw [HCL.out] at ho9 ⊢
       rw [← List.map_append, HCT.out] at ho9
       have hb79 := hb58.trans (hb89.mono hb58.size)
       have hbr5 := hb58
       have hOS9 := hOS8.below hb89
       have HL9 := hide (cell_below HL5.out hb79)
       have HR9 := hide (cell_below (cell_below HK0.out hb8) hb89)
       clear K2 hrow7 hrow8 hob hb87 hgr9 hOS8
       go_wp2_with fail
       refine wp_region_free 15 [⟨0, 108, [108], fun vs _ => vs = [.slice ao ps.length co]⟩, ⟨1, 109, [109], fun vs _ => vs = [.pointer (some ⟨g9, 0, none⟩)]⟩, ⟨2, 110, [110], fun vs _ => vs = [.int .i64 (kx : Int)]⟩, ⟨3, 111, [111], fun vs _ => vs = [.bool il]⟩, ⟨4, 112, [112], fun vs _ => vs = [.agg #[.int .i64 (kx : Int), .bool false, .bool il]]⟩, ⟨5, 113, [113], fun vs _ => vs = [.slice (some ⟨b1, o1, none⟩) pk.length ck]⟩, ⟨6, 114, [114], fun vs _ => vs = [.int .i64 (k : Int)]⟩, ⟨7, 115, [115], fun vs _ => vs = [.pointer (some ⟨b1, o1 + k * 3, none⟩)]⟩, ⟨8, 116, [116], fun vs _ => vs = [.pointer (some ⟨b1, o1 + k * 3, none⟩)]⟩, ⟨9, 117, [117], fun vs _ => vs = [.string sx]⟩, ⟨10, 118, [118], fun vs _ => vs = [.int .i64 (sx.size : Int)]⟩, ⟨11, 119, [119], fun vs _ => vs = [.slice ac9 CT.length cc9]⟩, ⟨12, 120, [120], fun vs _ => vs = [.int .i64 (k : Int)]⟩, ⟨13, 121, [121], fun vs _ => vs = [.agg #[.int .i64 (kx : Int), .bool false, .bool il, .int .i64 (sx.size : Int), .slice ac9 CT.length cc9, .int .i64 (k : Int)]]⟩, ⟨14, 122, [122], fun vs w' => ∃ b, vs = [.slice (some ⟨b, 0, none⟩) 1 1] ∧ Sl w' 6 (some ⟨b, 0, none⟩) 1 1 (stc ((⟨⟨(kx : Int), false, il⟩, (sx.size : Int), CT, (k : Int)⟩ : Stp), (ac9, CT.length, cc9)))⟩] (by kernel_rfl) (by kernel_rfl) ?_ ?_ ?_
       ·simp only [All]
        refine ⟨fun _ _ _ _ h => h, fun _ _ _ _ h => h, fun _ _ _ _ h => h, fun _ _ _ _ h => h, fun _ _ _ _ h => h, fun _ _ _ _ h => h, fun _ _ _ _ h => h, fun _ _ _ _ h => h, fun _ _ _ _ h => h, fun _ _ _ _ h => h, fun _ _ _ _ h => h, fun _ _ _ _ h => h, fun _ _ _ _ h => h, fun _ _ _ _ h => h, ?_, trivial⟩
        ·rintro vs w w' hb ⟨b, h1, h2⟩
         exact ⟨b, h1, h2.below hb⟩
       ·simp only [All]
        refine ⟨?_, ?_, ?_, ?_, ?_, ?_, ?_, ?_, ?_, ?_, ?_, ?_, ?_, ?_, ?_, trivial⟩
        ·intro o ho a' w' hb hfr hdep; obtain rfl := oj ho
         have g14 : a'.tmps[14]?.getD undef = .slice ao ps.length co := by simpa using hfr 14 (by kernel_rfl)
         clear ho hfr hdep; go_wp2_with fail; exact ⟨rfl, _, rfl, br, rfl⟩
        ·intro o ho a' w' hb hfr hdep; obtain rfl := oj ho
         have g9 : a'.tmps[9]?.getD undef = .pointer (some ⟨g9, 0, none⟩) := by simpa using hfr 9 (by kernel_rfl)
         clear ho hfr hdep; go_wp2_with fail; exact ⟨rfl, _, rfl, br, rfl⟩
        ·intro o ho a' w' hb hfr hdep; obtain rfl := oj ho
         have g109 : a'.tmps[109]?.getD undef = .pointer (some ⟨g9, 0, none⟩) := by simpa using hdep 1 _ rfl (by kernel_rfl)
         clear ho hfr hdep; have hcl := cell_below HL9.out hb
         go_wp2_with fail; exact ⟨rfl, _, rfl, br, rfl⟩
        ·intro o ho a' w' hb hfr hdep; obtain rfl := oj ho
         have g12 : a'.tmps[12]?.getD undef = .bool il := by simpa using hfr 12 (by kernel_rfl)
         clear ho hfr hdep; go_wp2_with fail; exact ⟨rfl, _, rfl, br, rfl⟩
        ·intro o ho a' w' hb hfr hdep; obtain rfl := oj ho
         have g110 : a'.tmps[110]?.getD undef = .int .i64 (kx : Int) := by simpa using hdep 2 _ rfl (by kernel_rfl)
         have g111 : a'.tmps[111]?.getD undef = .bool il := by simpa using hdep 3 _ rfl (by kernel_rfl)
         clear ho hfr hdep; go_wp2_with fail; exact ⟨rfl, _, rfl, br, rfl⟩
        ·intro o ho a' w' hb hfr hdep; obtain rfl := oj ho
         have g15 : a'.tmps[15]?.getD undef = .slice (some ⟨b1, o1, none⟩) pk.length ck := by simpa using hfr 15 (by kernel_rfl)
         clear ho hfr hdep; go_wp2_with fail; exact ⟨rfl, _, rfl, br, rfl⟩
        ·intro o ho a' w' hb hfr hdep; obtain rfl := oj ho
         have g16 : a'.tmps[16]?.getD undef = .int .i64 (k : Int) := by simpa using hfr 16 (by kernel_rfl)
         clear ho hfr hdep; go_wp2_with fail; exact ⟨rfl, _, rfl, br, rfl⟩
        ·intro o ho a' w' hb hfr hdep; obtain rfl := oj ho
         have g113 : a'.tmps[113]?.getD undef = .slice (some ⟨b1, o1, none⟩) pk.length ck := by simpa using hdep 5 _ rfl (by kernel_rfl)
         have g114 : a'.tmps[114]?.getD undef = .int .i64 (k : Int) := by simpa using hdep 6 _ rfl (by kernel_rfl)
         clear ho hfr hdep; go_wp2_with fail; exact ⟨rfl, _, rfl, br, rfl⟩
        ·intro o ho a' w' hb hfr hdep; obtain rfl := oj ho
         have g115 : a'.tmps[115]?.getD undef = .pointer (some ⟨b1, o1 + k * 3, none⟩) := by simpa using hdep 7 _ rfl (by kernel_rfl)
         clear ho hfr hdep; go_wp2_with fail; exact ⟨rfl, _, rfl, br, rfl⟩
        ·intro o ho a' w' hb hfr hdep; obtain rfl := oj ho
         have g116 : a'.tmps[116]?.getD undef = .pointer (some ⟨b1, o1 + k * 3, none⟩) := by simpa using hdep 8 _ rfl (by kernel_rfl)
         clear ho hfr hdep; have hcl := cell_below HR9.out hb
         go_wp2_with fail; exact ⟨rfl, _, rfl, br, rfl⟩
        ·intro o ho a' w' hb hfr hdep; obtain rfl := oj ho
         have g117 : a'.tmps[117]?.getD undef = .string sx := by simpa using hdep 9 _ rfl (by kernel_rfl)
         clear ho hfr hdep; go_wp2_with fail; exact ⟨rfl, _, rfl, br, rfl⟩
        ·intro o ho a' w' hb hfr hdep; obtain rfl := oj ho
         have g17 : a'.tmps[17]?.getD undef = .slice ac9 CT.length cc9 := by simpa using hfr 17 (by kernel_rfl)
         clear ho hfr hdep; go_wp2_with fail; exact ⟨rfl, _, rfl, br, rfl⟩
        ·intro o ho a' w' hb hfr hdep; obtain rfl := oj ho
         have g16 : a'.tmps[16]?.getD undef = .int .i64 (k : Int) := by simpa using hfr 16 (by kernel_rfl)
         clear ho hfr hdep; go_wp2_with fail; exact ⟨rfl, _, rfl, br, rfl⟩
        ·intro o ho a' w' hb hfr hdep; obtain rfl := oj ho
         have g112 : a'.tmps[112]?.getD undef = .agg #[.int .i64 (kx : Int), .bool false, .bool il] := by simpa using hdep 4 _ rfl (by kernel_rfl)
         have g118 : a'.tmps[118]?.getD undef = .int .i64 (sx.size : Int) := by simpa using hdep 10 _ rfl (by kernel_rfl)
         have g119 : a'.tmps[119]?.getD undef = .slice ac9 CT.length cc9 := by simpa using hdep 11 _ rfl (by kernel_rfl)
         have g120 : a'.tmps[120]?.getD undef = .int .i64 (k : Int) := by simpa using hdep 12 _ rfl (by kernel_rfl)
         clear ho hfr hdep; go_wp2_with fail; exact ⟨rfl, _, rfl, br, rfl⟩
        ·intro o ho a' w' hb hfr hdep; obtain rfl := oj ho
         have g121 : a'.tmps[121]?.getD undef = .agg #[.int .i64 (kx : Int), .bool false, .bool il, .int .i64 (sx.size : Int), .slice ac9 CT.length cc9, .int .i64 (k : Int)] := by simpa using hdep 13 _ rfl (by kernel_rfl)
         clear ho hfr hdep; go_wp2_with fail
         exact ⟨rfl, _, rfl, blo _ _, _, rfl, Sl.fresh _ _ 6 1 (stc ((⟨⟨(kx : Int), false, il⟩, (sx.size : Int), CT, (k : Int)⟩ : Stp), (ac9, CT.length, cc9))) rfl (by decide)⟩
       ·intro gg wE hbE hpE
        have p108 := hpE 0 _ rfl
        obtain ⟨b9, p122, hs9⟩ := hpE 14 _ rfl
        clear hpE
        simp at p108 p122
        simp only [List.drop_succ_cons, List.drop_zero, List.map_cons, List.map_nil, putAll, Act.put, List.setIfInBounds_toArray, List.set_cons_succ, List.set_cons_zero, List.cons_append, List.nil_append, p108, p122]
        clear p108 p122
        have hbE7 := hb79.trans (hbE.mono hb79.size)
        have hOSE := hOS9.below hbE
        have hoE := ho9.below hbE
        have hzE := hbE7.size
        go_wp2_with (at_builtin; refine app_rst2 rfl _ _ rfl w5 w5.heap.size ao co ps rfl hOSE ((⟨⟨(kx : Int), false, il⟩, (sx.size : Int), CT, (k : Int)⟩ : Stp), (ac9, CT.length, cc9)) (hoE.mono hbr5.size) (some ⟨b9, 0, none⟩) 1 rfl hs9 (by omega) hzE hbE7 ?_; intro a7 c7 w7 ho7 hb7)
        go_roundg (pk.length - (k + 1))
        case measure => have := HG.out; omega
        case rel => exact ⟨k + 1, ps ++ [((⟨⟨(kx : Int), false, il⟩, (sx.size : Int), CT, (k : Int)⟩ : Stp), (ac9, CT.length, cc9))], a7, c7, by omega, rfl, by rw [List.length_append]; show _ + 1 ≤ _; omega, by rw [List.length_append]; rfl, by go_num, HN.out _, ho7, hb7⟩
  ·obtain rfl : k = pk.length := by omega
   have i0 : decide (((pk.length : Nat) : Int) < (pk.length : Int)) = false := decide_eq_false (by omega)
   have i0' : decide (pk.length < pk.length) = false := decide_eq_false (by omega)
   have HFIN : Hid (ps.map (·.1) = LL) := hide (by
    rw [HPS.out, List.take_of_length_le (by unfold rus; simp)]
    have hLL : ruleSteps t ⟨(kx : Int), sn, si⟩ ⟨(kx : Int), xc⟩ l p 0 (langOf t (kx : Int)) = LL := HLL.out
    rw [← hLL, HLOW.out, ← HEK.out])
   have hpsl : ps.length = LL.length := by rw [← HFIN.out, List.length_map]
   have hst := hOS.stl
   rw [HFIN.out, hpsl] at hst
   rw [hpsl]
   clear hpsl
   go_wp2_with fail
   go_ret
   exact ⟨ao, co, ps, rfl, hst, hb5.trans (hbr.mono hb5.size)⟩

end Go.Proofs.Ytlpkicjijlcbfaa
end

section
/- Chapter 06: the reference's Steps; own, raw. -/
namespace Go.Proofs.Ytlpkicjijlcbfaa
open Go.RowKit Go.Dx
theorem ref_Next (H : TH) (t : Ta) (s : St) (l : List Sy) (a : Option Addr) (n c : Nat) (p : Nat) (x : Sy) (hx : l[p]? = some x) (hll : l.length ≤ 1000000) (hv : validE t = 0) (hxl : x.lang = 0 ∨ x.lang = 1) (w : World) (hT : TaIs w H t) (hs : Sl w 2 a n c (l.flatMap sc)) :
  Calls Try.prog 72 #[H.v, .agg #[.int .i64 s.lang, .bool s.num, .bool s.wrd], .slice a n c, .int .i64 (p : Int)] w (StepsR (nextL t s l p x) w) := by
 unfold nextL
 by_cases hne : x.lang ≠ s.lang
 ·rw [if_pos hne]
  exact ref_Next_sw H t s l a n c p x hx hll hne w hT hs
 ·rw [if_neg hne]
  have heq : x.lang = s.lang := Classical.byContradiction hne
  cases hd : isD x.c
  ·rw [if_neg (by simp)]
   exact ref_Next_ru H t s l a n c p x hx hll hv heq hxl hd w hT hs
  ·rw [if_pos rfl]
   exact ref_Next_dg H t s l a n c p x hx hll hv heq hd w hT hs
set_option maxRecDepth 100000 in
set_option maxHeartbeats 4000000 in
theorem ref6_Steps (H : TH) (t : Ta) (s : St) (l : List Sy) (a : Option Addr) (n c : Nat) (i : Int) (hll : l.length ≤ 1000000) (w : World) (hT : TaIs w H t) (hs : Sl w 2 a n c (l.flatMap sc)) :
  Calls Try.prog 44 #[H.v, .agg #[.int .i64 s.lang, .bool s.num, .bool s.wrd], .slice a n c, .int .i64 i] w (StepsR (stepsL t s l i) w) := by
 have hV := fun w' (hb : Below w.heap.size w w') => ref6_Valid H t w' (hT.below hb)
 have hC := fun w' (hb : Below w.heap.size w w') => ref_Good l a n c w' (hs.below hb)
 obtain rfl := hs.nf sc_len (by decide)
 obtain ⟨LL, HLL⟩ : ∃ LL, Hid (stepsL t s l i = LL) := ⟨_, hide rfl⟩
 rw [HLL.out]
 obtain ⟨⟨a0, n0, c0⟩, ⟨a1, n1, c1⟩, ps0, ps1, ⟨ad, nd, cd⟩, ⟨ac, nc, cc⟩, ⟨an, nn, cn⟩, ⟨af, nf, cf⟩, ⟨aw, nw, cw⟩⟩ := H
 obtain ⟨sg, sn, si⟩ := s
 unfold TH.v at hV ⊢
 simp only [hdv] at hV ⊢
 have hbb : Below w.heap.size w ((w.alloc (.cells #[.slice a0 n0 c0, .slice a1 n1 c1, .slice ad nd cd, .slice ac nc cc, .slice an nn cn, .slice af nf cf, .slice aw nw cw] 29)).alloc (.cells #[.int .i64 sg, .bool sn, .bool si] 70)) := (blo w _).trans ((blo _ _).mono (by simp))
 have X4 : Box ((w.alloc (.cells #[.slice a0 n0 c0, .slice a1 n1 c1, .slice ad nd cd, .slice ac nc cc, .slice an nn cn, .slice af nf cf, .slice aw nw cw] 29)).alloc (.cells #[.int .i64 sg, .bool sn, .bool si] 70)) w.heap.size 29 [.slice a0 n0 c0, .slice a1 n1 c1, .slice ad nd cd, .slice ac nc cc, .slice an nn cn, .slice af nf cf, .slice aw nw cw] := (Box.new w 29 #[.slice a0 n0 c0, .slice a1 n1 c1, .slice ad nd cd, .slice ac nc cc, .slice an nn cn, .slice af nf cf, .slice aw nw cw]).alloc _
 have X5 : Box ((w.alloc (.cells #[.slice a0 n0 c0, .slice a1 n1 c1, .slice ad nd cd, .slice ac nc cc, .slice an nn cn, .slice af nf cf, .slice aw nw cw] 29)).alloc (.cells #[.int .i64 sg, .bool sn, .bool si] 70)) (w.heap.size + 1) 70 [.int .i64 sg, .bool sn, .bool si] := by
  have := Box.new (w.alloc (.cells #[.slice a0 n0 c0, .slice a1 n1 c1, .slice ad nd cd, .slice ac nc cc, .slice an nn cn, .slice af nf cf, .slice aw nw cw] 29)) 70 #[.int .i64 sg, .bool sn, .bool si]
  rwa [show (w.alloc (.cells #[.slice a0 n0 c0, .slice a1 n1 c1, .slice ad nd cd, .slice ac nc cc, .slice an nn cn, .slice af nf cf, .slice aw nw cw] 29)).heap.size = w.heap.size + 1 by simp] at this
 have HBB := hide hbb
 have HX4 := hide X4
 have HX5 := hide X5
 have HTT := hide hT
 have HSS := hide hs
 clear hbb X4 X5 hT hs
 obtain ⟨E, HE⟩ : ∃ E, Hid (validE t = E) := ⟨_, hide rfl⟩
 rw [HE.out] at hV
 by_cases hE : E ≠ 0
 ·have d0 : (E != 0) = true := by simpa using hE
  have hEE : validE t ≠ 0 := by rw [HE.out]; exact hE
  have HEE := hide hEE
  clear hE hEE hC
  have HNO : Hid (LL = []) := hide (by rw [← HLL.out]; exact steps_none (.inl fun h => HEE.out h.1))
  go_enter Try.func44, Try.ntmps44
  go_wp2_with (first | (go_at_call 69; refine (hV _ HBB.out).mono ?_; rintro e w3 ⟨rfl, hb3⟩; have k5 : w3.cell? ⟨w.heap.size + 1, 0, none⟩ = some (.int .i64 sg) := (HX5.out.under hb3).at_ rfl; have hbw3 := HBB.out.trans (hb3.mono HBB.out.size)))
  go_ret
  rw [HNO.out]
  exact ⟨none, 0, [], rfl, Stl.nil _, hbw3⟩
 obtain rfl : E = 0 := Classical.byContradiction hE
 clear hE
 by_cases h1 : sg < 0
 ·have d1 : decide (sg < 0) = true := decide_eq_true h1
  have H1 := hide h1
  clear h1 hC
  have HNO : Hid (LL = []) := hide (by rw [← HLL.out]; exact steps_none (.inl fun h => by have h1 := H1.out; have h2 : sg = 0 ∨ sg = 1 := h.2.1; omega))
  go_enter Try.func44, Try.ntmps44
  go_wp2_with (first | (go_at_call 69; refine (hV _ HBB.out).mono ?_; rintro e w3 ⟨rfl, hb3⟩; have k5 : w3.cell? ⟨w.heap.size + 1, 0, none⟩ = some (.int .i64 sg) := (HX5.out.under hb3).at_ rfl; have hbw3 := HBB.out.trans (hb3.mono HBB.out.size)))
  go_ret
  rw [HNO.out]
  exact ⟨none, 0, [], rfl, Stl.nil _, hbw3⟩
 have d1 : decide (sg < 0) = false := decide_eq_false h1
 by_cases h2 : 1 < sg
 ·have d2 : decide (1 < sg) = true := decide_eq_true h2
  have H1 := hide h2
  clear h2 h1 hC
  have HNO : Hid (LL = []) := hide (by rw [← HLL.out]; exact steps_none (.inl fun h => by have h1 := H1.out; have h2 : sg = 0 ∨ sg = 1 := h.2.1; omega))
  go_enter Try.func44, Try.ntmps44
  go_wp2_with (first | (go_at_call 69; refine (hV _ HBB.out).mono ?_; rintro e w3 ⟨rfl, hb3⟩; have k5 : w3.cell? ⟨w.heap.size + 1, 0, none⟩ = some (.int .i64 sg) := (HX5.out.under hb3).at_ rfl; have hbw3 := HBB.out.trans (hb3.mono HBB.out.size)))
  go_ret
  rw [HNO.out]
  exact ⟨none, 0, [], rfl, Stl.nil _, hbw3⟩
 have d2 : decide (1 < sg) = false := decide_eq_false h2
 have hsg : sg = 0 ∨ sg = 1 := by omega
 have HSG := hide hsg
 clear h1 h2 hsg
 cases hg : goodS l
 ·rw [hg] at hC
  have H1 := hide hg
  clear hg
  have HNO : Hid (LL = []) := hide (by rw [← HLL.out]; exact steps_none (.inl fun h => by rw [H1.out] at h; exact absurd h.2.2.2 (by simp)))
  go_enter Try.func44, Try.ntmps44
  go_wp2_with (first | (go_at_call 69; refine (hV _ HBB.out).mono ?_; rintro e w3 ⟨rfl, hb3⟩; have k5 : w3.cell? ⟨w.heap.size + 1, 0, none⟩ = some (.int .i64 sg) := (HX5.out.under hb3).at_ rfl; have hbw3 := HBB.out.trans (hb3.mono HBB.out.size)) | (go_at_call 71; refine (hC _ hbw3).mono ?_; rintro e w4 ⟨rfl, rfl⟩))
  go_ret
  rw [HNO.out]
  exact ⟨none, 0, [], rfl, Stl.nil _, hbw3⟩
 rw [hg] at hC
 have HGD := hide hg
 clear hg
 by_cases h3 : i < 0
 ·have d3 : decide (i < 0) = true := decide_eq_true h3
  have H1 := hide h3
  clear h3
  have HNO : Hid (LL = []) := hide (by rw [← HLL.out]; exact steps_none (.inl fun h => by have h1 := H1.out; omega))
  go_enter Try.func44, Try.ntmps44
  go_wp2_with (first | (go_at_call 69; refine (hV _ HBB.out).mono ?_; rintro e w3 ⟨rfl, hb3⟩; have k5 : w3.cell? ⟨w.heap.size + 1, 0, none⟩ = some (.int .i64 sg) := (HX5.out.under hb3).at_ rfl; have hbw3 := HBB.out.trans (hb3.mono HBB.out.size)) | (go_at_call 71; refine (hC _ hbw3).mono ?_; rintro e w4 ⟨rfl, rfl⟩))
  go_ret
  rw [HNO.out]
  exact ⟨none, 0, [], rfl, Stl.nil _, hbw3⟩
 have d3 : decide (i < 0) = false := decide_eq_false h3
 by_cases h4 : (l.length : Int) ≤ i
 ·have d4 : decide ((l.length : Int) ≤ i) = true := decide_eq_true h4
  have H1 := hide h4
  clear h4 h3
  have HNO : Hid (LL = []) := hide (by rw [← HLL.out]; exact steps_none (.inr H1.out))
  go_enter Try.func44, Try.ntmps44
  go_wp2_with (first | (go_at_call 69; refine (hV _ HBB.out).mono ?_; rintro e w3 ⟨rfl, hb3⟩; have k5 : w3.cell? ⟨w.heap.size + 1, 0, none⟩ = some (.int .i64 sg) := (HX5.out.under hb3).at_ rfl; have hbw3 := HBB.out.trans (hb3.mono HBB.out.size)) | (go_at_call 71; refine (hC _ hbw3).mono ?_; rintro e w4 ⟨rfl, rfl⟩))
  go_ret
  rw [HNO.out]
  exact ⟨none, 0, [], rfl, Stl.nil _, hbw3⟩
 obtain ⟨p, rfl⟩ : ∃ p : Nat, i = (p : Int) := ⟨i.toNat, by omega⟩
 have hpl : p < l.length := by omega
 have d4 : decide ((l.length : Int) ≤ (p : Int)) = false := decide_eq_false h4
 have d4' : decide (l.length ≤ p) = false := decide_eq_false (by omega)
 obtain ⟨x, hx⟩ : ∃ x, l[p]? = some x := ⟨_, List.getElem?_eq_getElem hpl⟩
 have hxl : x.lang = 0 ∨ x.lang = 1 := by
  have h1 : symOk x = true := by
   have := HGD.out
   unfold goodS at this
   exact List.all_eq_true.1 this _ (List.mem_of_getElem? hx)
  unfold symOk at h1
  simp only [Bool.and_eq_true, Bool.or_eq_true, decide_eq_true_eq] at h1
  exact h1.1
 have HN : Hid (nextL t ⟨sg, sn, si⟩ l p x = LL) := hide (by
  rw [← HLL.out]
  exact (Go.Dx.steps_at HE.out (s := ⟨sg, sn, si⟩) HSG.out HGD.out hx).symm)
 have hNX := fun w' (hb : Below w.heap.size w w') => ref_Next _ t ⟨sg, sn, si⟩ l a l.length c p x hx hll HE.out hxl w' (HTT.out.below hb) (HSS.out.below hb)
 rw [HN.out] at hNX
 unfold TH.v at hNX
 simp only [hdv] at hNX
 clear hx hxl h3 h4
 go_enter Try.func44, Try.ntmps44
 go_wp2_with (first
  | (go_at_call 69; refine (hV _ HBB.out).mono ?_; rintro e w3 ⟨rfl, hb3⟩; have k5 : w3.cell? ⟨w.heap.size + 1, 0, none⟩ = some (.int .i64 sg) := (HX5.out.under hb3).at_ rfl; have hbw3 := HBB.out.trans (hb3.mono HBB.out.size))
  | (go_at_call 71; refine (hC _ hbw3).mono ?_; rintro e w4 ⟨rfl, rfl⟩)
  | (with_reducible refine load_struct 37 29 _ 7 size_tables _ Try.underlying29 ⟨w.heap.size, 0, none⟩ rfl [.slice a0 n0 c0, .slice a1 n1 c1, .slice ad nd cd, .slice ac nc cc, .slice an nn cn, .slice af nf cf, .slice aw nw cw] rfl (fun j u hj => by rw [Addr.add_lit, Nat.zero_add]; exact (HX4.out.under hb3).at_ hj) ?_)
  | (with_reducible refine load_struct 38 70 _ 3 size_rst _ Try.underlying70 ⟨w.heap.size + 1, 0, none⟩ rfl [.int .i64 sg, .bool sn, .bool si] rfl (fun j u hj => by rw [Addr.add_lit, Nat.zero_add]; exact (HX5.out.under hb3).at_ hj) ?_)
  | (go_at_call 72; refine (hNX _ hbw3).mono ?_; rintro e w5 ⟨a5, c5, ps5, rfl, h5, hb5⟩))
 go_ret
 exact ⟨a5, c5, ps5, rfl, h5, hbw3.trans (hb5.mono hbw3.size)⟩
end Go.Proofs.Ytlpkicjijlcbfaa
end

section
namespace Go.Proofs.Ytlpkicjijlcbfaa
open Go.RowKit Go.Dx

end Go.Proofs.Ytlpkicjijlcbfaa
end

section
namespace Go.Proofs.Ytlpkicjijlcbfaa
open Go.RowKit Go.Dx

end Go.Proofs.Ytlpkicjijlcbfaa
end

section
namespace Go.Proofs.Ytlpkicjijlcbfaa
open Go.RowKit Go.Dx

end Go.Proofs.Ytlpkicjijlcbfaa
end

section
namespace Go.Proofs.Ytlpkicjijlcbfaa
open Go.RowKit Go.Dx

end Go.Proofs.Ytlpkicjijlcbfaa
end

section
namespace Go.Proofs.Ytlpkicjijlcbfaa
open Go.RowKit Go.Dx

set_option maxHeartbeats 400000 in
theorem ref_Few (l : List UInt8) (m : Nat) (a : Option Addr) (n c : Nat) (w : World) (hs : Sl w 1 a n c (l.map B8)) (hm : m ≤ 1000000) :
  Calls Try.prog 65 #[.slice a n c, .int .i64 m] w (Gives 5 1 (l.take m).length ((l.take m).map B8) w) := by
 obtain rfl := hs.n_eq
 have hcap := Nat.le_trans hs.le hs.cap
 unfold maxLen at hcap
 by_cases h : l.length ≤ m
 ·have HE : Hid (l.take l.length = l.take m) := by show _ = _; rw [List.take_of_length_le h, List.take_length]
  have HL : Hid (l.length = (l.take m).length) := by show _ = _; rw [List.length_take]; omega
  go_enter Try.func65, Try.ntmps65
  go_wp2_with (first
   | (with_reducible refine cuthi_b 12 _ _ _ _ _ l rfl hs _ _ l.length rfl rfl (by omega) ?_; intro hcut)
   | (at_builtin; refine app_bs rfl _ _ rfl w w.heap.size _ _ _ _ rfl (Own.nil _ _ _ _) _ _ _ (l.take l.length) rfl hcut (by omega) (Nat.le_refl _) (Below.refl _ _) ?_; intro a' c' w' ho' hgr' hb'))
  go_ret
  rw [← HL.out]
  rw [HE.out] at ho'
  refine ⟨a', c', rfl, ?_, hb'⟩
  rw [Nat.zero_add, List.nil_append] at ho'
  exact ho'
 ·have HL : Hid (m = (l.take m).length) := by show _ = _; rw [List.length_take]; omega
  go_enter Try.func65, Try.ntmps65
  go_wp2_with (first
   | (with_reducible refine cuthi_b 12 _ _ _ _ _ l rfl hs _ _ m rfl rfl (by omega) ?_; intro hcut)
   | (at_builtin; refine app_bs rfl _ _ rfl w w.heap.size _ _ _ _ rfl (Own.nil _ _ _ _) _ _ _ (l.take m) rfl hcut (by omega) (Nat.le_refl _) (Below.refl _ _) ?_; intro a' c' w' ho' hgr' hb'))
  go_ret
  rw [← HL.out]
  refine ⟨a', c', rfl, ?_, hb'⟩
  rw [Nat.zero_add, List.nil_append] at ho'
  exact ho'

end Go.Proofs.Ytlpkicjijlcbfaa
end

section
namespace Go.Proofs.Ytlpkicjijlcbfaa
open Go.RowKit Go.Dx

section
variable {w : World} {ops : Array Oper} {rest : List Oper} {act : Act} {Q : Exit → Act → World → Prop} {ty : TypeId} {pos : String} {after : Array Edge}
end

end Go.Proofs.Ytlpkicjijlcbfaa
end

section
/- slices.Equal on bytes, slices.EqualFunc on pages. -/
namespace Go.Proofs.Ytlpkicjijlcbfaa
open Go.RowKit Go.Dx


set_option maxHeartbeats 400000 in
theorem eq_bytes (l1 l2 : List UInt8) (a1 a2 : Option Addr) (n1 n2 c1 c2 : Nat) (w : World) (h1 : Sl w 1 a1 n1 c1 (l1.map B8)) (h2 : Sl w 1 a2 n2 c2 (l2.map B8)) :
  Calls Try.prog 77 #[.slice a1 n1 c1, .slice a2 n2 c2] w (Still (.bool (decide (l1 = l2))) w) := by
 obtain rfl := h1.n_eq
 obtain rfl := h2.n_eq
 have hm1 := Nat.le_trans h1.le h1.cap
 have hm2 := Nat.le_trans h2.le h2.cap
 unfold maxLen at hm1 hm2
 by_cases hlen : l1.length = l2.length
 ·have hb := eq_nat hlen
  have hle1 : l1.length ≤ l2.length := by omega
  have hle2 : l2.length ≤ l1.length := by omega
  have HL := hide hlen
  clear hlen
  go_enter Try.func77, Try.ntmps77
  go_wp2
  go_loopg [13] l1.length (fun g i w' => ∃ (k n : Nat), k ≤ l1.length ∧ g = l1.length - k ∧ l1.take k = l2.take k ∧ i = .int .i64 k ∧ w' = w.drewN n)
  case atStart => exact ⟨0, 0, by omega, by omega, rfl, rfl, rfl⟩
  case round =>
   obtain ⟨k, nq, hk, hg, ht, rfl, rfl⟩ := hrel
   have HG := hide hg
   have HT := hide ht
   clear hg ht
   by_cases hkl : k < l1.length
   ·obtain ⟨b1, o1, rfl, hb1, hc1⟩ := h1.ex (by simp; omega)
    obtain ⟨b2, o2, rfl, hb2, hc2⟩ := h2.ex (by simp; omega)
    obtain ⟨x, hx⟩ : ∃ x, l1[k]? = some x := ⟨l1[k], by simp [hkl]⟩
    obtain ⟨y, hy⟩ : ∃ y, l2[k]? = some y := ⟨l2[k]'(by omega), by simp⟩
    have hx1 : w.cell? ⟨b1, o1 + k, none⟩ = some (.int .u8 (x.toNat : Int)) := hc1 k _ (by rw [List.getElem?_map, hx]; rfl)
    have hy1 : w.cell? ⟨b2, o2 + k, none⟩ = some (.int .u8 (y.toNat : Int)) := hc2 k _ (by rw [List.getElem?_map, hy]; rfl)
    have HX := hide (same_step hx hy HT.out)
    clear hc1 hc2 hx hy
    by_cases hxy : x = y
    ·have HE := hide (HX.out.1 hxy)
     subst hxy
     have hn : ((x.toNat : Int) != (x.toNat : Int)) = false := by simp
     go_wp2
     go_quiet (fail)
     go_wp2
     go_roundg (l1.length - (k + 1))
     case measure => have := HG.out; omega
     case rel => exact ⟨k + 1, _, by omega, rfl, HE.out, by go_num, by first | rfl | exact World.drewN_drewN _ _ _⟩
    ·have hn : ((x.toNat : Int) != (y.toNat : Int)) = true := neq_nat (fun e => hxy (UInt8.toNat_inj.1 e))
     have HE := hide (ne_of_take (fun e => hxy (HX.out.2 e)))
     have hne : Value.bool (decide (l1 = l2)) = .bool false := by rw [decide_eq_false HE.out]
     have HN := hide hne
     clear hne hxy
     go_wp2
     go_quiet (fail)
     go_wp2
     go_ret
     exact ⟨by rw [HN.out]; rfl, _, World.drewN_drewN _ _ _⟩
   ·obtain rfl : k = l1.length := by omega
    go_wp2
    go_ret
    have : l1 = l2 := by have := HT.out; rw [List.take_length, List.take_of_length_le (by omega)] at this; exact this
    exact ⟨by rw [decide_eq_true this]; rfl, _, rfl⟩
 ·have hb := neq_nat hlen
  have HN := hide (decide_eq_false (fun e : l1 = l2 => hlen (by rw [e])))
  clear hlen
  go_enter Try.func77, Try.ntmps77
  go_wp2
  go_ret
  exact ⟨by rw [HN.out]; rfl, 0, rfl⟩




end Go.Proofs.Ytlpkicjijlcbfaa
end

section
/- Chapter 08: the law's example. -/
namespace Go.Proofs.Ytlpkicjijlcbfaa
open Go.RowKit Go.Dx Go.Al
set_option maxRecDepth 100000 in
set_option maxHeartbeats 8000000 in
theorem law8_example (w : World) : Calls Try.prog 45 #[] w fun e w' => ∃ H, e = .returned (TH.v H) ∧ TaIs w' H exD ∧ Below w.heap.size w w' := by
 have X0 := (Box.new w 29 #[.slice none 0 0, .slice none 0 0, .slice none 0 0, .slice none 0 0, .slice none 0 0, .slice none 0 0, .slice none 0 0]).alloc (.cells #[.slice none 0 0, .slice none 0 0, .slice none 0 0, .slice none 0 0, .slice none 0 0, .slice none 0 0, .slice none 0 0] 29)
 have X1 := Box.new (w.alloc (.cells #[.slice none 0 0, .slice none 0 0, .slice none 0 0, .slice none 0 0, .slice none 0 0, .slice none 0 0, .slice none 0 0] 29)) 29 #[.slice none 0 0, .slice none 0 0, .slice none 0 0, .slice none 0 0, .slice none 0 0, .slice none 0 0, .slice none 0 0]
 rw [show (w.alloc (.cells #[.slice none 0 0, .slice none 0 0, .slice none 0 0, .slice none 0 0, .slice none 0 0, .slice none 0 0, .slice none 0 0] 29)).heap.size = w.heap.size + 1 by simp] at X1
 have hb0 : Below w.heap.size w ((w.alloc (.cells #[.slice none 0 0, .slice none 0 0, .slice none 0 0, .slice none 0 0, .slice none 0 0, .slice none 0 0, .slice none 0 0] 29)).alloc (.cells #[.slice none 0 0, .slice none 0 0, .slice none 0 0, .slice none 0 0, .slice none 0 0, .slice none 0 0, .slice none 0 0] 29)) := (blo w _).trans ((blo _ _).mono (by simp))
 obtain ⟨g1, hg1⟩ : ∃ g1, g1 = w.heap.size + 1 := ⟨_, rfl⟩
 have hg1w : w.heap.size ≤ g1 := by omega
 have hg01 : some w.heap.size ≠ some g1 := by simp; omega
 go_enter Try.func45, Try.ntmps45
 go_wp2_with fail
 rw [← hg1] at X1 ⊢
 clear hg1
 generalize (w.alloc (.cells _ 29)).alloc (.cells _ 29) = w2 at *
 go_loopg [2] 2 (fun gh v w' => ∃ (k : Nat) (v0 v1 : Value), k ≤ 2 ∧ gh = 2 - k ∧ v = .int .i64 (k : Int) ∧ Box w' g1 29 [v0, v1, .slice none 0 0, .slice none 0 0, .slice none 0 0, .slice none 0 0, .slice none 0 0] ∧ Box w' w.heap.size 29 [.slice none 0 0, .slice none 0 0, .slice none 0 0, .slice none 0 0, .slice none 0 0, .slice none 0 0, .slice none 0 0] ∧ (k ≤ 0 → v0 = .slice none 0 0) ∧ (k ≤ 1 → v1 = .slice none 0 0) ∧ (1 ≤ k → RO w' w.heap.size v0 (letters 26 ++ twoD)) ∧ (2 ≤ k → RO w' w.heap.size v1 (letters 26 ++ twoD)) ∧ (2 ≤ k → apt v0 v1) ∧ Below w.heap.size w w')
 case atStart => exact ⟨0, _, _, by omega, by omega, rfl, X1, X0, fun _ => rfl, fun _ => rfl, fun h => by omega, fun h => by omega, fun h => by omega, hb0⟩
 case round =>
  clear X0 X1 hb0
  obtain ⟨k, v0, v1, hk, hg, rfl, hX1, hX0, hn0, hn1, hr0, hr1, hap, hb⟩ := hrel
  have HG := hide hg
  clear hg
  by_cases hkl : k < 2
  ·obtain ⟨wo, rfl⟩ : ∃ wo : World, wo = wr := ⟨_, rfl⟩
   obtain ⟨V, hV⟩ : ∃ V : List Value, V = [v0, v1, .slice none 0 0, .slice none 0 0, .slice none 0 0, .slice none 0 0, .slice none 0 0] := ⟨_, rfl⟩
   have hVk : V[k]? = some (.slice none 0 0) := by
    rw [hV]
    rcases k with _ | _ | k
    ·rw [hn0 (by omega)]; rfl
    ·rw [hn1 (by omega)]; rfl
    ·omega
   have hVl : V.length = 7 := by rw [hV]; rfl
   have hkV7 : k < V.length := by omega
   rw [← hV] at hX1
   have HV := hide hV
   have hg1o : g1 < wo.heap.size := hX1.lt
   have hg0o : w.heap.size < wo.heap.size := hX0.lt
   have d0 : decide (k < 2) = true := decide_eq_true hkl
   have d0' : decide ((k : Int) < 2) = true := decide_eq_true (by omega)
   have hbx0 : Box wo g1 29 (V.set k (.slice none 0 0)) := by rw [set_same hVk]; exact hX1
   have HN1 := hide hn1
   have HBO := hide hbx0
   clear hV hVk hX1 hn0 hn1 hVl
   go_wp2_with fail
   go_loopg [3] 26 (fun gh v w' => ∃ (i : Nat) (ps : List RH) (a : Option Addr) (c : Nat), i ≤ 26 ∧ gh = 26 - i ∧ ps.length = i ∧ v = .int .i64 (i : Int) ∧ Hid (rus ps = letters i) ∧ Box w' g1 29 (V.set k (.slice a ps.length c)) ∧ Box w' w.heap.size 29 [.slice none 0 0, .slice none 0 0, .slice none 0 0, .slice none 0 0, .slice none 0 0, .slice none 0 0, .slice none 0 0] ∧ ORu w' 84 5 wo.heap.size a c ps ∧ wo.grownBy w' (some g1))
   case atStart => exact ⟨0, [], none, 0, by omega, by omega, rfl, rfl, hide rfl, hbx0, hX0, ORu.nil _ _ _ _, grown_of_below (Below.refl _ _) _⟩
   case round =>
    clear hbx0
    obtain ⟨i, ps, a, c, hi, hgi, hpl, rfl, HPS, hBx, hB0, hOR, hgo⟩ := hrel
    have HGI := hide hgi
    have HPL := hide hpl
    have hple : ps.length ≤ 26 := by omega
    clear hgi hpl
    have hkV : k < (V.set k (.slice a ps.length c)).length := by rw [List.length_set]; exact hkV7
    by_cases hil : i < 26
    ·have HVC : Hid ((V.set k (.slice a ps.length c))[k]? = some (.slice a ps.length c)) := hide (by rw [List.getElem?_set_self hkV7])
     obtain ⟨cu, hcu⟩ : ∃ cu, cu = UInt8.ofNat (97 + i) := ⟨_, rfl⟩
     obtain ⟨cv, hcv⟩ : ∃ cv, cv = UInt8.ofNat (1 + i) := ⟨_, rfl⟩
     have HU97 : Hid (([.int .u8 (97 + (i : Int))] : List Value) = [cu].map B8) := hide (by
      have : (cu.toNat : Int) = 97 + (i : Int) := by rw [hcu, UInt8.toNat_ofNat']; omega
      show _ = [Value.int .u8 (cu.toNat : Int)]
      rw [this])
     have HU1 : Hid (([.int .u8 (1 + (i : Int))] : List Value) = [cv].map B8) := hide (by
      have : (cv.toNat : Int) = 1 + (i : Int) := by rw [hcv, UInt8.toNat_ofNat']; omega
      show _ = [Value.int .u8 (cv.toNat : Int)]
      rw [this])
     have HPS2 : Hid (∀ h, Hid (rus (ps ++ [((⟨⟨#[cu]⟩, 0, [cv]⟩ : Ru), h)]) = letters (i + 1))) := hide (fun h => hide (by rw [letters_step, ← HPS.out, hcu, hcv]; unfold rus; simp))
     clear hcu hcv
     have HNE : Hid (∀ b, wr.heap.size ≤ b → some b ≠ a.map (·.block)) := hide (fun b hb => own_map hOR.top hb)
     go_wp2_with fail
     refine wp_region_chain4 21 (fun w w' => w.grownBy w' (a.map (·.block))) (GEx wr wo 29 84 5 g1 w.heap.size (V.set k (.slice a ps.length c)) [.slice none 0 0, .slice none 0 0, .slice none 0 0, .slice none 0 0, .slice none 0 0, .slice none 0 0, .slice none 0 0] (ps.length + 1) ps (⟨⟨#[cu]⟩, 0, [cv]⟩ : Ru)) [⟨17, 29, [], fun _ _ => True⟩] [⟨0, 12, [12], fun vs _ => vs = [.int .i64 (k : Int)]⟩, ⟨1, 13, [13], fun vs _ => vs = [.int .i64 (k : Int)]⟩, ⟨2, 14, [14], fun vs _ => vs = [.pointer (some ⟨g1, 0, none⟩)]⟩, ⟨3, 15, [15], fun vs _ => vs = [.pointer (some ⟨g1, k, none⟩)]⟩, ⟨4, 16, [16], fun vs _ => vs = [.pointer (some ⟨g1, k, none⟩)]⟩, ⟨5, 17, [17], fun vs _ => vs = [.slice a ps.length c]⟩, ⟨6, 18, [18], fun vs _ => vs = [.int .i64 (i : Int)]⟩, ⟨7, 19, [19], fun vs _ => vs = [.int .i64 (97 + (i : Int))]⟩, ⟨8, 20, [20], fun vs _ => vs = [.int .u8 (97 + (i : Int))]⟩, ⟨9, 21, [21], fun vs w' => ∃ b, vs = [.slice (some ⟨b, 0, none⟩) 1 1] ∧ wr.heap.size ≤ b ∧ Own w' 0 5 1 (some ⟨b, 0, none⟩) 1 1 [.int .u8 (97 + (i : Int))]⟩, ⟨10, 22, [22], fun vs _ => vs = [.string ⟨#[cu]⟩]⟩, ⟨11, 23, [23], fun vs _ => vs = [.int .i64 (i : Int)]⟩, ⟨12, 24, [24], fun vs _ => vs = [.int .i64 (1 + (i : Int))]⟩, ⟨13, 25, [25], fun vs _ => vs = [.int .u8 (1 + (i : Int))]⟩, ⟨14, 26, [26], fun vs w' => ∃ b, vs = [.slice (some ⟨b, 0, none⟩) 1 1] ∧ wr.heap.size ≤ b ∧ Own w' 0 5 1 (some ⟨b, 0, none⟩) 1 1 ([cv].map B8)⟩, ⟨15, 27, [27], fun vs w' => ∃ b, vs = [.agg #[.string ⟨#[cu]⟩, .int .i64 0, .slice (some ⟨b, 0, none⟩) 1 1]] ∧ wr.heap.size ≤ b ∧ Own w' 0 5 1 (some ⟨b, 0, none⟩) 1 1 ([cv].map B8)⟩, ⟨16, 28, [28], fun vs w' => ∃ b2, vs = [.slice (some ⟨b2, 0, none⟩) 1 1] ∧ wr.heap.size ≤ b2 ∧ ∃ b, wr.heap.size ≤ b ∧ Sl w' 3 (some ⟨b2, 0, none⟩) 1 1 (rc ((⟨⟨#[cu]⟩, 0, [cv]⟩ : Ru), (some ⟨b, 0, none⟩, 1, 1))) ∧ Own w' 0 5 1 (some ⟨b, 0, none⟩) 1 1 ([cv].map B8)⟩, ⟨18, 30, [30], fun vs _ => vs = [.pointer (some ⟨g1, 0, none⟩)]⟩, ⟨19, 31, [31], fun vs _ => vs = [.pointer (some ⟨g1, k, none⟩)]⟩, ⟨20, 32, [32], fun vs _ => vs = [.pointer (some ⟨g1, k, none⟩)]⟩] (by kernel_rfl) (by kernel_rfl) ?_ (fun _ _ h => grown_of_below h _) GEx.mono ?_ ?_ ?_ ?_
     ·exact (Still.below 1 : Below wr.heap.size wr (wr.drewN 1))
     ·simp only [All]
      refine ⟨(fun _ _ _ _ h => h), (fun _ _ _ _ h => h), (fun _ _ _ _ h => h), (fun _ _ _ _ h => h), (fun _ _ _ _ h => h), (fun _ _ _ _ h => h), (fun _ _ _ _ h => h), (fun _ _ _ _ h => h), (fun _ _ _ _ h => h), (fun vs w1 w2 hr ⟨b, h1, h0, h2⟩ => ⟨b, h1, h0, h2.kept hr (fun q hq => by cases hq; exact HNE.out b h0)⟩), (fun _ _ _ _ h => h), (fun _ _ _ _ h => h), (fun _ _ _ _ h => h), (fun _ _ _ _ h => h), (fun vs w1 w2 hr ⟨b, h1, h0, h2⟩ => ⟨b, h1, h0, h2.kept hr (fun q hq => by cases hq; exact HNE.out b h0)⟩), (fun vs w1 w2 hr ⟨b, h1, h0, h2⟩ => ⟨b, h1, h0, h2.kept hr (fun q hq => by cases hq; exact HNE.out b h0)⟩), (fun vs w1 w2 hr ⟨b2, h1, h2, b, h0, h3, h4⟩ => ⟨b2, h1, h2, b, h0, h3.grown hr (fun q hq => by cases hq; exact HNE.out b2 h2), h4.kept hr (fun q hq => by cases hq; exact HNE.out b h0)⟩), (fun _ _ _ _ h => h), (fun _ _ _ _ h => h), (fun _ _ _ _ h => h), trivial⟩
     ·intro m c hc o ho a' w' hG hfr hdep
      rcases m with _ | m
      ·cases hc
       obtain rfl := oj ho
       have hb : Below wr.heap.size wr w' := hG
       have g17 : a'.tmps[17]?.getD undef = .slice a ps.length c := by simpa using hdep 5 _ rfl (by kernel_rfl)
       obtain ⟨b2, g28, hb2, b8, _, hs2, ho8⟩ := hdep 16 _ rfl (by kernel_rfl)
       simp at g28
       clear hfr hdep hG
       have hOw := hOR.below hb
       have hsz9 := Nat.le_trans hgo.size hb.size
       refine app_ru2 rfl _ _ rfl w' wo.heap.size a c ps (by show a'.tmps.getD 17 undef = _; simpa using g17) hOw ((⟨⟨#[cu]⟩, 0, [cv]⟩ : Ru), (some ⟨b8, 0, none⟩, 1, 1)) ho8 (by show (1 : Nat) ≤ 1000; decide) (some ⟨b2, 0, none⟩) 1 (by show a'.tmps.getD 28 undef = _; simpa using g28) hs2 (by omega) hsz9 (Below.refl _ _) ?_
       intro a3 c3 w7 ho7 hb7 hgr7
       go_wp2
       exact ⟨rfl, _, rfl, hgr7, ⟨a3, c3, rfl, b8, ho7⟩, (hBx.under hb).below hb7 hg1o, (hB0.under hb).below hb7 hg0o, grown_below (grown_below hgo (hb.mono hgo.size)) hb7, Nat.le_trans hb.size hb7.size⟩
      ·cases hc
     ·simp only [All]
      refine ⟨?_, ?_, ?_, ?_, ?_, ?_, ?_, ?_, ?_, ?_, ?_, ?_, ?_, ?_, ?_, ?_, ?_, ?_, ?_, ?_, trivial⟩
      ·intro o ho a' w' hfr hdep hst; obtain rfl := oj ho
       have g2 : a'.tmps[2]?.getD undef = .int .i64 (k : Int) := by simpa using hfr 2 (by kernel_rfl)
       clear ho hfr hdep hst; go_wp2_with fail; exact ⟨rfl, _, rfl, br, rfl⟩
      ·intro o ho a' w' hfr hdep hst; obtain rfl := oj ho
       have g2 : a'.tmps[2]?.getD undef = .int .i64 (k : Int) := by simpa using hfr 2 (by kernel_rfl)
       clear ho hfr hdep hst; go_wp2_with fail; exact ⟨rfl, _, rfl, br, rfl⟩
      ·intro o ho a' w' hfr hdep hst; obtain rfl := oj ho
       have g1 : a'.tmps[1]?.getD undef = .pointer (some ⟨g1, 0, none⟩) := by simpa using hfr 1 (by kernel_rfl)
       clear ho hfr hdep hst; go_wp2_with fail; exact ⟨rfl, _, rfl, br, rfl⟩
      ·intro o ho a' w' hfr hdep hst; obtain rfl := oj ho
       have g14 : a'.tmps[14]?.getD undef = .pointer (some ⟨g1, 0, none⟩) := by simpa using hdep 2 _ rfl (by kernel_rfl)
       have g13 : a'.tmps[13]?.getD undef = .int .i64 (k : Int) := by simpa using hdep 1 _ rfl (by kernel_rfl)
       clear ho hfr hdep hst; go_wp2_with fail; exact ⟨rfl, _, rfl, br, rfl⟩
      ·intro o ho a' w' hfr hdep hst; obtain rfl := oj ho
       have g15 : a'.tmps[15]?.getD undef = .pointer (some ⟨g1, k, none⟩) := by simpa using hdep 3 _ rfl (by kernel_rfl)
       clear ho hfr hdep hst; go_wp2_with fail; exact ⟨rfl, _, rfl, br, rfl⟩
      ·intro o ho a' w' hfr hdep hst; obtain rfl := oj ho
       have g16 : a'.tmps[16]?.getD undef = .pointer (some ⟨g1, k, none⟩) := by simpa using hdep 4 _ rfl (by kernel_rfl)
       obtain ⟨j, _, _, hG⟩ := hst
       clear ho hfr hdep; have hcl := (hG.box hBx).at_ HVC.out
       clear hG
       go_wp2_with fail; exact ⟨rfl, _, rfl, br, rfl⟩
      ·intro o ho a' w' hfr hdep hst; obtain rfl := oj ho
       have g3 : a'.tmps[3]?.getD undef = .int .i64 (i : Int) := by simpa using hfr 3 (by kernel_rfl)
       clear ho hfr hdep hst; go_wp2_with fail; exact ⟨rfl, _, rfl, br, rfl⟩
      ·intro o ho a' w' hfr hdep hst; obtain rfl := oj ho
       have g18 : a'.tmps[18]?.getD undef = .int .i64 (i : Int) := by simpa using hdep 6 _ rfl (by kernel_rfl)
       clear ho hfr hdep hst; go_wp2_with fail; exact ⟨rfl, _, rfl, br, rfl⟩
      ·intro o ho a' w' hfr hdep hst; obtain rfl := oj ho
       have g19 : a'.tmps[19]?.getD undef = .int .i64 (97 + (i : Int)) := by simpa using hdep 7 _ rfl (by kernel_rfl)
       clear ho hfr hdep hst; go_wp2_with fail; exact ⟨rfl, _, rfl, br, rfl⟩
      ·intro o ho a' w' hfr hdep hst; obtain rfl := oj ho
       have g20 : a'.tmps[20]?.getD undef = .int .u8 (97 + (i : Int)) := by simpa using hdep 8 _ rfl (by kernel_rfl)
       obtain ⟨j, _, _, hG⟩ := hst
       clear ho hfr hdep; have hsz := hG.size
       clear hG
       go_wp2_with fail
       exact ⟨rfl, _, rfl, blo _ _, _, rfl, hsz, Own.built w' 0 5 1 1 #[.int .u8 (97 + (i : Int))] (Nat.zero_le _) rfl (by decide)⟩
      ·intro o ho a' w' hfr hdep hst; obtain rfl := oj ho
       obtain ⟨b8, g21, hb8, ho8⟩ := hdep 9 _ rfl (by kernel_rfl)
       simp at g21
       clear ho hfr hdep hst; have hs8 := ho8.sl
       rw [HU97.out] at hs8
       refine to_str 22 _ (some ⟨b8, 0, none⟩) 1 1 [cu] (by show a'.tmps.getD 21 undef = _; simpa using g21) hs8 ?_
       go_wp2_with fail; exact ⟨rfl, _, rfl, br, rfl⟩
      ·intro o ho a' w' hfr hdep hst; obtain rfl := oj ho
       have g3 : a'.tmps[3]?.getD undef = .int .i64 (i : Int) := by simpa using hfr 3 (by kernel_rfl)
       clear ho hfr hdep hst; go_wp2_with fail; exact ⟨rfl, _, rfl, br, rfl⟩
      ·intro o ho a' w' hfr hdep hst; obtain rfl := oj ho
       have g23 : a'.tmps[23]?.getD undef = .int .i64 (i : Int) := by simpa using hdep 11 _ rfl (by kernel_rfl)
       clear ho hfr hdep hst; go_wp2_with fail; exact ⟨rfl, _, rfl, br, rfl⟩
      ·intro o ho a' w' hfr hdep hst; obtain rfl := oj ho
       have g24 : a'.tmps[24]?.getD undef = .int .i64 (1 + (i : Int)) := by simpa using hdep 12 _ rfl (by kernel_rfl)
       clear ho hfr hdep hst; go_wp2_with fail; exact ⟨rfl, _, rfl, br, rfl⟩
      ·intro o ho a' w' hfr hdep hst; obtain rfl := oj ho
       have g25 : a'.tmps[25]?.getD undef = .int .u8 (1 + (i : Int)) := by simpa using hdep 13 _ rfl (by kernel_rfl)
       obtain ⟨j, _, _, hG⟩ := hst
       clear ho hfr hdep; have hsz := hG.size
       clear hG
       go_wp2_with fail
       refine ⟨rfl, _, rfl, blo _ _, _, rfl, hsz, ?_⟩
       rw [← HU1.out]
       exact Own.built w' 0 5 1 1 #[.int .u8 (1 + (i : Int))] (Nat.zero_le _) rfl (by decide)
      ·intro o ho a' w' hfr hdep hst; obtain rfl := oj ho
       have g22 : a'.tmps[22]?.getD undef = .string ⟨#[cu]⟩ := by simpa using hdep 10 _ rfl (by kernel_rfl)
       obtain ⟨b8, g26, hb8, ho8⟩ := hdep 14 _ rfl (by kernel_rfl)
       simp at g26
       clear ho hfr hdep hst; go_wp2_with fail; exact ⟨rfl, _, rfl, br, b8, rfl, hb8, ho8⟩
      ·intro o ho a' w' hfr hdep hst; obtain rfl := oj ho
       obtain ⟨b8, g27, hb8, ho8⟩ := hdep 15 _ rfl (by kernel_rfl)
       simp at g27
       obtain ⟨j, _, _, hG⟩ := hst
       clear ho hfr hdep; have hsz := hG.size
       clear hG
       go_wp2_with fail
       exact ⟨rfl, _, rfl, blo _ _, _, rfl, hsz, b8, hb8, Sl.fresh _ _ 3 1 (rc ((⟨⟨#[cu]⟩, 0, [cv]⟩ : Ru), (some ⟨b8, 0, none⟩, 1, 1))) rfl (by decide), ho8.alloc _⟩
      ·intro o ho a' w' hfr hdep hst; obtain rfl := oj ho
       have g1 : a'.tmps[1]?.getD undef = .pointer (some ⟨g1, 0, none⟩) := by simpa using hfr 1 (by kernel_rfl)
       clear ho hfr hdep hst; go_wp2_with fail; exact ⟨rfl, _, rfl, br, rfl⟩
      ·intro o ho a' w' hfr hdep hst; obtain rfl := oj ho
       have g30 : a'.tmps[30]?.getD undef = .pointer (some ⟨g1, 0, none⟩) := by simpa using hdep 17 _ rfl (by kernel_rfl)
       have g12 : a'.tmps[12]?.getD undef = .int .i64 (k : Int) := by simpa using hdep 0 _ rfl (by kernel_rfl)
       clear ho hfr hdep hst; go_wp2_with fail; exact ⟨rfl, _, rfl, br, rfl⟩
      ·intro o ho a' w' hfr hdep hst; obtain rfl := oj ho
       have g31 : a'.tmps[31]?.getD undef = .pointer (some ⟨g1, k, none⟩) := by simpa using hdep 18 _ rfl (by kernel_rfl)
       clear ho hfr hdep hst; go_wp2_with fail; exact ⟨rfl, _, rfl, br, rfl⟩
     ·intro g w7 hG hp
      obtain ⟨⟨a7, c7, p29, b7, ho7⟩, gB, gZ, gG, _⟩ := hG
      have p32 := hp 19 _ rfl
      clear hp
      simp at p29 p32
      simp only [List.drop_succ_cons, List.drop_zero, List.map_cons, List.map_nil, putAll, Act.put, List.setIfInBounds_toArray, List.set_cons_succ, List.set_cons_zero, List.cons_append, List.nil_append, p29, p32]
      go_wp2_with (with_reducible refine store_cell 23 _ _ 29 g1 k (V.set k (.slice a ps.length c)) (.slice a7 (ps.length + 1) c7) size_rules gB rfl rfl rfl rfl hkV ?_; intro w8 hx8 hg8 hs8)
      rw [List.set_set] at hx8
      have ho8 := ho7.kept hg8 gB (by decide) (by decide)
      have hz8 := gZ.grown hg8 hg01
      have hgo8 := grown_trans gG hg8
      go_roundg (26 - (i + 1))
      case measure => have := HGI.out; omega
      case rel => exact ⟨i + 1, ps ++ [((⟨⟨#[cu]⟩, 0, [cv]⟩ : Ru), (some ⟨b7, 0, none⟩, 1, 1))], a7, c7, by omega, rfl, by rw [List.length_append, HPL.out]; rfl, by go_num, HPS2.out _, by rw [List.length_append]; exact hx8, hz8, ho8, hgo8⟩
    ·obtain rfl : i = 26 := by omega
     obtain ⟨wb, hwb⟩ : ∃ wb, wb = ((wr.alloc (.cells #[.int .u8 27] 5)).alloc (.cells #[.int .u8 28] 5)).alloc (.cells #[.string ⟨#[97, 110]⟩, .int .i64 0, .slice (some ⟨wr.heap.size, 0, none⟩) 1 1, .string ⟨#[97, 110, 100]⟩, .int .i64 0, .slice (some ⟨wr.heap.size + 1, 0, none⟩) 1 1] 84) := ⟨_, rfl⟩
     obtain ⟨qs, hqs⟩ : ∃ qs : List RH, qs = [(⟨⟨#[97, 110]⟩, 0, [27]⟩, (some ⟨wr.heap.size, 0, none⟩, 1, 1)), (⟨⟨#[97, 110, 100]⟩, 0, [28]⟩, (some ⟨wr.heap.size + 1, 0, none⟩, 1, 1))] := ⟨_, rfl⟩
     have hs1 : (wr.alloc (.cells #[.int .u8 27] 5)).heap.size = wr.heap.size + 1 := by simp
     have hs2 : ((wr.alloc (.cells #[.int .u8 27] 5)).alloc (.cells #[.int .u8 28] 5)).heap.size = wr.heap.size + 1 + 1 := by simp
     have o1 : Own wb 0 5 1 (some ⟨wr.heap.size, 0, none⟩) 1 1 [.int .u8 27] := by rw [hwb]; exact ((Own.built wr 0 5 1 1 #[.int .u8 27] (Nat.zero_le _) rfl (by decide)).alloc _).alloc _
     have o2 : Own wb 0 5 1 (some ⟨wr.heap.size + 1, 0, none⟩) 1 1 [.int .u8 28] := by
      rw [hwb, ← hs1]; exact (Own.built _ 0 5 1 1 #[.int .u8 28] (Nat.zero_le _) rfl (by decide)).alloc _
     have hrows : ∀ p ∈ qs, Own wb 0 5 1 p.2.1 p.2.2.1 p.2.2.2 (p.1.cells.map B8) ∧ p.1.text.size ≤ 1000 := by
      rw [hqs]
      intro p hp
      simp only [List.mem_cons, List.not_mem_nil, or_false] at hp
      rcases hp with rfl | rfl
      ·exact ⟨o1, show (2 : Nat) ≤ 1000 by decide⟩
      ·exact ⟨o2, show (3 : Nat) ≤ 1000 by decide⟩
     have hyq : Sl wb 3 (some ⟨wr.heap.size + 1 + 1, 0, none⟩) qs.length 2 (qs.flatMap rc) := by
      have h := Sl.fresh ((wr.alloc (.cells #[.int .u8 27] 5)).alloc (.cells #[.int .u8 28] 5)) 84 3 2 (qs.flatMap rc) (by rw [hqs]; rfl) (by decide)
      rw [hs2] at h
      rw [hwb]
      rw [hqs] at h ⊢
      exact h
     have hba : Below wr.heap.size wr wb := by
      rw [hwb]
      exact ((blo wr _).trans ((blo _ _).mono (by rw [hs1]; omega))).trans ((blo _ _).mono (by rw [hs2]; omega))
     have hql : qs.length = 2 := by rw [hqs]; rfl
     have hrq : rus qs = twoD := by rw [hqs]; rfl
     have HQL := hide hql
     have HRQ := hide hrq
     have HWB := hide hwb
     have HYQ := hide hyq
     have hOa := hOR.below hba
     have hBa := hBx.under hba
     have hB0a := hB0.under hba
     have hgoa := grown_below hgo (hba.mono hgo.size)
     have hcl : wr.cell? ⟨g1, k, none⟩ = some (.slice a ps.length c) := hBx.at_ (by rw [List.getElem?_set_self hkV7])
     have hszb : wo.heap.size ≤ wb.heap.size := Nat.le_trans hgo.size hba.size
     clear hqs hwb hs1 hs2 o1 o2 hql hrq hyq hOR hBx hgo hba
     go_wp2_with (first
      | (at_builtin; rw [← HWB.out]; refine app_rus rfl _ _ rfl wb wo.heap.size a c ps qs rfl hOa hrows (some ⟨wr.heap.size + 1 + 1, 0, none⟩) 2 (by rw [HQL.out]; rfl) HYQ.out (by omega) (by rw [HQL.out]; omega) hszb (Below.refl _ _) ?_; intro a6 c6 w6 ho6 hb6 hgr6; refine hold ?_))
     refine hide ?_
     have hB6 := hBa.grown hgr6 (box_map hBa hOa.top (by decide))
     have hB06 := hB0a.grown hgr6 (box_map hB0a hOa.top (by decide))
     have hgo6 := grown_below hgoa hb6
     obtain ⟨nn, hnn⟩ : ∃ nn, Hid (ps.length + qs.length = nn) := ⟨_, hide rfl⟩
     rw [hnn.out]
     clear hBa hB0a hgoa hcl hgr6 hb6 hOa hrows hszb HWB HYQ hB0
     go_wp2_with (with_reducible refine hold_store ?_)
     refine hide ?_
     refine store_cell 23 _ _ 29 g1 k (V.set k (.slice a ps.length c)) (.slice a6 nn c6) size_rules hB6 rfl rfl rfl rfl hkV ?_; intro w8 hBx hg8 hs8
     rw [List.set_set] at hBx
     obtain rfl : nn = (ps ++ qs).length := by rw [List.length_append]; exact hnn.out.symm
     have hOR := ho6.kept hg8 hB6 (by decide) (by decide)
     have hB0 := hB06.grown hg8 hg01
     have hgo := grown_trans hgo6 hg8
     clear ho6 hB6 hB06 hgo6 hg8 hs8
     have HPQ : Hid (rus (ps ++ qs) = letters 26 ++ twoD) := hide (by unfold rus at HRQ ⊢; rw [List.map_append, HRQ.out]; have := HPS.out; unfold rus at this; rw [this])
     have HKN : Hid (∃ v0' v1', Box w8 g1 29 [v0', v1', .slice none 0 0, .slice none 0 0, .slice none 0 0, .slice none 0 0, .slice none 0 0] ∧ (k + 1 ≤ 0 → v0' = .slice none 0 0) ∧ (k + 1 ≤ 1 → v1' = .slice none 0 0) ∧ (1 ≤ k + 1 → RO w8 w.heap.size v0' (letters 26 ++ twoD)) ∧ (2 ≤ k + 1 → RO w8 w.heap.size v1' (letters 26 ++ twoD)) ∧ (2 ≤ k + 1 → apt v0' v1')) := by
      have hl := HV.out
      have hro : RO w8 w.heap.size (.slice a6 (ps ++ qs).length c6) (letters 26 ++ twoD) := ⟨a6, c6, ps ++ qs, rfl, hOR.mono (Nat.le_of_lt hg0o), HPQ.out⟩
      rw [hl] at hBx
      rcases k with _ | _ | k
      ·exact hide ⟨_, v1, hBx, fun h => by omega, fun _ => HN1.out (by omega), fun _ => hro, fun h => by omega, fun h => by omega⟩
      ·exact hide ⟨v0, _, hBx, fun h => by omega, fun h => by omega, fun _ => (hr0 (by omega)).kept hgo HBO.out, fun _ => hro, fun _ => apt_of (hr0 (by omega)) hOR.top⟩
      ·omega
     have hbw := hb.grown hgo hb.size (fun q hq => by cases hq; exact hg1w)
     clear hBx hOR hr0 hr1
     go_wp2_with fail
     obtain ⟨v0', v1', z1, z2, z3, z4, z5, z6⟩ := HKN.out
     go_roundg (2 - (k + 1))
     case measure => have := HG.out; omega
     case rel => exact ⟨k + 1, v0', v1', by omega, rfl, by go_num, z1, hB0, z2, z3, z4, z5, z6, hbw⟩
  ·obtain rfl : k = 2 := by omega
   have r0 := hr0 (by omega)
   have r1 := hr1 (by omega)
   have hapt := hap (by omega)
   clear hn0 hn1 hr0 hr1 hap hkl hk HG
   obtain ⟨w6, rfl⟩ : ∃ w' : World, w' = wr := ⟨_, rfl⟩
   obtain ⟨a5, c5, ps5, rfl, hO5, hp5⟩ := r0
   have r06 : RO w6 w.heap.size (.slice a5 ps5.length c5) (letters 26 ++ twoD) := ⟨a5, c5, ps5, rfl, hO5, hp5⟩
   clear hO5 hp5
   obtain ⟨L0, hL0⟩ : ∃ L0, L0 = ps5.length := ⟨_, rfl⟩
   rw [← hL0] at r06 hX1
   clear hL0
   have r16 := r1
   have hx6 := hX1
   have hz6 := hX0
   have hbw6 := hb
   clear r1 hX1 hX0 hb hapt
   have al := blo w6 (.cells #[.int .u8 1, .int .u8 2, .int .u8 3, .int .u8 4, .int .u8 5, .int .u8 6, .int .u8 7, .int .u8 8, .int .u8 9, .int .u8 10] 5)
   have ub2 : UB (w6.alloc (.cells #[.int .u8 1, .int .u8 2, .int .u8 3, .int .u8 4, .int .u8 5, .int .u8 6, .int .u8 7, .int .u8 8, .int .u8 9, .int .u8 10] 5)) (.slice (some ⟨w6.heap.size, 0, none⟩) 10 10) [1, 2, 3, 4, 5, 6, 7, 8, 9, 10] := UB.new w6 [1, 2, 3, 4, 5, 6, 7, 8, 9, 10] 10 rfl (by decide)
   have hxl := hx6.alloc (.cells #[.int .u8 1, .int .u8 2, .int .u8 3, .int .u8 4, .int .u8 5, .int .u8 6, .int .u8 7, .int .u8 8, .int .u8 9, .int .u8 10] 5)
   have hln : 2 < ([.slice a5 L0 c5, v1, .slice none 0 0, .slice none 0 0, .slice none 0 0, .slice none 0 0, .slice none 0 0] : List Value).length := by simp
   go_wp2_with (with_reducible refine store_cell 27 _ _ 29 g1 2 [.slice a5 L0 c5, v1, .slice none 0 0, .slice none 0 0, .slice none 0 0, .slice none 0 0, .slice none 0 0] (.slice (some ⟨w6.heap.size, 0, none⟩) 10 10) size_row hxl rfl rfl rfl rfl hln ?_; intro w7 hx7 hg7 hs7; refine hold ?_)
   refine hide ?_
   have ub2 := ub2.kept hg7 hxl
   have r07 := (r06.below al).kept hg7 hxl
   have r17 := (r16.below al).kept hg7 hxl
   have hz7 := (hz6.under al).grown hg7 hg01
   have hbw7 := (hbw6.trans (al.mono hbw6.size)).grown hg7 (by have := hbw6.size; have := al.size; omega) (fun q hq => by cases hq; exact hg1w)
   obtain ⟨s2, hs2⟩ : ∃ s : Value, s = .slice (some ⟨w6.heap.size, 0, none⟩) 10 10 := ⟨_, rfl⟩
   rw [← hs2] at ub2 hx7 ⊢
   have hx7 : Box w7 g1 29 [.slice a5 L0 c5, v1, s2, .slice none 0 0, .slice none 0 0, .slice none 0 0, .slice none 0 0] := hx7
   clear hs2 al hxl hln hg7 hs7 hx6 r06 r16 hz6 hbw6
   have al := blo w7 (.cells #[.int .u8 40] 5)
   have ub3 : UB (w7.alloc (.cells #[.int .u8 40] 5)) (.slice (some ⟨w7.heap.size, 0, none⟩) 1 1) [40] := UB.new w7 [40] 1 rfl (by decide)
   have hxl := hx7.alloc (.cells #[.int .u8 40] 5)
   have hln : 3 < ([.slice a5 L0 c5, v1, s2, .slice none 0 0, .slice none 0 0, .slice none 0 0, .slice none 0 0] : List Value).length := by simp
   go_wp2_with (with_reducible refine store_cell 27 _ _ 29 g1 3 [.slice a5 L0 c5, v1, s2, .slice none 0 0, .slice none 0 0, .slice none 0 0, .slice none 0 0] (.slice (some ⟨w7.heap.size, 0, none⟩) 1 1) size_row hxl rfl rfl rfl rfl hln ?_; intro w8 hx8 hg8 hs8; refine hold ?_)
   refine hide ?_
   have ub2 := (ub2.below al).kept hg8 hxl
   have ub3 := ub3.kept hg8 hxl
   have r08 := (r07.below al).kept hg8 hxl
   have r18 := (r17.below al).kept hg8 hxl
   have hz8 := (hz7.under al).grown hg8 hg01
   have hbw8 := (hbw7.trans (al.mono hbw7.size)).grown hg8 (by have := hbw7.size; have := al.size; omega) (fun q hq => by cases hq; exact hg1w)
   obtain ⟨s3, hs3⟩ : ∃ s : Value, s = .slice (some ⟨w7.heap.size, 0, none⟩) 1 1 := ⟨_, rfl⟩
   rw [← hs3] at ub3 hx8 ⊢
   have hx8 : Box w8 g1 29 [.slice a5 L0 c5, v1, s2, s3, .slice none 0 0, .slice none 0 0, .slice none 0 0] := hx8
   clear hs3 al hxl hln hg8 hs8 hx7 r07 r17 hz7 hbw7
   have al := blo w8 (.cells #[.int .u8 41] 5)
   have ub4 : UB (w8.alloc (.cells #[.int .u8 41] 5)) (.slice (some ⟨w8.heap.size, 0, none⟩) 1 1) [41] := UB.new w8 [41] 1 rfl (by decide)
   have hxl := hx8.alloc (.cells #[.int .u8 41] 5)
   have hln : 4 < ([.slice a5 L0 c5, v1, s2, s3, .slice none 0 0, .slice none 0 0, .slice none 0 0] : List Value).length := by simp
   go_wp2_with (with_reducible refine store_cell 27 _ _ 29 g1 4 [.slice a5 L0 c5, v1, s2, s3, .slice none 0 0, .slice none 0 0, .slice none 0 0] (.slice (some ⟨w8.heap.size, 0, none⟩) 1 1) size_row hxl rfl rfl rfl rfl hln ?_; intro w9 hx9 hg9 hs9; refine hold ?_)
   refine hide ?_
   have ub2 := (ub2.below al).kept hg9 hxl
   have ub3 := (ub3.below al).kept hg9 hxl
   have ub4 := ub4.kept hg9 hxl
   have r09 := (r08.below al).kept hg9 hxl
   have r19 := (r18.below al).kept hg9 hxl
   have hz9 := (hz8.under al).grown hg9 hg01
   have hbw9 := (hbw8.trans (al.mono hbw8.size)).grown hg9 (by have := hbw8.size; have := al.size; omega) (fun q hq => by cases hq; exact hg1w)
   obtain ⟨s4, hs4⟩ : ∃ s : Value, s = .slice (some ⟨w8.heap.size, 0, none⟩) 1 1 := ⟨_, rfl⟩
   rw [← hs4] at ub4 hx9 ⊢
   have hx9 : Box w9 g1 29 [.slice a5 L0 c5, v1, s2, s3, s4, .slice none 0 0, .slice none 0 0] := hx9
   clear hs4 al hxl hln hg9 hs9 hx8 r08 r18 hz8 hbw8
   have al := blo w9 (.cells #[.int .u8 42] 5)
   have ub5 : UB (w9.alloc (.cells #[.int .u8 42] 5)) (.slice (some ⟨w9.heap.size, 0, none⟩) 1 1) [42] := UB.new w9 [42] 1 rfl (by decide)
   have hxl := hx9.alloc (.cells #[.int .u8 42] 5)
   have hln : 5 < ([.slice a5 L0 c5, v1, s2, s3, s4, .slice none 0 0, .slice none 0 0] : List Value).length := by simp
   go_wp2_with (with_reducible refine store_cell 27 _ _ 29 g1 5 [.slice a5 L0 c5, v1, s2, s3, s4, .slice none 0 0, .slice none 0 0] (.slice (some ⟨w9.heap.size, 0, none⟩) 1 1) size_row hxl rfl rfl rfl rfl hln ?_; intro w10 hx10 hg10 hs10; refine hold ?_)
   refine hide ?_
   have ub2 := (ub2.below al).kept hg10 hxl
   have ub3 := (ub3.below al).kept hg10 hxl
   have ub4 := (ub4.below al).kept hg10 hxl
   have ub5 := ub5.kept hg10 hxl
   have r010 := (r09.below al).kept hg10 hxl
   have r110 := (r19.below al).kept hg10 hxl
   have hz10 := (hz9.under al).grown hg10 hg01
   have hbw10 := (hbw9.trans (al.mono hbw9.size)).grown hg10 (by have := hbw9.size; have := al.size; omega) (fun q hq => by cases hq; exact hg1w)
   obtain ⟨s5, hs5⟩ : ∃ s : Value, s = .slice (some ⟨w9.heap.size, 0, none⟩) 1 1 := ⟨_, rfl⟩
   rw [← hs5] at ub5 hx10 ⊢
   have hx10 : Box w10 g1 29 [.slice a5 L0 c5, v1, s2, s3, s4, s5, .slice none 0 0] := hx10
   clear hs5 al hxl hln hg10 hs10 hx9 r09 r19 hz9 hbw9
   have al := blo w10 (.cells #[.int .u8 43] 5)
   have ub6 : UB (w10.alloc (.cells #[.int .u8 43] 5)) (.slice (some ⟨w10.heap.size, 0, none⟩) 1 1) [43] := UB.new w10 [43] 1 rfl (by decide)
   have hxl := hx10.alloc (.cells #[.int .u8 43] 5)
   have hln : 6 < ([.slice a5 L0 c5, v1, s2, s3, s4, s5, .slice none 0 0] : List Value).length := by simp
   go_wp2_with (with_reducible refine store_cell 27 _ _ 29 g1 6 [.slice a5 L0 c5, v1, s2, s3, s4, s5, .slice none 0 0] (.slice (some ⟨w10.heap.size, 0, none⟩) 1 1) size_row hxl rfl rfl rfl rfl hln ?_; intro w11 hx11 hg11 hs11; refine hold ?_)
   refine hide ?_
   have ub2 := (ub2.below al).kept hg11 hxl
   have ub3 := (ub3.below al).kept hg11 hxl
   have ub4 := (ub4.below al).kept hg11 hxl
   have ub5 := (ub5.below al).kept hg11 hxl
   have ub6 := ub6.kept hg11 hxl
   have r011 := (r010.below al).kept hg11 hxl
   have r111 := (r110.below al).kept hg11 hxl
   have hz11 := (hz10.under al).grown hg11 hg01
   have hbw11 := (hbw10.trans (al.mono hbw10.size)).grown hg11 (by have := hbw10.size; have := al.size; omega) (fun q hq => by cases hq; exact hg1w)
   obtain ⟨s6, hs6⟩ : ∃ s : Value, s = .slice (some ⟨w10.heap.size, 0, none⟩) 1 1 := ⟨_, rfl⟩
   rw [← hs6] at ub6 hx11 ⊢
   have hx11 : Box w11 g1 29 [.slice a5 L0 c5, v1, s2, s3, s4, s5, s6] := hx11
   clear hs6 al hxl hln hg11 hs11 hx10 r010 r110 hz10 hbw10
   obtain ⟨x1, y1, p1, rfl, hR1, hp1⟩ := r111
   obtain ⟨x0, y0, p0, hv0, hR0, hp0⟩ := r011
   injection hv0 with e1 e2 e3
   subst e1; subst e2; subst e3
   obtain ⟨x2, n2, y2, rfl, ho2⟩ := ub2
   obtain ⟨x3, n3, y3, rfl, ho3⟩ := ub3
   obtain ⟨x4, n4, y4, rfl, ho4⟩ := ub4
   obtain ⟨x5, n5, y5, rfl, ho5⟩ := ub5
   obtain ⟨x6, n6, y6, rfl, ho6⟩ := ub6
   have q0 : w11.cell? ⟨g1, 0, none⟩ = some (.slice a5 p0.length c5) := hx11.at_ rfl
   have q1 : w11.cell? ⟨g1, 1, none⟩ = some (.slice x1 p1.length y1) := hx11.at_ rfl
   have q2 : w11.cell? ⟨g1, 2, none⟩ = some (.slice x2 n2 y2) := hx11.at_ rfl
   have q3 : w11.cell? ⟨g1, 3, none⟩ = some (.slice x3 n3 y3) := hx11.at_ rfl
   have q4 : w11.cell? ⟨g1, 4, none⟩ = some (.slice x4 n4 y4) := hx11.at_ rfl
   have q5 : w11.cell? ⟨g1, 5, none⟩ = some (.slice x5 n5 y5) := hx11.at_ rfl
   have q6 : w11.cell? ⟨g1, 6, none⟩ = some (.slice x6 n6 y6) := hx11.at_ rfl
   have hone : ∀ u ∈ ([.slice a5 p0.length c5, .slice x1 p1.length y1, .slice x2 n2 y2, .slice x3 n3 y3, .slice x4 n4 y4, .slice x5 n5 y5, .slice x6 n6 y6] : List Value), u.oneCell' = true := by simp [Value.oneCell']
   go_wp2_with (with_reducible refine store_all 29 _ _ 29 w.heap.size [.slice none 0 0, .slice none 0 0, .slice none 0 0, .slice none 0 0, .slice none 0 0, .slice none 0 0, .slice none 0 0] [.slice a5 p0.length c5, .slice x1 p1.length y1, .slice x2 n2 y2, .slice x3 n3 y3, .slice x4 n4 y4, .slice x5 n5 y5, .slice x6 n6 y6] _ (size7 _ _ _ _ _ _ _) hz11 rfl rfl rfl (Eq.refl 7) hone ?_; intro w12 hx12 hg12 hs12)
   have hbw12 := hbw11.grown hg12 hbw11.size (fun q hq => by cases hq; exact Nat.le_refl _)
   have hR0' := (hR0.kept hg12 hz11 (by decide) (by decide)).rul
   have hR1' := (hR1.kept hg12 hz11 (by decide) (by decide)).rul
   have ho2b := (UB.kept ⟨x2, n2, y2, rfl, ho2⟩ hg12 hz11)
   obtain ⟨_, _, _, hh2, ho2c⟩ := ho2b
   injection hh2 with e1 e2 e3
   subst e1; subst e2; subst e3
   have ho3b := (UB.kept ⟨x3, n3, y3, rfl, ho3⟩ hg12 hz11)
   obtain ⟨_, _, _, hh3, ho3c⟩ := ho3b
   injection hh3 with e1 e2 e3
   subst e1; subst e2; subst e3
   have ho4b := (UB.kept ⟨x4, n4, y4, rfl, ho4⟩ hg12 hz11)
   obtain ⟨_, _, _, hh4, ho4c⟩ := ho4b
   injection hh4 with e1 e2 e3
   subst e1; subst e2; subst e3
   have ho5b := (UB.kept ⟨x5, n5, y5, rfl, ho5⟩ hg12 hz11)
   obtain ⟨_, _, _, hh5, ho5c⟩ := ho5b
   injection hh5 with e1 e2 e3
   subst e1; subst e2; subst e3
   have ho6b := (UB.kept ⟨x6, n6, y6, rfl, ho6⟩ hg12 hz11)
   obtain ⟨_, _, _, hh6, ho6c⟩ := ho6b
   injection hh6 with e1 e2 e3
   subst e1; subst e2; subst e3
   refine bodyPost_ret (run_results_cell rfl rfl agg_tables (size7 _ _ _ _ _ _ _) hx12) rfl ⟨⟨(a5, p0.length, c5), (x1, p1.length, y1), p0, p1, (x2, n2, y2), (x3, n3, y3), (x4, n4, y4), (x5, n5, y5), (x6, n6, y6)⟩, rfl, ⟨hR0', hR1', hp0, hp1, ho2c.sl, ho3c.sl, ho4c.sl, ho5c.sl, ho6c.sl⟩, hbw12⟩
end Go.Proofs.Ytlpkicjijlcbfaa
end

section
/- A number out of a list (chapter 08). -/
namespace Go.Proofs.Ytlpkicjijlcbfaa
open Go.RowKit Go.Dx
def atF (l : List Int) (i : Int) (m : Nat) : Nat := if i < 0 ∨ (l.length : Int) ≤ i then 0 else aroundF (l.getD i.toNat 0) m
theorem atF_lt {l : List Int} {i : Int} {m : Nat} (hm : 1 ≤ m) : atF l i m < m := by
 unfold atF; split
 ·omega
 ·exact aroundF_lt hm
set_option maxHeartbeats 400000 in
theorem ref_At (l : List Int) (a : Option Addr) (n c : Nat) (i v : Int) (m : Nat) (w : World) (hs : Sl w 1 a n c (l.map I64)) (hl : ∀ x ∈ l, -9223372036854775808 ≤ x ∧ x ≤ 9223372036854775807) (hv : (m : Int) = v) (hm : 1 ≤ m) (hm2 : m ≤ 1000000000) :
  Calls Try.prog 21 #[.slice a n c, .int .i64 i, .int .i64 v] w fun e w' => e = .returned (.int .i64 (atF l i m : Nat)) ∧ w = w' := by
 obtain rfl := hs.n_eq
 have hcap := Nat.le_trans hs.le hs.cap
 unfold maxLen at hcap
 obtain ⟨r, HR⟩ : ∃ r, Hid (atF l i m = r) := ⟨_, hide rfl⟩
 rw [HR.out]
 by_cases h1 : i < 0
 ·have d1 : decide (i < 0) = true := decide_eq_true h1
  have HE : Hid (r = 0) := by show _ = _; rw [← HR.out]; exact if_pos (.inl h1)
  go_enter Try.func21, Try.ntmps21
  go_wp2
  go_ret
  exact ⟨by rw [HE.out]; first | done | rfl, rfl⟩
 ·have d1 : decide (i < 0) = false := decide_eq_false h1
  by_cases h2 : (l.length : Int) ≤ i
  ·have d2 : decide ((l.length : Int) ≤ i) = true := decide_eq_true h2
   have HE : Hid (r = 0) := by show _ = _; rw [← HR.out]; exact if_pos (.inr h2)
   go_enter Try.func21, Try.ntmps21
   go_wp2
   go_ret
   exact ⟨by rw [HE.out]; first | done | rfl, rfl⟩
  ·have d2 : decide ((l.length : Int) ≤ i) = false := decide_eq_false h2
   have HE0 : Hid (r = aroundF (l.getD i.toNat 0) m) := by
    show _ = _; rw [← HR.out]; exact if_neg (by omega)
   obtain ⟨k, rfl⟩ := Int.eq_ofNat_of_zero_le (show 0 ≤ i by omega)
   have hk : k < l.length := by omega
   obtain ⟨x, hx⟩ : ∃ x, l[k]? = some x := ⟨l[k], by simp [hk]⟩
   obtain ⟨hx1, hx2⟩ := hl x (List.mem_of_getElem? hx)
   have HE : Hid (r = aroundF x m) := by
    show _ = _; rw [HE0.out, Int.toNat_natCast, List.getD_eq_getElem?_getD, hx]; rfl
   have HX := hide hx
   clear hx HE0
   go_enter Try.func21, Try.ntmps21
   go_wp2_with (first
    | (with_reducible refine idx_i 17 _ _ _ _ _ l rfl hs _ _ k rfl rfl x HX.out ?_; intro b o hcell hbo)
    | (go_at_call 23; refine (ref_Around x _ m _ hv hx1 hx2 hm hm2).mono ?_; rintro e w2 ⟨rfl, rfl⟩))
   go_ret
   exact ⟨by rw [HE.out]; first | done | rfl, rfl⟩
theorem At_at {l : List Int} {i v : Int} {m r : Nat} (h : atF l i m = r) (hv : (m : Int) = v) (hm : 1 ≤ m) (hm2 : m ≤ 1000000000) (hl : ∀ x ∈ l, -9223372036854775808 ≤ x ∧ x ≤ 9223372036854775807) {a : Option Addr} {n c : Nat} {w : World} (hs : Sl w 1 a n c (l.map I64)) :
  Calls Try.prog 21 #[.slice a n c, .int .i64 i, .int .i64 v] w fun e w' => e = .returned (.int .i64 (r : Int)) ∧ w = w' := by
 subst h; exact ref_At l a n c i v m w hs hl hv hm hm2
end Go.Proofs.Ytlpkicjijlcbfaa
end
