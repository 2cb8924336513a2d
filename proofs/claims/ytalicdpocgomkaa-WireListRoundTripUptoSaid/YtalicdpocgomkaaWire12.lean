import Derived.Test.YtalicdpocgomkaaWire11
namespace Go.Proofs.Ytalicdpocgomkaa
open Go.RowKit Go.Dx

theorem decInt_bd (l : List UInt8) : 0 ≤ (decInt l).2.1 ∧ (decInt l).2.1 ≤ l.length := by
  by_cases h : (decInt l).2.2 = 0
  · obtain ⟨h1, h2, _, _⟩ := decInt_used h
    exact ⟨by omega, h2⟩
  · rw [decInt_err h]; simp

theorem setCell_grown (w : World) (p : Addr) (v : Value) (n : Nat) : w.grownBy ((w.setCell p v).drewN n) (some p.block) :=
  ⟨rfl, rfl, rfl, by simp [World.setCell, World.drewN], fun k _ hne => Below.heap_setCell w p v k (fun e => hne (by rw [e]))⟩

set_option maxHeartbeats 400000 in
theorem reader_1 (l : List UInt8) (a : Option Addr) (n c A b1 b2 : Nat) (w : World) (hs : Sl w 1 a n c (l.map B8)) (hA : A ≤ n) (hn : n ≤ 1000000000)
    (hc1 : w.cell? ⟨b1, 0, none⟩ = some (.slice a n c)) (hc2 : w.cell? ⟨b2, 0, none⟩ = some (.int .i64 A)) (hf2 : w.frozen? ⟨b2, 0, none⟩ = false) :
    Calls Try.prog 106 #[.pointer (some ⟨b1, 0, none⟩), .pointer (some ⟨b2, 0, none⟩)] w fun e w' =>
      e = .returned (R3 ((decInt (l.drop A)).1, (A : Int) + (decInt (l.drop A)).2.1, (decInt (l.drop A)).2.2)) ∧ w.grownBy w' (some b2) ∧ w'.cell? ⟨b2, 0, none⟩ = some (.int .i64 ((A : Int) + (decInt (l.drop A)).2.1)) ∧ w'.frozen? ⟨b2, 0, none⟩ = false := by
  have hnl := hs.n_eq
  obtain ⟨hb1, hb2⟩ := decInt_bd (l.drop A)
  rw [List.length_drop] at hb2
  have hb3 : (decInt (l.drop A)).2.1 ≤ 1000000000 := by omega
  have HF : Hid (∀ a', Sl w 1 a' (n - A) (c - A) ((l.drop A).map B8) → Calls Try.prog 67 #[.slice a' (n - A) (c - A)] w fun e w'' => e = .returned (R3 (decInt (l.drop A))) ∧ w = w'') := fun a' h => wire_GetInt _ _ _ _ _ h
  generalize decInt (l.drop A) = r at *
  obtain ⟨r1, r2, r3⟩ := r
  simp only at hb1 hb3 ⊢
  clear hb2 hnl
  go_enter Try.func106, Try.ntmps106
  go_wp2_with (first
    | (with_reducible refine cutlo_b 11 _ _ _ _ _ l rfl hs _ _ A rfl rfl hA ?_; intro a3 hs3 hp3)
    | (go_at_call 67; refine (HF.out _ hs3).mono ?_; rintro e w2 ⟨rfl, rfl⟩))
  have hcell : (w.setCell ⟨b2, 0, none⟩ (.int .i64 ((A : Int) + r2))).cell? ⟨b2, 0, none⟩ = some (.int .i64 ((A : Int) + r2)) := World.cell?_setCell_same _ _ _ hc2
  go_quiet (fail)
  go_wp2
  go_ret3
  exact ⟨rfl, setCell_grown _ _ _ _, hcell, (World.frozen?_setCell _ _ _ _).trans hf2⟩

theorem reader_0 (a : Option Addr) (n c : Nat) (A : Int) (w : World) :
    Calls Try.prog 101 #[.slice a n c, .int .i64 A] w fun e w' =>
      e = .returned (.func (.func 106) #[] #[.pointer (some ⟨w.heap.size, 0, none⟩), .pointer (some ⟨w.heap.size + 1, 0, none⟩)]) ∧
      (w.alloc (.cells #[.slice a n c] 23)).alloc (.cells #[.int .i64 A] 3) = w' := by
  have hmf : ∀ (fn : Fn) (first cap : Array Value) (w : World), (Instr.makeFunc fn first cap).run Try.prog w = .ok (.func fn first cap) w := fun _ _ _ _ => rfl
  go_enter Try.func101, Try.ntmps101
  go_wp2
  go_ret
  exact ⟨rfl, rfl⟩

theorem below2 (w : World) (o o' : Obj) : Below w.heap.size w ((w.alloc o).alloc o') := ((Below.refl _ _).alloc (Nat.le_refl _) o).alloc (by simp) o'

set_option maxHeartbeats 400000 in
theorem wire_GetInts (l : List UInt8) (a : Option Addr) (n c : Nat) (w : World) (hs : Sl w 1 a n c (l.map B8)) (hlen : l.length ≤ 1000000000) :
    Calls Try.prog 71 #[.slice a n c] w (Gives3 3 1 (decSeq decInt l).1.length ((decSeq decInt l).1.map I64) (decSeq decInt l).2.1 (decSeq decInt l).2.2 w) := by
  have hn := hs.n_eq
  have HC := hide (wire_count l a n c 1 (by omega) (by omega) w hs)
  by_cases hE : cntErr l 1 = 0
  · obtain ⟨A, N, e1, e2, e3, hA, hAN, hN⟩ := cnt_facts (by omega) hE
    simp at hAN
    rw [e1, e2, hE] at HC
    have HE := hide (fun k E (hk : k < N) (h0 : E ≠ 0) => @decSeq_err _ decInt l A N k hE e1 e2 E hk h0)
    have HO := hide (fun xs B => @decSeq_ok _ decInt l A N hE e1 e2 xs B)
    have hnl : l.length ≤ n := by omega
    have hnl2 : n ≤ l.length := by omega
    obtain ⟨D, HD⟩ : ∃ D, Hid (D = decSeq decInt l) := ⟨_, rfl⟩
    rw [← HD.out]
    clear e1 e2 e3 hE hn
    go_enter Try.func71, Try.ntmps71
    go_wp2_with (first
      | (go_at_call 99; refine HC.out.mono ?_; rintro e w1 ⟨rfl, rfl⟩)
      | (go_at_call 101; refine (reader_0 _ _ _ _ _).mono ?_; rintro e w1 ⟨rfl, rfl⟩))
    go_loopg [6, 9, 26] N (fun g at_ x i w' => ∃ (k B : Nat) (a2 : Option Addr) (c2 : Nat) (xs : List Int), k ≤ N ∧ g = N - k ∧ seqTo decInt l A k = (xs, B, 0) ∧ B ≤ l.length ∧ at_ = .int .i64 B ∧ i = .int .i64 k ∧ x = .slice a2 xs.length c2 ∧ Own w' (w.heap.size + 2) 3 1 a2 xs.length c2 (xs.map I64) ∧ Below w.heap.size w w' ∧
      w'.cell? ⟨w.heap.size, 0, none⟩ = some (.slice a n c) ∧ w'.cell? ⟨w.heap.size + 1, 0, none⟩ = some (.int .i64 B) ∧ w'.frozen? ⟨w.heap.size + 1, 0, none⟩ = false ∧ w.heap.size + 2 ≤ w'.heap.size)
    case atStart =>
      refine ⟨0, A, none, 0, [], by omega, by omega, rfl, by omega, rfl, rfl, rfl, Own.nil _ _ _ _, below2 _ _ _, ?_, ?_, ?_, by simp⟩
      · rw [World.cell?_alloc_past _ _ _ (by simp), World.cell?_alloc_at _ _ _ _ rfl]; rfl
      · rw [World.cell?_alloc_at _ _ _ _ (by simp)]; rfl
      · exact World.frozen?_alloc_at _ _ _ _ (by simp)
    case round =>
      obtain ⟨k, B, a2, c2, xs, hk, hg, hseq, hB, rfl, rfl, rfl, hown, hb, hcb, hca, hfa, hsz⟩ := hrel
      have HG := hide hg
      have hxl : xs.length ≤ k := Nat.le_of_eq (seqTo_len hseq)
      have HS := hide hseq
      clear hg hseq
      by_cases hkN : k < N
      · have HF := hide (reader_1 l a n c B _ _ wr (hs.below hb) (by omega) (by omega) hcb hca hfa)
        have hbd := decInt_bd (l.drop B)
        obtain ⟨r, HR⟩ : ∃ r, Hid (r = decInt (l.drop B)) := ⟨_, rfl⟩
        rw [← HR.out] at HF hbd
        obtain ⟨r1, r2, r3⟩ := r
        obtain ⟨hb1, hb2⟩ := hbd
        rw [List.length_drop] at hb2
        simp only at hb1 hb2 HF
        obtain ⟨U, rfl⟩ := Int.eq_ofNat_of_zero_le (a := r2) (by omega)
        by_cases hr : r3 = 0
        · subst hr
          have HST : Hid (seqTo decInt l A (k + 1) = (xs ++ [r1], B + U, 0)) := by
            show _ = _; rw [seqTo_step HS.out (by rw [← HR.out]), ← HR.out]; rfl
          go_wp2_with fail
          refine HF.out.mono ?_
          rintro e w2 ⟨rfl, hg2, hca2, hfa2⟩
          have hcb2 : w2.cell? ⟨w.heap.size, 0, none⟩ = some (.slice a n c) := hg2.cell hcb (by simp)
          have hsz2 : w.heap.size + 2 ≤ w2.heap.size := Nat.le_trans hsz hg2.size
          have hb2' : Below w.heap.size w w2 := hb.grown hg2 (by omega) (by intro k hk; cases hk; omega)
          have hown2 : Own w2 (w.heap.size + 2) 3 1 a2 xs.length c2 (xs.map I64) := hown.kept hg2 (by rintro p rfl h; have := hown.base.1; injection h with h; omega)
          clear hg2 hown hb hcb hca hfa
          go_wp2_with (at_builtin; refine app_i rfl _ _ rfl w2 (w.heap.size + 2) _ _ _ _ rfl hown2 _ rfl (by omega) hsz2 (Below.refl _ _) ?_; intro a' c' w' ho' hgr' hb')
          go_roundg (N - (k + 1))
          case measure => have := HG.out; omega
          case rel =>
            refine ⟨k + 1, B + U, a', c', xs ++ [r1], by omega, rfl, HST.out, by omega, by go_num, by go_num, by rw [List.length_append]; rfl, ?_, hb2'.trans (hb'.mono (by omega)), ?_, ?_, ?_, Nat.le_trans hsz2 hb'.size⟩
            · rw [List.length_append, List.map_append]; exact ho'
            · rw [hb'.cell (by show _ < _; simp only; omega)]; exact hcb2
            · rw [hb'.cell (by show _ < _; simp only; omega), hca2]; go_num
            · rw [hb'.frozen (by show _ < _; simp only; omega)]; exact hfa2
        · have hbn := neq_int hr
          have hst : seqTo decInt l A (k + 1) = ([], 0, r3) := by rw [seqTo_stop HS.out (by rw [← HR.out]; exact hr), ← HR.out]
          have hD : D = ([], 0, r3) := by rw [HD.out]; exact HE.out k r3 hkN hr hst
          clear hst
          subst hD
          clear hr
          go_wp2_with fail
          refine HF.out.mono ?_
          rintro e w2 ⟨rfl, hg2, hca2, hfa2⟩
          have hb2' : Below w.heap.size w w2 := hb.grown hg2 (by omega) (by intro k hk; cases hk; omega)
          clear hg2 hown hb hcb hca hfa
          go_wp2
          go_ret3
          exact ⟨none, 0, rfl, Own.nil _ _ _ _, hb2'⟩
      · obtain rfl : k = N := by omega
        have hD : D = (xs, (B : Int), 0) := by rw [HD.out]; exact HO.out xs B HS.out
        subst hD
        go_wp2
        go_ret3
        exact ⟨a2, c2, rfl, hown.mono (by omega), hb⟩
  · have hbn := neq_int hE
    obtain ⟨D, HD⟩ : ∃ D, Hid (D = decSeq decInt l) := ⟨_, rfl⟩
    rw [← HD.out]
    have hD : D = ([], 0, cntErr l 1) := by rw [HD.out]; exact decSeq_cnt hE
    clear hE HD hn
    generalize cntErr l 1 = E at *
    subst hD
    go_enter Try.func71, Try.ntmps71
    go_wp2_with (go_at_call 99; refine HC.out.mono ?_; rintro e w1 ⟨rfl, rfl⟩)
    go_ret3
    exact ⟨none, 0, rfl, Own.nil _ _ _ _, Below.refl _ _⟩
end Go.Proofs.Ytalicdpocgomkaa
