/- The contracts of the functions that the law reaches, joined into one text. -/
import Derived.Test.YtmjkhmebpciopaaBaseT30C
set_option linter.unusedVariables false
set_option linter.unusedSimpArgs false

/- the text Store -/
section
/- An index and a store, where the block is known: laws of the walk that do not search the context. No program in sight. -/
set_option linter.unusedVariables false
namespace Go.Dx
open Go.RowKit
section
variable {P : Program} {w : World} {ops : Array Oper} {rest : List Oper} {act : Act} {Q : Exit → Act → World → Prop} {ty : TypeId} {pos : String} {after : Array Edge}
/-- 'xs[i]', the address, the block known -/
theorem index_known (d : Nat) (t : TypeId) (x y : Operand) (e : TypeId) (ht : P.underlying t = some (.slice e)) (hsz : (P.info? e).map (·.size) = some 1)
    (b n c : Nat) (hx : act.eval x = .slice (some ⟨b, 0, none⟩) n c) (k : IntKind) (iv : Int) (i : Nat) (hy : act.eval y = .int k iv) (hiv : iv = (i : Int)) (hi : i < n)
    (hK : wpList P ops Q rest (act.put (some d) (.pointer (some ⟨b, i, none⟩))) w) :
    wpList P ops Q ({ dst := some d, op := .indexAddr t x y, type := ty, pos := pos, after := after, guard := none } :: rest) act w := by
  refine wpList_plain rfl fun K hK' => ?_
  obtain ⟨i0, hi0, hs0⟩ := Option.map_eq_some_iff.1 hsz
  subst hiv
  have hrun : (Instr.indexAt t (.slice (some ⟨b, 0, none⟩) n c) (.int k (i : Int))).run P w = .ok (.pointer (some ⟨b, i, none⟩)) w := by
    simp [Instr.indexAt, asIntOf, run_underlying ht, sizeOf, typeInfo, hi0, hs0, hi, Addr.add_lit]
  unfold Oper.wp
  simp [execOp, hx, hy, hrun, Result.andThen]
  exact hK' _ _ hK
/-- a slice is stored into a cell -/
theorem store_slice (t : TypeId) (x y : Operand) (hsz : (P.info? t).map (·.size) = some 1) (b i : Nat) (hx : act.eval x = .pointer (some ⟨b, i, none⟩)) (pa : Option Addr) (l c : Nat) (hy : act.eval y = .slice pa l c)
    (u : Value) (hc : w.cell? ⟨b, i, none⟩ = some u) (hf : w.frozen? ⟨b, i, none⟩ = false)
    (hK : wpList P ops Q rest act (w.setCell ⟨b, i, none⟩ (.slice pa l c))) :
    wpList P ops Q ({ dst := none, op := .store t x y, type := ty, pos := pos, after := after, guard := none } :: rest) act w := by
  refine wpList_plain rfl fun K hK' => ?_
  obtain ⟨i0, hi0, hs0⟩ := Option.map_eq_some_iff.1 hsz
  have hrun : (Instr.storeAt t (.pointer (some ⟨b, i, none⟩)) (.slice pa l c)).run P w = .ok () (w.setCell ⟨b, i, none⟩ (.slice pa l c)) := by
    simp [Instr.storeAt, Instr.sureAddr, storeVar, sizeOf, typeInfo, hi0, hs0, storeCells, go_sem, hc, hf]
  unfold Oper.wp
  simp [execOp, hx, hy, hrun, Result.andThen]
  exact hK' _ _ hK
end
end Go.Dx
end

/- the text T25 -/
section
/- Chapter 15: reading back. -/
namespace Go.Proofs.Ytmjkhmebpciopaa
open Go.RowKit Go.Dx

section
variable {w : World} {ops : Array Oper} {rest : List Oper} {act : Act} {Q : Exit → Act → World → Prop} {ty : TypeId} {pos : String} {after : Array Edge}
theorem idx_bp (d : Nat) (x y : Operand) (a : Option Addr) (n c : Nat) (hs : List Hd) (hx : act.eval x = .slice a n c) (ht : Sl w 1 a n c (hs.map hv)) (k : IntKind) (iv : Int) (i : Nat) (hy : act.eval y = .int k iv) (hiv : iv = (i : Int))
    (u : Value) (hu : (hs.map hv)[i]? = some u)
    (hK : ∀ b o, w.cell? ⟨b, o, none⟩ = some u → b < w.heap.size → wpList Try.prog ops Q rest (act.put (some d) (.pointer (some ⟨b, o, none⟩))) w) :
    wpList Try.prog ops Q ({ dst := some d, op := .indexAddr 49 x y, type := ty, pos := pos, after := after, guard := none } :: rest) act w :=
  index_sl d 49 x y 29 Try.underlying49 size_page a n c _ hx ht k iv i hy hiv u hu hK
end
theorem quiet_skip {P : Program} {C : World → Prop} {ops : Array Oper} {rest : List Oper} {act : Act} {Q : Act → Prop} {o : Oper} (hw : Region.wanted o (yielded ops act.tmps) = false) (hK : wpQuiet P ops C Q rest (act.put o.dst undef)) : wpQuiet P ops C Q (o :: rest) act := by
  refine wpQuiet_step fun K hK' => ?_
  rw [if_neg (by rw [hw]; simp)]
  exact hK' _ hK
/-- the block qb, or one that is new -/
def FreshOr (qb n : Nat) (a : Option Addr) : Prop := ∀ p, a = some p → (∃ q, (some ⟨qb, 0, none⟩ : Option Addr) = some q ∧ q.block = p.block) ∨ n ≤ p.block
theorem size_row1 : (Try.prog.info? 28).map (·.size) = some 1 := by kernel_rfl
theorem getD_two {P : List (List (List UInt8))} {k : Nat} {y : List (List UInt8)} {e : List UInt8} (h : P[k]? = some y) (h0 : y[0]? = some e) : (P.getD k []).getD 0 [] = e := by
  have h1 : P.getD k [] = y := by rw [List.getD_eq_getElem?_getD, h]; rfl
  rw [h1, List.getD_eq_getElem?_getD, h0]; rfl
theorem pg3_nil (w : World) : Pg3 w none 0 0 [] [] := ⟨Sl.empty _ _, rfl, fun i h q h1 => by cases h1⟩
theorem hv_at {hs : List Hd} {i : Nat} {x : Hd} {v : Value} (h : hs[i]? = some x) (h2 : hv x = v) : (hs.map hv)[i]? = some v := by rw [List.getElem?_map, h]; exact congrArg some h2
theorem take_map_cut {b : List (List UInt8)} {j : Nat} {r : List UInt8} (h : b[j]? = some r) : (b.take (j + 1)).map cutL = (b.take j).map cutL ++ [cutL r] := by rw [take_snoc h, List.map_append]; rfl
theorem okB_no {b : List (List UInt8)} (h : validT (b.map cutL) = false) : ¬ okB b := fun h2 => by have h3 := h2.1; rw [h] at h3; cases h3
theorem valid_row {P : List (List (List UInt8))} (h : VX P) {row : List (List UInt8)} (hr : row ∈ P) : 1 ≤ row.length ∧ row.length ≤ 12 := by
  rw [h.row row hr]; exact ⟨h.c1, h.c2⟩

set_option maxRecDepth 100000 in
set_option maxHeartbeats 2000000 in
theorem tab_Read (p : List (List UInt8)) (hs : List Hd) (a : Option Addr) (n c : Nat) (w : World) (hp : Pg w a n c hs p) (hpl : p.length ≤ 100000) (hpr : ∀ r ∈ p, r.length ≤ 1000000) :
    Calls Try.prog 17 #[.slice a n c] w fun e w' => ∃ Z x a' c' hs', e = .returned (.tuple #[.slice a' Z.length c', .int .i64 x]) ∧ readZ p Z x ∧ Pg3 w' a' Z.length c' hs' Z ∧ Below w.heap.size w w' := by
  have hbl := tab_blocks p hs a n c w hp (by omega)
  obtain ⟨BS, HBS⟩ : ∃ BS, Hid (blk [] p = BS) := ⟨_, hide rfl⟩
  have HBM : Hid (∀ b ∈ BS, b.length ≤ 100000 ∧ ∀ r ∈ b, r.length ≤ 1000000) := hide (fun b hb => by
    rw [← HBS.out] at hb
    refine ⟨by have := blk_le p [] b hb; simp at this; omega, fun r hr => ?_⟩
    rcases blk_mem p [] b r hb hr with h | h
    · cases h
    · exact hpr r h)
  have hBL : BS.length ≤ 100001 := by rw [← HBS.out]; have := blk_len p []; omega
  have hB1 : 1 ≤ BS.length := by obtain ⟨b, bs, e⟩ := blk_some p []; rw [← HBS.out, e]; simp
  rw [HBS.out] at hbl
  clear hp hpr
  go_enter Try.func17, Try.ntmps17
  go_wp2_with fail
  refine hbl.mono ?_
  rintro e w1 ⟨aB, cB, kB, rfl, hB3, hb1⟩
  clear hbl
  go_wp2_with fail
  go_loopg [4, 20] BS.length (fun g o i' w' => ∃ (i : Nat) (X : List (List (List UInt8))) (aO : Option Addr) (cO : Nat) (hsO : List Hd), i ≤ BS.length ∧ g = BS.length - i ∧ i' = .int .i64 (i : Int) ∧ o = .slice aO X.length cO ∧ V3 w w' w1.heap.size 28 aO cO hsO X ∧ Hid ((i = 0 → X = []) ∧ (0 < i → RI p X (BS.drop i))) ∧ Hid (∀ row ∈ X, 1 ≤ row.length ∧ row.length ≤ 12 * i) ∧ X.length ≤ 12 ∧ Below w1.heap.size w1 w')
  case atStart => exact ⟨0, [], none, 0, [], by omega, by omega, rfl, rfl, V3.nil _ _ _ _, hide ⟨fun _ => rfl, fun h => by omega⟩, hide (by simp), by simp, Below.refl _ _⟩
  case round =>
    obtain ⟨i, X, aO, cO, hsO, hi, hg, rfl, rfl, hO, HRI, HROW, hXl, hbk⟩ := hrel
    have HG := hide hg
    clear hg
    have hbw := hb1.trans (hbk.mono hb1.size)
    by_cases hil : i < BS.length
    · obtain ⟨b, hb⟩ : ∃ b, BS[i]? = some b := ⟨BS[i], by simp [hil]⟩
      obtain ⟨x1, k1, hx1, hv1, hvp1⟩ := hB3.get hb
      obtain ⟨hbl2, hblr⟩ := HBM.out b (List.mem_of_getElem? hb)
      have HBR := hide hblr
      have HD := hide (drop_cons hb)
      have HB0 : Hid (i = 0 → blk [] p = b :: BS.drop 1) := hide (fun h => by subst h; rw [HBS.out, ← HD.out, List.drop_zero])
      have HU := hide (hv_at hx1 hv1)
      have hBt := hB3.top.sl.below hbk
      have hvpk := hvp1.below hbk
      obtain ⟨P, HP⟩ : ∃ P, Hid (b.map cutL = P) := ⟨_, hide rfl⟩
      have HBAD : Hid (¬ (okB b ∧ (i = 0 → BS.drop 1 ≠ [] → 2 ≤ nCols P) ∧ (0 < i → P.length = X.length ∧ 2 ≤ nCols P ∧ heads X P)) → ¬ ∃ Z, Reads p Z) := hide (fun h => by
        rw [← HP.out] at h
        rcases Nat.eq_zero_or_pos i with h0 | h0
        · exact reads_bad (HB0.out h0) (fun h2 => h ⟨h2.1, fun _ => h2.2, fun h3 => by omega⟩)
        · have hr := HRI.out.2 h0
          rw [HD.out] at hr
          exact hr.bad (fun h2 => h ⟨h2.1, fun h3 => by omega, fun _ => h2.2⟩))
      clear hb hx1 hv1 hblr
      obtain ⟨wy, rfl⟩ : ∃ wy : World, wy = wr := ⟨_, rfl⟩
      have hsy := hbk.size
      go_wp2_with (with_reducible refine idx_bp 23 _ _ _ _ _ kB rfl hBt _ _ i rfl rfl _ HU.out ?_; intro b0 o0 hcell hbo)
      clear hcell hbo
      go_loopg [8, 27] b.length (fun g q j' w' => ∃ (j : Nat) (a3 : Option Addr) (c3 : Nat) (hs3 : List Hd), j ≤ b.length ∧ g = b.length - j ∧ j' = .int .i64 (j : Int) ∧ q = .slice a3 j c3 ∧ V3 w w' wy.heap.size 28 a3 c3 hs3 ((b.take j).map cutL) ∧ Below wy.heap.size wy w')
      case atStart => exact ⟨0, none, 0, [], by omega, by omega, rfl, rfl, V3.nil _ _ _ _, Below.refl _ _⟩
      case round =>
        obtain ⟨j, a3, c3, hs3, hj, hg1, rfl, rfl, hV, hbj⟩ := hrel
        have HG1 := hide hg1
        clear hg1
        have hbwj := hbw.trans (hbj.mono hbw.size)
        have hvpj := hvpk.below hbj
        have hLT : Hid (((b.take j).map cutL).length = j) := hide (by rw [List.length_map, List.length_take]; omega)
        by_cases hjl : j < b.length
        · obtain ⟨r, hr⟩ : ∃ r, b[j]? = some r := ⟨b[j], by simp [hjl]⟩
          have hrl := HBR.out r (List.mem_of_getElem? hr)
          obtain ⟨y, hy⟩ : ∃ y, k1[j]? = some y := ⟨k1[j]'(by rw [hvp1.len]; exact hjl), by simp⟩
          have hent := hvp1.ent j y r hy hr
          have hyn := hent.n_eq
          have HUY : Hid ((k1.map hv)[j]? = some (.slice y.1 r.length y.2.2)) := hide (hv_at hy (by unfold hv; rw [hyn]))
          rw [hyn] at hent
          have hcut := tab_cut r y.1 r.length y.2.2 w wr hent hbwj hrl
          have HTM := hide (take_map_cut hr)
          clear hr hy hyn
          have hvt := hvpj.top.sl
          have hlow : ∀ w2, Below wr.heap.size wr w2 → ∀ (i : Nat) (x : Hd) (q : Addr), hs3[i]? = some x → x.1 = some q → q.block < wr.heap.size := fun w2 _ i x q hx hq => (hV.lt hx hq).2
          go_wp2_with (with_reducible refine idx_p 29 _ _ _ _ _ k1 rfl hvt _ _ j rfl rfl _ HUY.out ?_; intro b2 o2 hcell hbo)
          clear hcell hbo
          refine hcut.mono ?_
          rintro e w2 ⟨a4, c4, ks4, rfl, hv4, hb4⟩
          go_wp2_with (at_builtin; refine app_v3 rfl _ _ rfl wy w wy.heap.size wr.heap.size _ _ _ hs3 ks4 _ hLT.out rfl (hV.below hb4) (a4, (cutL r).length, c4) (cutL r) hv4 rfl hbj.size (hlow w2 hb4) rfl (by omega) (Nat.le_trans hbj.size hb4.size) (hbj.trans (hb4.mono hbj.size)) ?_; intro a5 c5 w5 ho5 hb5)
          go_roundg (b.length - (j + 1))
          case measure => have := HG1.out; omega
          case rel => exact ⟨j + 1, a5, c5, _, by omega, rfl, by go_num, rfl, by rw [HTM.out]; exact ho5, hb5⟩
        · obtain rfl : b.length = j := by omega
          rw [List.take_length, HP.out] at hV
          have HPL : Hid (b.length = P.length) := hide (by rw [← HP.out, List.length_map])
          rw [HPL.out]
          have hpgb := hvpj.pg hbwj
          rw [HPL.out] at hpgb
          have hwB := hbwj
          have hbj1 := hbk.trans (hbj.mono hsy)
          have hOj := hO.below hbj
          have HLOW : Hid (∀ (j : Nat) (x : Hd) (q : Addr), hsO[j]? = some x → x.1 = some q → q.block < wy.heap.size) := hide (fun j x q hx hq => (hO.lt hx hq).2)
          have HOB : Hid (∀ t, aO = some t → t.block < wy.heap.size) := hide (fun t ht => by have h := hO.top; rw [ht] at h; exact h.base.2)
          clear hvpj hLT hO hvpk hBt hvp1
          have HPC : Hid (∀ Z : Unit, True) := hide (fun _ => trivial)
          cases hval : validT P
          · have HNO : Hid (¬ ∃ Z, Reads p Z) := hide (HBAD.out (fun h => okB_no (by rw [HP.out]; exact hval) h.1))
            have hpg3 := hV.pg3 hbwj
            have hvl : ∀ w', Below wr.heap.size wr w' → Calls Try.prog 26 #[.slice a3 P.length c3] w' fun e w2 => e = .returned (.bool false) ∧ Below w'.heap.size w' w2 := fun w' h => by
              have := tab_valid P hs3 a3 P.length c3 w' (hpg3.below h)
              rw [hval] at this; exact this
            clear hval
            go_wp2_with fail
            refine wp_region_below (by kernel_rfl) (by kernel_rfl) ?_
            go_big_quiet_step (fail)
            go_big_quiet_step ((go_at_call 26; refine onTop_call (hvl _ (OnTop.h _))))
            refine quiet_at (.bool true) rfl (fun w => by simp [go_sem]) ?_
            simp only [Act.put, List.setIfInBounds_toArray, List.set_cons_succ, List.set_cons_zero]
            repeat (go_big_quiet_step (fail))
            refine quiet_at (.bool true) rfl (fun w => by simp [go_sem]) ?_
            simp only [Act.put, List.setIfInBounds_toArray, List.set_cons_succ, List.set_cons_zero]
            refine wpQuiet_nil ?_
            rintro w5 ⟨q, rfl⟩
            go_wp2_with fail
            go_ret2
            exact ⟨[], 2, none, 0, [], rfl, .inr ⟨rfl, rfl, HNO.out⟩, pg3_nil _, hbwj.trans (q.h.mono hbwj.size)⟩
          · have HVX := VX.of hval
            have hpg3 := hV.pg3 hbwj
            have hvl : ∀ w', Below wr.heap.size wr w' → Calls Try.prog 26 #[.slice a3 P.length c3] w' fun e w2 => e = .returned (.bool true) ∧ Below w'.heap.size w' w2 := fun w' h => by
              have := tab_valid P hs3 a3 P.length c3 w' (hpg3.below h)
              rw [hval] at this; exact this
            have hwd := fun w' h => tab_widths P hs3 a3 P.length c3 w' (hpg3.below h) HVX.row HVX.r1 HVX.c2
            have hln := fun w' (aw : Option Addr) (h : Below wr.heap.size wr w') hw => tab_lines P hs3 a3 P.length c3 aw (nCols P) (nCols P) 1 (nCols P) w' (hpg3.below h) HVX.row HVX.r2 HVX.c1 HVX.c2 HVX.le hw HVX.c1 (Nat.le_refl _)
            obtain ⟨D, HDD⟩ : ∃ D, Hid (decide (linesL (colW P) P 1 (nCols P - 1) = b) = D) := ⟨_, hide rfl⟩
            have heq : ∀ w' (a4 : Option Addr) (c4 : Nat) (hs4 : List Hd), Below wr.heap.size wr w' → OPage w' wr.heap.size a4 c4 hs4 (linesL (colW P) P 1 (nCols P - 1)) → Calls Try.prog 39 #[.slice a4 P.length c4, .slice x1.1 P.length x1.2.2, fnv 40] w' fun e w2 => e = .returned (.bool D) ∧ Below w'.heap.size w' w2 := fun w' a4 c4 hs4 h ho => by
              have h1 := eqf_pages (linesL (colW P) P 1 (nCols P - 1)) b hs4 k1 a4 x1.1 P.length P.length c4 x1.2.2 w' (by have := ho.pg; rw [linesL_len] at this; exact this) (hpgb.below h)
              rw [HDD.out] at h1; exact h1
            unfold fnv at heq
            obtain ⟨p0, hp0⟩ : ∃ p0, P[0]? = some p0 := ⟨P[0]'(by have := HVX.r1; omega), by simp⟩
            obtain ⟨z0, kz0, hz0, hvz0, hvpz0⟩ := hV.get hp0
            have hp0l : p0.length = nCols P := HVX.row p0 (List.mem_of_getElem? hp0)
            obtain ⟨tp0, rfl⟩ : ∃ t, a3 = some t := by
              cases a3 with
              | some t' => exact ⟨t', rfl⟩
              | none => have h1 := hV.top.sl.nil rfl; have h2 := hV.top.sl.le; have := HVX.r1; omega
            have htz := hV.top.zero
            rw [htz] at hV hpg3 hvl hwd hln ⊢
            generalize tp0.block = tp at *
            have hc0 : ∀ w', Below wr.heap.size wr w' → w'.cell? ⟨tp, 0, none⟩ = some (.slice z0.1 (nCols P) z0.2.2) := fun w' h => by
              rw [← hp0l]
              exact (hV.below h).top.at_ (hv_at hz0 hvz0)
            have hn1 := HVX.c1
            have hn2 := HVX.c2
            have hr1 := HVX.r1
            have hr2 := HVX.r2
            have HROWS : Hid (∀ row ∈ P, 1 ≤ row.length ∧ row.length ≤ 12) := hide (fun row hr => valid_row HVX hr)
            have HOK : Hid (D = true → okB b) := hide (fun h => by
              refine ⟨by rw [HP.out]; exact hval, ?_⟩
              rw [HP.out]
              rw [h] at HDD
              exact of_decide_eq_true HDD.out)
            have HNOT : Hid (D = false → ¬ okB b) := hide (fun h h2 => by
              rw [h] at HDD
              have h3 := h2.2
              rw [HP.out] at h3
              exact of_decide_eq_false HDD.out h3)
            have HLEN : Hid (linesL (colW P) P 1 (nCols P - 1) = linesL (colW P) P 1 (nCols P - 1)) := hide rfl
            clear hz0 hvz0 hvpz0 htz hp0 hp0l hval HVX HDD hpgb
            generalize linesL (colW P) P 1 (nCols P - 1) = PL at *
            generalize widthsL P = ws at *
            obtain ⟨r0a, r0n, r0c⟩ := z0
            obtain ⟨N, HN⟩ : ∃ N, Hid (nCols P = N) := ⟨_, hide rfl⟩
            rw [HN.out] at hwd hln hc0 hn1 hn2
            clear HLEN HPC
            generalize wr = wq at *
            go_wp2_with fail
            refine wp_region_free 15 [⟨0, 37, [37], fun vs _ => vs = [.slice (some ⟨tp, 0, none⟩) P.length c3]⟩, ⟨1, 38, [38], fun vs _ => vs = [.bool true]⟩, ⟨2, 39, [39], fun vs _ => vs = [.bool false]⟩, ⟨3, 40, [40], fun vs _ => vs = [.bool false]⟩, ⟨4, 41, [41], fun vs _ => vs = [.slice (some ⟨tp, 0, none⟩) P.length c3]⟩, ⟨5, 42, [42], fun vs _ => vs = [.slice (some ⟨tp, 0, none⟩) P.length c3]⟩, ⟨6, 43, [43], fun vs w' => ∃ a', vs = [.slice a' N N] ∧ Sl w' 1 a' N N ((ints ws).map I64)⟩, ⟨7, 44, [44], fun vs _ => vs = [.slice (some ⟨tp, 0, none⟩) P.length c3]⟩, ⟨8, 45, [45], fun vs _ => vs = [.pointer (some ⟨tp, 0, none⟩)]⟩, ⟨9, 46, [46], fun vs _ => vs = [.slice r0a N r0c]⟩, ⟨10, 47, [47], fun vs _ => vs = [.int .i64 (N : Int)]⟩, ⟨11, 48, [48], fun vs w' => ∃ a' c' hs', vs = [.slice a' P.length c'] ∧ OPage w' wq.heap.size a' c' hs' PL⟩, ⟨12, 49, [49], fun vs _ => vs = [.slice x1.1 P.length x1.2.2]⟩, ⟨13, 50, [50], fun vs _ => vs = [.bool D]⟩, ⟨14, 51, [51], fun vs _ => vs = [.bool (!D)]⟩] (by kernel_rfl) (by kernel_rfl) ?_ ?_ ?_
            · simp only [All]
              refine ⟨fun _ _ _ _ h => h, fun _ _ _ _ h => h, fun _ _ _ _ h => h, fun _ _ _ _ h => h, fun _ _ _ _ h => h, fun _ _ _ _ h => h, ?_, fun _ _ _ _ h => h, fun _ _ _ _ h => h, fun _ _ _ _ h => h, fun _ _ _ _ h => h, ?_, fun _ _ _ _ h => h, fun _ _ _ _ h => h, fun _ _ _ _ h => h, trivial⟩
              · rintro vs w w' hb ⟨a', h1, h2⟩
                exact ⟨a', h1, h2.below hb⟩
              · rintro vs w w' hb ⟨a', c', hs', h1, h2⟩
                exact ⟨a', c', hs', h1, h2.below hb⟩
            · simp only [All]
              refine ⟨?_, ?_, ?_, ?_, ?_, ?_, ?_, ?_, ?_, ?_, ?_, ?_, ?_, ?_, ?_, trivial⟩
              · intro o ho a' w' hb hfr hdep
                obtain rfl := Option.some.inj ho
                have g8 : a'.tmps[8]?.getD undef = .slice (some ⟨tp, 0, none⟩) P.length c3 := by have h := hfr 8 (by kernel_rfl); simpa using h
                clear ho hfr hdep
                go_wp2_with fail
                exact ⟨rfl, _, rfl, Below.refl _ _, rfl⟩
              · intro o ho a' w' hb hfr hdep
                obtain rfl := Option.some.inj ho
                have g37 : a'.tmps[37]?.getD undef = .slice (some ⟨tp, 0, none⟩) P.length c3 := by have h := hdep 0 _ rfl (by kernel_rfl); simpa using h
                clear ho hfr hdep
                go_wp2_with fail
                refine (hvl _ hb).mono ?_
                rintro e w2 ⟨rfl, h2⟩
                go_wp2_with fail
                exact ⟨rfl, _, rfl, h2, rfl⟩
              · intro o ho a' w' hb hfr hdep
                obtain rfl := Option.some.inj ho
                have g38 : a'.tmps[38]?.getD undef = .bool true := by have h := hdep 1 _ rfl (by kernel_rfl); simpa using h
                clear ho hfr hdep
                go_wp2_with fail
                exact ⟨rfl, _, rfl, Below.refl _ _, rfl⟩
              · intro o ho a' w' hb hfr hdep
                obtain rfl := Option.some.inj ho
                have g39 : a'.tmps[39]?.getD undef = .bool false := by have h := hdep 2 _ rfl (by kernel_rfl); simpa using h
                clear ho hfr hdep
                go_wp2_with fail
                exact ⟨rfl, _, rfl, Below.refl _ _, rfl⟩
              · intro o ho a' w' hb hfr hdep
                obtain rfl := Option.some.inj ho
                have g8 : a'.tmps[8]?.getD undef = .slice (some ⟨tp, 0, none⟩) P.length c3 := by have h := hfr 8 (by kernel_rfl); simpa using h
                have g40 : a'.tmps[40]?.getD undef = .bool false := by have h := hdep 3 _ rfl (by kernel_rfl); simpa using h
                have q40 := opt_bool g40
                clear ho hfr hdep
                go_wp2_with fail
                exact ⟨rfl, _, rfl, Below.refl _ _, rfl⟩
              · intro o ho a' w' hb hfr hdep
                obtain rfl := Option.some.inj ho
                have g8 : a'.tmps[8]?.getD undef = .slice (some ⟨tp, 0, none⟩) P.length c3 := by have h := hfr 8 (by kernel_rfl); simpa using h
                have g40 : a'.tmps[40]?.getD undef = .bool false := by have h := hdep 3 _ rfl (by kernel_rfl); simpa using h
                have q40 := opt_bool g40
                clear ho hfr hdep
                go_wp2_with fail
                exact ⟨rfl, _, rfl, Below.refl _ _, rfl⟩
              · intro o ho a' w' hb hfr hdep
                obtain rfl := Option.some.inj ho
                have g42 : a'.tmps[42]?.getD undef = .slice (some ⟨tp, 0, none⟩) P.length c3 := by have h := hdep 5 _ rfl (by kernel_rfl); simpa using h
                have g40 : a'.tmps[40]?.getD undef = .bool false := by have h := hdep 3 _ rfl (by kernel_rfl); simpa using h
                have q40 := opt_bool g40
                clear ho hfr hdep
                go_wp2_with fail
                refine (hwd _ hb).mono ?_
                rintro e w2 ⟨a', rfl, h2, h3⟩
                go_wp2_with fail
                exact ⟨rfl, _, rfl, h3, a', rfl, h2⟩
              · intro o ho a' w' hb hfr hdep
                obtain rfl := Option.some.inj ho
                have g8 : a'.tmps[8]?.getD undef = .slice (some ⟨tp, 0, none⟩) P.length c3 := by have h := hfr 8 (by kernel_rfl); simpa using h
                have g40 : a'.tmps[40]?.getD undef = .bool false := by have h := hdep 3 _ rfl (by kernel_rfl); simpa using h
                have q40 := opt_bool g40
                clear ho hfr hdep
                go_wp2_with fail
                exact ⟨rfl, _, rfl, Below.refl _ _, rfl⟩
              · intro o ho a' w' hb hfr hdep
                obtain rfl := Option.some.inj ho
                have g44 : a'.tmps[44]?.getD undef = .slice (some ⟨tp, 0, none⟩) P.length c3 := by have h := hdep 7 _ rfl (by kernel_rfl); simpa using h
                have g40 : a'.tmps[40]?.getD undef = .bool false := by have h := hdep 3 _ rfl (by kernel_rfl); simpa using h
                have q40 := opt_bool g40
                clear ho hfr hdep
                go_wp2_with fail
                exact ⟨rfl, _, rfl, Below.refl _ _, rfl⟩
              · intro o ho a' w' hb hfr hdep
                obtain rfl := Option.some.inj ho
                have g45 : a'.tmps[45]?.getD undef = .pointer (some ⟨tp, 0, none⟩) := by have h := hdep 8 _ rfl (by kernel_rfl); simpa using h
                have g40 : a'.tmps[40]?.getD undef = .bool false := by have h := hdep 3 _ rfl (by kernel_rfl); simpa using h
                have q40 := opt_bool g40
                clear ho hfr hdep
                have hcl := hc0 _ hb
                go_wp2_with fail
                exact ⟨rfl, _, rfl, Below.refl _ _, rfl⟩
              · intro o ho a' w' hb hfr hdep
                obtain rfl := Option.some.inj ho
                have g46 : a'.tmps[46]?.getD undef = .slice r0a N r0c := by have h := hdep 9 _ rfl (by kernel_rfl); simpa using h
                have g40 : a'.tmps[40]?.getD undef = .bool false := by have h := hdep 3 _ rfl (by kernel_rfl); simpa using h
                have q40 := opt_bool g40
                clear ho hfr hdep
                go_wp2_with fail
                exact ⟨rfl, _, rfl, Below.refl _ _, rfl⟩
              · intro o ho a' w' hb hfr hdep
                obtain rfl := Option.some.inj ho
                have g41 : a'.tmps[41]?.getD undef = .slice (some ⟨tp, 0, none⟩) P.length c3 := by have h := hdep 4 _ rfl (by kernel_rfl); simpa using h
                obtain ⟨aw, g43, hsw⟩ := hdep 6 _ rfl (by kernel_rfl)
                simp at g43
                have g47 : a'.tmps[47]?.getD undef = .int .i64 (N : Int) := by have h := hdep 10 _ rfl (by kernel_rfl); simpa using h
                have g40 : a'.tmps[40]?.getD undef = .bool false := by have h := hdep 3 _ rfl (by kernel_rfl); simpa using h
                have q40 := opt_bool g40
                clear ho hfr hdep
                go_wp2_with fail
                refine (hln _ aw hb hsw).mono ?_
                rintro e w2 ⟨a4, c4, hs4, rfl, h2, h3⟩
                go_wp2_with fail
                exact ⟨rfl, _, rfl, h3, a4, c4, hs4, rfl, h2.mono hb.size⟩
              · intro o ho a' w' hb hfr hdep
                obtain rfl := Option.some.inj ho
                have g7 : a'.tmps[7]?.getD undef = .slice x1.1 P.length x1.2.2 := by have h := hfr 7 (by kernel_rfl); simpa using h
                have g40 : a'.tmps[40]?.getD undef = .bool false := by have h := hdep 3 _ rfl (by kernel_rfl); simpa using h
                have q40 := opt_bool g40
                clear ho hfr hdep
                go_wp2_with fail
                exact ⟨rfl, _, rfl, Below.refl _ _, rfl⟩
              · intro o ho a' w' hb hfr hdep
                obtain rfl := Option.some.inj ho
                obtain ⟨a4, c4, hs4, g48, hop4⟩ := hdep 11 _ rfl (by kernel_rfl)
                simp at g48
                have g49 : a'.tmps[49]?.getD undef = .slice x1.1 P.length x1.2.2 := by have h := hdep 12 _ rfl (by kernel_rfl); simpa using h
                have g40 : a'.tmps[40]?.getD undef = .bool false := by have h := hdep 3 _ rfl (by kernel_rfl); simpa using h
                have q40 := opt_bool g40
                clear ho hfr hdep
                go_wp2_with fail
                refine (heq _ a4 c4 hs4 hb hop4).mono ?_
                rintro e w2 ⟨rfl, h2⟩
                go_wp2_with fail
                exact ⟨rfl, _, rfl, h2, rfl⟩
              · intro o ho a' w' hb hfr hdep
                obtain rfl := Option.some.inj ho
                have g50 : a'.tmps[50]?.getD undef = .bool D := by have h := hdep 13 _ rfl (by kernel_rfl); simpa using h
                have g40 : a'.tmps[40]?.getD undef = .bool false := by have h := hdep 3 _ rfl (by kernel_rfl); simpa using h
                have q40 := opt_bool g40
                clear ho hfr hdep
                go_wp2_with fail
                exact ⟨rfl, _, rfl, Below.refl _ _, rfl⟩
            · intro g w3 hb3 hp12
              have p40 := hp12 3 _ rfl
              have p51 := hp12 14 _ rfl
              clear hp12
              simp at p40 p51
              simp only [List.drop_succ_cons, List.drop_zero, List.map_cons, List.map_nil, putAll, Act.put, List.setIfInBounds_toArray, List.set_cons_succ, List.set_cons_zero, p40, p51]
              have hbk3 := hbj1.trans (hb3.mono hbj1.size)
              have hV3 := hV.below hb3
              have hO3 := hOj.below hb3
              have hbw3 := hbwj.trans (hb3.mono hbwj.size)
              have hc03 := hc0 _ hb3
              clear hvl hwd hln heq hc0
              cases D
              · have HNO := hide (HBAD.out (fun h => HNOT.out rfl h.1))
                go_wp2_with fail
                go_ret2
                first | exact ⟨[], 2, none, 0, [], rfl, .inr ⟨rfl, rfl, HNO.out⟩, pg3_nil _, hbw3⟩ | exact ⟨[], 2, none, 0, rfl, .inr ⟨rfl, rfl, HNO.out⟩, ⟨[], pg3_nil _⟩, hbw3⟩
              · have HOKB := hide (HOK.out rfl)
                rcases Nat.eq_zero_or_pos i with hi0 | hi0
                · subst hi0
                  by_cases hbad : 1 < BS.length ∧ N < 2
                  · have HNO : Hid (¬ ∃ Z, Reads p Z) := hide (HBAD.out (fun h => by
                      have h2 := h.2.1 rfl (fun e => by have := congrArg List.length e; rw [List.length_drop] at this; simp at this; omega)
                      rw [HN.out] at h2; omega))
                    have d1 : decide (1 < (BS.length : Int)) = true := decide_eq_true (by omega)
                    have d2 : decide ((N : Int) < 2) = true := decide_eq_true (by omega)
                    clear hbad
                    go_wp2_with fail
                    go_ret2
                    first | exact ⟨[], 2, none, 0, [], rfl, .inr ⟨rfl, rfl, HNO.out⟩, pg3_nil _, hbw3⟩ | exact ⟨[], 2, none, 0, rfl, .inr ⟨rfl, rfl, HNO.out⟩, ⟨[], pg3_nil _⟩, hbw3⟩
                  · have HRI2 : Hid (RI p P (BS.drop 1)) := hide (by
                      have h := reads_first (HB0.out rfl) HOKB.out (fun h => by
                        rw [HP.out, HN.out]
                        have : BS.length ≠ 1 := fun e => h (List.drop_eq_nil_of_le (by omega))
                        omega)
                      rw [HP.out] at h; exact h)
                    have HRW : Hid (∀ row ∈ P, 1 ≤ row.length ∧ row.length ≤ 12 * (0 + 1)) := hide (fun row hr => by have := HROWS.out row hr; omega)
                    have hVm := hV3.mono hsy
                    by_cases hB2 : 1 < BS.length
                    · have d1 : decide (1 < (BS.length : Int)) = true := decide_eq_true (by omega)
                      have d2 : decide ((N : Int) < 2) = false := decide_eq_false (by omega)
                      clear hbad
                      go_wp2_with fail
                      go_roundg (BS.length - (0 + 1))
                      case measure => have := HG.out; omega
                      case rel => exact ⟨0 + 1, P, _, c3, hs3, by omega, rfl, by go_num, rfl, hVm, hide ⟨fun h => by omega, fun _ => HRI2.out⟩, HRW, hr2, hbk3⟩
                    · have d1 : decide (1 < (BS.length : Int)) = false := decide_eq_false (by omega)
                      clear hbad
                      go_wp2_with fail
                      go_roundg (BS.length - (0 + 1))
                      case measure => have := HG.out; omega
                      case rel => exact ⟨0 + 1, P, _, c3, hs3, by omega, rfl, by go_num, rfl, hVm, hide ⟨fun h => by omega, fun _ => HRI2.out⟩, HRW, hr2, hbk3⟩
                · have e0 : ((i : Int) == 0) = false := beq_eq_false_iff_ne.2 (by omega)
                  by_cases hlen : P.length = X.length
                  case neg =>
                    have e1 : ((P.length : Int) != (X.length : Int)) = true := neq_nat hlen
                    have HNO : Hid (¬ ∃ Z, Reads p Z) := hide (HBAD.out (fun h => hlen (h.2.2 hi0).1))
                    clear hlen
                    go_wp2_with fail
                    go_ret2
                    first | exact ⟨[], 2, none, 0, [], rfl, .inr ⟨rfl, rfl, HNO.out⟩, pg3_nil _, hbw3⟩ | exact ⟨[], 2, none, 0, rfl, .inr ⟨rfl, rfl, HNO.out⟩, ⟨[], pg3_nil _⟩, hbw3⟩
                  have e1 : ((P.length : Int) != (X.length : Int)) = false := eq_nat hlen
                  have HLN := hide hlen
                  by_cases hN2 : N < 2
                  · have d2 : decide ((N : Int) < 2) = true := decide_eq_true (by omega)
                    have HNO : Hid (¬ ∃ Z, Reads p Z) := hide (HBAD.out (fun h => by have h2 := (h.2.2 hi0).2.1; rw [HN.out] at h2; omega))
                    clear hlen hN2
                    go_wp2_with fail
                    go_ret2
                    first | exact ⟨[], 2, none, 0, [], rfl, .inr ⟨rfl, rfl, HNO.out⟩, pg3_nil _, hbw3⟩ | exact ⟨[], 2, none, 0, rfl, .inr ⟨rfl, rfl, HNO.out⟩, ⟨[], pg3_nil _⟩, hbw3⟩
                  have d2 : decide ((N : Int) < 2) = false := decide_eq_false (by omega)
                  have hX1 : 1 ≤ X.length := by omega
                  obtain ⟨ob0, rfl⟩ : ∃ t, aO = some t := by
                    cases aO with
                    | some t' => exact ⟨t', rfl⟩
                    | none => have h1 := hO3.top.sl.nil rfl; have h2 := hO3.top.sl.le; omega
                  have hobz := hO3.top.zero
                  rw [hobz] at hO3 ⊢
                  have hob := HOB.out ob0 rfl
                  generalize ob0.block = ob at *
                  clear hlen hobz
                  go_wp2_with fail
                  go_loopg [80] P.length (fun g k' w' => ∃ (k : Nat) (hs2 : List Hd), k ≤ P.length ∧ g = P.length - k ∧ k' = .int .i64 (k : Int) ∧ V3 w w' w1.heap.size 28 (some ⟨ob, 0, none⟩) cO hs2 (joinK X P k) ∧ V3 w w' wy.heap.size 28 (some ⟨tp, 0, none⟩) c3 hs3 P ∧ Hid (headsK X P k) ∧ Hid (∀ (j : Nat) (x : Hd) (q : Addr), k ≤ j → hs2[j]? = some x → x.1 = some q → q.block < wy.heap.size) ∧ Below w1.heap.size w1 w')
                  case atStart => exact ⟨0, hsO, by omega, by omega, rfl, by rw [joinK_zero]; exact hO3, hV3, hide (fun k hk => by omega), hide (fun j x q _ => HLOW.out j x q), hbk3⟩
                  case round =>
                    clear hO3 hV3 hbk3 hbw3 hc03 hb3
                    obtain ⟨k, hs2, hk, hg2, rfl, hO4, hV4, HH, HLW, hbk4⟩ := hrel
                    have HG2 := hide hg2
                    clear hg2
                    have hbw4 := hb1.trans (hbk4.mono hb1.size)
                    by_cases hkl : k < P.length
                    · obtain ⟨y, hy⟩ : ∃ y, P[k]? = some y := ⟨P[k], by simp [hkl]⟩
                      have hkX : k < X.length := by rw [← HLN.out]; exact hkl
                      obtain ⟨x, hx⟩ : ∃ x, X[k]? = some x := ⟨X[k], by simp [hkX]⟩
                      have hjx : (joinK X P k)[k]? = some x := by rw [joinK_get (by omega)]; exact hx
                      obtain ⟨y0, ky, hyi, hvy, hvpy⟩ := hV4.get hy
                      obtain ⟨x0, kx, hxi, hvx, hvpx⟩ := hO4.get hjx
                      have hy1 := (HROWS.out y (List.mem_of_getElem? hy)).1
                      have hy12 := (HROWS.out y (List.mem_of_getElem? hy)).2
                      have hx1 := (HROW.out x (List.mem_of_getElem? hx)).1
                      have hx12 := (HROW.out x (List.mem_of_getElem? hx)).2
                      obtain ⟨ya, yn, rc⟩ := y0
                      obtain ⟨xa, xn, qc⟩ := x0
                      obtain ⟨rt, rfl⟩ : ∃ t, ya = some t := by
                        cases ya with
                        | some t' => exact ⟨t', rfl⟩
                        | none => have h1 := hvpy.top.sl.nil rfl; have h2 := hvpy.top.sl.le; omega
                      obtain ⟨qt, rfl⟩ : ∃ t, xa = some t := by
                        cases xa with
                        | some t' => exact ⟨t', rfl⟩
                        | none => have h1 := hvpx.top.sl.nil rfl; have h2 := hvpx.top.sl.le; omega
                      have hrz := hvpy.top.zero
                      have hqz := hvpx.top.zero
                      simp only at hvpy hvpx hvy hvx
                      rw [hrz] at hvpy hvy hyi
                      rw [hqz] at hvpx hvx hxi
                      have hqlow := HLW.out k _ _ (Nat.le_refl _) hxi rfl
                      generalize rt.block = rb at *
                      generalize qt.block = qb at *
                      obtain ⟨e0', he0⟩ : ∃ e, y[0]? = some e := ⟨y[0]'(by omega), by simp⟩
                      obtain ⟨f0, hf0⟩ : ∃ e, x[0]? = some e := ⟨x[0]'(by omega), by simp⟩
                      obtain ⟨ye, hye⟩ : ∃ z, ky[0]? = some z := ⟨ky[0]'(by rw [hvpy.len]; omega), by simp⟩
                      obtain ⟨xe, hxe⟩ : ∃ z, kx[0]? = some z := ⟨kx[0]'(by rw [hvpx.len]; omega), by simp⟩
                      have hse := hvpy.ent 0 ye e0' hye he0
                      have hsf := hvpx.ent 0 xe f0 hxe hf0
                      obtain ⟨ea, en, ec⟩ := ye
                      obtain ⟨fa, fn, fc⟩ := xe
                      simp only at hse hsf
                      obtain rfl := hse.n_eq
                      obtain rfl := hsf.n_eq
                      have hcE : ∀ w', Below wr.heap.size wr w' → w'.cell? ⟨rb, 0, none⟩ = some (.slice ea e0'.length ec) := fun w' h => (hvpy.below h).top.at_ (hv_at hye rfl)
                      have hcF : ∀ w', Below wr.heap.size wr w' → w'.cell? ⟨qb, 0, none⟩ = some (.slice fa f0.length fc) := fun w' h => (hvpx.below h).top.at_ (hv_at hxe rfl)
                      have hcO : ∀ w', Below wr.heap.size wr w' → w'.cell? ⟨ob, k, none⟩ = some (.slice (some ⟨qb, 0, none⟩) x.length qc) := fun w' h => (hO4.below h).top.at_ (hv_at hxi hvx)
                      obtain ⟨D2, HD2⟩ : ∃ D, Hid (decide (e0' = f0) = D) := ⟨_, hide rfl⟩
                      have heq2 : ∀ w', Below wr.heap.size wr w' → Calls Try.prog 40 #[.slice ea e0'.length ec, .slice fa f0.length fc] w' fun e w2 => e = .returned (.bool D2) ∧ Below w'.heap.size w' w2 := fun w' h => by
                        have hbb := hbw4.trans (h.mono hbw4.size)
                        refine (eq_bytes e0' f0 ea fa _ _ ec fc w' (hse.below hbb) (hsf.below hbb)).mono ?_
                        rintro e w2 ⟨h1, n, h2⟩
                        exact ⟨by rw [h1, HD2.out], h2 ▸ Still.below n⟩
                      have HUY := hide (hv_at hyi hvy)
                      have HXI := hide hxi
                      have HVX := hide hvx
                      have HY := hide hy
                      have HX := hide hx
                      have HE0 : Hid ((P.getD k []).getD 0 [] = e0') := hide (getD_two hy he0)
                      have HF0 : Hid ((X.getD k []).getD 0 [] = f0) := hide (getD_two hx hf0)
                      have hV4t := hV4.top.sl
                      have hyrc : y.length ≤ rc := hvpy.top.sl.le
                      clear hy hx hjx hyi hxi hvy hvx he0 hf0 hye hxe hrz hqz hse hsf
                      go_wp2_with (with_reducible refine idx_3 83 _ _ _ _ _ hs3 rfl hV4t _ _ k rfl rfl _ HUY.out ?_; intro b5 o5 hcell hbo)
                      clear hcell hbo hV4t
                      refine wp_region_free 10 [⟨0, 85, [85], fun vs _ => vs = [.slice (some ⟨rb, 0, none⟩) y.length rc]⟩, ⟨1, 86, [86], fun vs _ => vs = [.pointer (some ⟨rb, 0, none⟩)]⟩, ⟨2, 87, [87], fun vs _ => vs = [.slice ea e0'.length ec]⟩, ⟨3, 88, [88], fun vs _ => vs = [.slice (some ⟨ob, 0, none⟩) X.length cO]⟩, ⟨4, 89, [89], fun vs _ => vs = [.int .i64 (k : Int)]⟩, ⟨5, 90, [90], fun vs _ => vs = [.pointer (some ⟨ob, k, none⟩)]⟩, ⟨6, 91, [91], fun vs _ => vs = [.slice (some ⟨qb, 0, none⟩) x.length qc]⟩, ⟨7, 92, [92], fun vs _ => vs = [.pointer (some ⟨qb, 0, none⟩)]⟩, ⟨8, 93, [93], fun vs _ => vs = [.slice fa f0.length fc]⟩, ⟨9, 94, [94], fun vs _ => vs = [.bool D2]⟩] (by kernel_rfl) (by kernel_rfl) ?_ ?_ ?_
                      · simp only [All]
                        refine ⟨fun _ _ _ _ h => h, fun _ _ _ _ h => h, fun _ _ _ _ h => h, fun _ _ _ _ h => h, fun _ _ _ _ h => h, fun _ _ _ _ h => h, fun _ _ _ _ h => h, fun _ _ _ _ h => h, fun _ _ _ _ h => h, fun _ _ _ _ h => h, trivial⟩
                      · simp only [All]
                        refine ⟨?_, ?_, ?_, ?_, ?_, ?_, ?_, ?_, ?_, ?_, trivial⟩
                        · intro o ho a' w' hb hfr hdep
                          obtain rfl := Option.some.inj ho
                          have g12 : a'.tmps[12]?.getD undef = .slice (some ⟨rb, 0, none⟩) y.length rc := by have h := hfr 12 (by kernel_rfl); simpa using h
                          clear ho hfr hdep
                          go_wp2_with fail
                          exact ⟨rfl, _, rfl, Below.refl _ _, rfl⟩
                        · intro o ho a' w' hb hfr hdep
                          obtain rfl := Option.some.inj ho
                          have g85 : a'.tmps[85]?.getD undef = .slice (some ⟨rb, 0, none⟩) y.length rc := by have h := hdep 0 _ rfl (by kernel_rfl); simpa using h
                          clear ho hfr hdep
                          go_wp2_with fail
                          exact ⟨rfl, _, rfl, Below.refl _ _, rfl⟩
                        · intro o ho a' w' hb hfr hdep
                          obtain rfl := Option.some.inj ho
                          have g86 : a'.tmps[86]?.getD undef = .pointer (some ⟨rb, 0, none⟩) := by have h := hdep 1 _ rfl (by kernel_rfl); simpa using h
                          clear ho hfr hdep
                          have hcl := hcE _ hb
                          go_wp2_with fail
                          exact ⟨rfl, _, rfl, Below.refl _ _, rfl⟩
                        · intro o ho a' w' hb hfr hdep
                          obtain rfl := Option.some.inj ho
                          have g4 : a'.tmps[4]?.getD undef = .slice (some ⟨ob, 0, none⟩) X.length cO := by have h := hfr 4 (by kernel_rfl); simpa using h
                          clear ho hfr hdep
                          go_wp2_with fail
                          exact ⟨rfl, _, rfl, Below.refl _ _, rfl⟩
                        · intro o ho a' w' hb hfr hdep
                          obtain rfl := Option.some.inj ho
                          have g11 : a'.tmps[11]?.getD undef = .int .i64 (k : Int) := by have h := hfr 11 (by kernel_rfl); simpa using h
                          clear ho hfr hdep
                          go_wp2_with fail
                          exact ⟨rfl, _, rfl, Below.refl _ _, rfl⟩
                        · intro o ho a' w' hb hfr hdep
                          obtain rfl := Option.some.inj ho
                          have g88 : a'.tmps[88]?.getD undef = .slice (some ⟨ob, 0, none⟩) X.length cO := by have h := hdep 3 _ rfl (by kernel_rfl); simpa using h
                          have g89 : a'.tmps[89]?.getD undef = .int .i64 (k : Int) := by have h := hdep 4 _ rfl (by kernel_rfl); simpa using h
                          clear ho hfr hdep
                          go_wp2_with fail
                          exact ⟨rfl, _, rfl, Below.refl _ _, rfl⟩
                        · intro o ho a' w' hb hfr hdep
                          obtain rfl := Option.some.inj ho
                          have g90 : a'.tmps[90]?.getD undef = .pointer (some ⟨ob, k, none⟩) := by have h := hdep 5 _ rfl (by kernel_rfl); simpa using h
                          clear ho hfr hdep
                          have hcl := hcO _ hb
                          go_wp2_with fail
                          exact ⟨rfl, _, rfl, Below.refl _ _, rfl⟩
                        · intro o ho a' w' hb hfr hdep
                          obtain rfl := Option.some.inj ho
                          have g91 : a'.tmps[91]?.getD undef = .slice (some ⟨qb, 0, none⟩) x.length qc := by have h := hdep 6 _ rfl (by kernel_rfl); simpa using h
                          clear ho hfr hdep
                          go_wp2_with fail
                          exact ⟨rfl, _, rfl, Below.refl _ _, rfl⟩
                        · intro o ho a' w' hb hfr hdep
                          obtain rfl := Option.some.inj ho
                          have g92 : a'.tmps[92]?.getD undef = .pointer (some ⟨qb, 0, none⟩) := by have h := hdep 7 _ rfl (by kernel_rfl); simpa using h
                          clear ho hfr hdep
                          have hcl := hcF _ hb
                          go_wp2_with fail
                          exact ⟨rfl, _, rfl, Below.refl _ _, rfl⟩
                        · intro o ho a' w' hb hfr hdep
                          obtain rfl := Option.some.inj ho
                          have g87 : a'.tmps[87]?.getD undef = .slice ea e0'.length ec := by have h := hdep 2 _ rfl (by kernel_rfl); simpa using h
                          have g93 : a'.tmps[93]?.getD undef = .slice fa f0.length fc := by have h := hdep 8 _ rfl (by kernel_rfl); simpa using h
                          clear ho hfr hdep
                          go_wp2_with fail
                          refine (heq2 _ hb).mono ?_
                          rintro e w2 ⟨rfl, h2⟩
                          go_wp2_with fail
                          exact ⟨rfl, _, rfl, h2, rfl⟩
                      · intro g w3 hb3 hp23
                        have p94 := hp23 9 _ rfl
                        clear hp23
                        simp at p94
                        simp only [List.drop_succ_cons, List.drop_zero, List.map_cons, List.map_nil, putAll, Act.put, List.setIfInBounds_toArray, List.set_cons_succ, List.set_cons_zero, p94]
                        have hbk3 := hbk4.trans (hb3.mono hbk4.size)
                        have hV5 := hV4.below hb3
                        have hO5 := hO4.below hb3
                        clear heq2 hcE hcF
                        cases D2
                        · have HNO : Hid (¬ ∃ Z, Reads p Z) := hide (HBAD.out (fun h => by
                            have h2 := (h.2.2 hi0).2.2 k hkl
                            rw [HE0.out, HF0.out] at h2
                            exact of_decide_eq_false HD2.out h2))
                          have hbw3 := hb1.trans (hbk3.mono hb1.size)
                          go_wp2_with fail
                          go_ret2
                          first | exact ⟨[], 2, none, 0, [], rfl, .inr ⟨rfl, rfl, HNO.out⟩, pg3_nil _, hbw3⟩ | exact ⟨[], 2, none, 0, rfl, .inr ⟨rfl, rfl, HNO.out⟩, ⟨[], pg3_nil _⟩, hbw3⟩
                        · have HH2 := hide (headsK_next HH.out (by rw [HE0.out, HF0.out]; exact of_decide_eq_true HD2.out))
                          have hvx3 := hvpx.below hb3
                          have hvy3 := hvpy.below hb3
                          obtain ⟨a1, HA1⟩ : ∃ a1, Hid ((if rc = 1 then (some ⟨rb, 0, none⟩ : Option Addr) else (some ⟨rb, 0, none⟩ : Option Addr).map (·.add 1)) = a1) := ⟨_, hide rfl⟩
                          have hsl1 := hvy3.top.sl.from (s := 1) hy1
                          rw [HA1.out] at hsl1
                          obtain ⟨DK, HDK⟩ : ∃ DK, Hid ((ky.drop 1).map hv = DK) := ⟨_, hide rfl⟩
                          rw [HDK.out] at hsl1
                          have HDK1 : Hid (∀ u ∈ DK, u.oneCell' = true) := hide (by rw [← HDK.out]; intro u hu; obtain ⟨z, _, rfl⟩ := List.mem_map.1 hu; rfl)
                          go_wp2_with fail
                          refine wp_region_mid 9 (Below w1.heap.size w1) (fun w' => w3.grownBy w' (some qb) ∧ Below w1.heap.size w1 w') ⟨8, 104, [104], fun vs w' => ∃ a' c', vs = [.slice a' (x.length + (y.length - 1)) c'] ∧ Hid (Own w' w1.heap.size 47 1 a' (x.length + (y.length - 1)) c' (kx.map hv ++ DK)) ∧ FreshOr qb w3.heap.size a'⟩ [⟨5, 101, [101], fun vs _ => vs = [.slice (some ⟨qb, 0, none⟩) x.length qc]⟩] [⟨0, 96, [96], fun vs _ => vs = [.slice (some ⟨ob, 0, none⟩) X.length cO]⟩, ⟨1, 97, [97], fun vs _ => vs = [.int .i64 (k : Int)]⟩, ⟨2, 98, [98], fun vs _ => vs = [.slice (some ⟨ob, 0, none⟩) X.length cO]⟩, ⟨3, 99, [99], fun vs _ => vs = [.int .i64 (k : Int)]⟩, ⟨4, 100, [100], fun vs _ => vs = [.pointer (some ⟨ob, k, none⟩)]⟩, ⟨6, 102, [102], fun vs _ => vs = [.slice (some ⟨rb, 0, none⟩) y.length rc]⟩, ⟨7, 103, [103], fun vs _ => vs = [.slice a1 (y.length - 1) (rc - 1)]⟩] (by kernel_rfl) (by kernel_rfl) ?_ ?_ ?_ ?_ ?_ ?_ ?_
                          · exact fun w' h => hbk3.trans (h.mono hbk3.size)
                          · exact fun w' h => h.2
                          · simp only [All, List.cons_append, List.nil_append]
                            refine ⟨fun _ _ _ _ h => h, fun _ _ _ _ h => h, fun _ _ _ _ h => h, fun _ _ _ _ h => h, fun _ _ _ _ h => h, fun _ _ _ _ h => h, fun _ _ _ _ h => h, fun _ _ _ _ h => h, trivial⟩
                          · intro o ho a' w' hb hfr hdep
                            obtain rfl := Option.some.inj ho
                            have g101 : a'.tmps[101]?.getD undef = .slice (some ⟨qb, 0, none⟩) x.length qc := by have h := hdep 1 _ rfl (by kernel_rfl); simpa using h
                            have g103 : a'.tmps[103]?.getD undef = .slice a1 (y.length - 1) (rc - 1) := by have h := hdep 8 _ rfl (by kernel_rfl); simpa using h
                            clear ho hfr hdep
                            have hb13 := hbk3.trans (hb.mono hbk3.size)
                            refine append_own_f rfl _ _ 28 rfl 47 (.slice none 0 0) 1 24 Try.underlying28 info_row rfl w1 w1.heap.size (some ⟨qb, 0, none⟩) x.length qc _ (by show a'.tmps.getD 101 undef = _; simpa using g101) ((hvx3.below hb).top) a1 (y.length - 1) (rc - 1) DK (by show a'.tmps.getD 103 undef = _; simpa using g103) (hsl1.below hb) HDK1.out (by omega) (by unfold maxLen; omega) hb13.size hb13 ?_
                            intro a3 c3 w4 ho' hgr' hfr' hb'
                            have HO' := hide ho'
                            have HFR' : FreshOr qb w3.heap.size a3 := fun p hp => (hfr' p hp).imp id (fun h => Nat.le_trans hb.size h)
                            go_wp2
                            refine ⟨rfl, _, rfl, ⟨a3, c3, rfl, HO', HFR'⟩, ⟨grown_trans (grown_of_below hb _) hgr', hb'⟩, ?_⟩
                            simp only [All]
                            exact ⟨fun _ h => h, fun _ h => h, fun _ h => h, fun _ h => h, fun _ h => h, fun _ h => h, fun _ h => h, fun _ h => h, trivial⟩
                          · simp only [All]
                            refine ⟨?_, trivial⟩
                            · intro o ho a' w' hb hfr hdep
                              obtain rfl := Option.some.inj ho
                              have g100 : a'.tmps[100]?.getD undef = .pointer (some ⟨ob, k, none⟩) := by have h := hdep 6 _ rfl (by kernel_rfl); simpa using h
                              clear ho hfr hdep
                              have hcl := hcO _ (hb3.trans (hb.mono hb3.size))
                              go_wp2_with fail
                              exact ⟨rfl, _, rfl, Below.refl _ _, rfl⟩
                          · simp only [All]
                            refine ⟨?_, ?_, ?_, ?_, ?_, ?_, ?_, trivial⟩
                            · intro o ho a' w' hb hfr hdep
                              obtain rfl := Option.some.inj ho
                              have g4 : a'.tmps[4]?.getD undef = .slice (some ⟨ob, 0, none⟩) X.length cO := by have h := hfr 4 (by kernel_rfl); simpa using h
                              clear ho hfr hdep
                              go_wp2_with fail
                              exact ⟨rfl, _, rfl, rfl, rfl⟩
                            · intro o ho a' w' hb hfr hdep
                              obtain rfl := Option.some.inj ho
                              have g11 : a'.tmps[11]?.getD undef = .int .i64 (k : Int) := by have h := hfr 11 (by kernel_rfl); simpa using h
                              clear ho hfr hdep
                              go_wp2_with fail
                              exact ⟨rfl, _, rfl, rfl, rfl⟩
                            · intro o ho a' w' hb hfr hdep
                              obtain rfl := Option.some.inj ho
                              have g4 : a'.tmps[4]?.getD undef = .slice (some ⟨ob, 0, none⟩) X.length cO := by have h := hfr 4 (by kernel_rfl); simpa using h
                              clear ho hfr hdep
                              go_wp2_with fail
                              exact ⟨rfl, _, rfl, rfl, rfl⟩
                            · intro o ho a' w' hb hfr hdep
                              obtain rfl := Option.some.inj ho
                              have g11 : a'.tmps[11]?.getD undef = .int .i64 (k : Int) := by have h := hfr 11 (by kernel_rfl); simpa using h
                              clear ho hfr hdep
                              go_wp2_with fail
                              exact ⟨rfl, _, rfl, rfl, rfl⟩
                            · intro o ho a' w' hb hfr hdep
                              obtain rfl := Option.some.inj ho
                              have g98 : a'.tmps[98]?.getD undef = .slice (some ⟨ob, 0, none⟩) X.length cO := by have h := hdep 4 _ rfl (by kernel_rfl); simpa using h
                              have g99 : a'.tmps[99]?.getD undef = .int .i64 (k : Int) := by have h := hdep 5 _ rfl (by kernel_rfl); simpa using h
                              clear ho hfr hdep
                              go_wp2_with fail
                              exact ⟨rfl, _, rfl, rfl, rfl⟩
                            · intro o ho a' w' hb hfr hdep
                              obtain rfl := Option.some.inj ho
                              have g12 : a'.tmps[12]?.getD undef = .slice (some ⟨rb, 0, none⟩) y.length rc := by have h := hfr 12 (by kernel_rfl); simpa using h
                              clear ho hfr hdep
                              go_wp2_with fail
                              exact ⟨rfl, _, rfl, rfl, rfl⟩
                            · intro o ho a' w' hb hfr hdep
                              obtain rfl := Option.some.inj ho
                              have g102 : a'.tmps[102]?.getD undef = .slice (some ⟨rb, 0, none⟩) y.length rc := by have h := hdep 7 _ rfl (by kernel_rfl); simpa using h
                              clear ho hfr hdep
                              refine cut_lo_x 103 28 _ _ 47 Try.underlying28 size_row (some ⟨rb, 0, none⟩) y.length rc (by show a'.tmps.getD 102 undef = _; simpa using g102) hyrc _ _ 1 rfl rfl hy1 a1 HA1.out ?_
                              go_wp2_with fail
                              exact ⟨rfl, _, rfl, rfl, rfl⟩
                          · intro g w5 hG hp25
                            obtain ⟨a', c', p104, HO5, HFR5⟩ := hp25 0 _ rfl
                            have p96 := hp25 2 _ rfl
                            have p97 := hp25 3 _ rfl
                            clear hp25
                            simp at p96 p97 p104
                            have ho' := HO5.out
                            have hfr' := HFR5
                            simp only [List.drop_succ_cons, List.drop_zero, List.map_cons, List.map_nil, putAll, Act.put, List.setIfInBounds_toArray, List.set_cons_succ, List.set_cons_zero, List.cons_append, List.nil_append, p96, p97, p104]
                            have htk := hO5.top_kept rows_ne HXI.out hG.1
                            have e7 := htk.at_ (hv_at HXI.out HVX.out)
                            have e8 : w5.frozen? ⟨ob, k, none⟩ = false := htk.free k
                            have hrep := hO5.replace (y := (a', x.length + (y.length - 1), c')) (q := x ++ y.drop 1) (ks := kx ++ ky.drop 1) rows_ne HXI.out hG.1 ⟨by
                              have e1 : (kx ++ ky.drop 1).map hv = kx.map hv ++ DK := by rw [List.map_append, HDK.out]
                              have e2 : (x ++ y.drop 1).length = x.length + (y.length - 1) := by rw [List.length_append, List.length_drop]
                              rw [e1, e2]; exact ho', by rw [List.length_append, List.length_append, List.length_drop, List.length_drop, hvpx.len, hvpy.len], fun j z r hz hr => by
                              rw [List.getElem?_append] at hz hr
                              by_cases hj : j < kx.length
                              · rw [if_pos hj] at hz
                                rw [if_pos (by rw [← hvpx.len]; exact hj)] at hr
                                exact hvpx.ent j z r hz hr
                              · rw [if_neg hj, List.getElem?_drop] at hz
                                rw [if_neg (by rw [← hvpx.len]; exact hj), List.getElem?_drop, ← hvpx.len] at hr
                                exact hvpy.ent _ z r hz hr⟩ (by rw [List.length_append, List.length_drop]) hfr'
                            rw [joinK_next HX.out HY.out] at hrep
                            have HREP := hide hrep
                            have HB6 := hide (hG.2.setCell (p := ⟨ob, k, none⟩) htk.base.1 (.slice a' (x.length + (y.length - 1)) c'))
                            have HV6 := hide ((hV5.low hG.1 hqlow).lowCell (t := ⟨ob, k, none⟩) hob (.slice a' (x.length + (y.length - 1)) c'))
                            clear hrep ho' hfr' HO5 HFR5 hG htk hsl1 hcO hvx3 hvy3 hO5 hV5 hvpx hvpy
                            clear p94 HA1 HDK HDK1 HUY HE0 HF0 HD2
                            refine index_known 105 23 _ _ 28 Try.underlying23 size_rows ob X.length cO rfl _ _ k rfl rfl hkX ?_
                            refine store_slice 28 _ _ size_row1 ob k rfl a' (x.length + (y.length - 1)) c' rfl _ e7 e8 ?_
                            clear e7 e8
                            go_wp2_with fail
                            go_roundg (P.length - (k + 1))
                            case measure => have := HG2.out; omega
                            case rel =>
                              refine ⟨k + 1, _, by omega, rfl, by go_num, HREP.out, HV6.out, HH2, hide (fun j z q hj hz hq => ?_), HB6.out⟩
                              rw [List.getElem?_set_ne (by omega)] at hz
                              exact HLW.out j z q (by omega) hz hq
                    · obtain rfl : P.length = k := by omega
                      have HRI3 : Hid (RI p (joinX X P) (BS.drop (i + 1))) := hide (by
                        have h := HRI.out.2 hi0
                        rw [HD.out] at h
                        have h2 := h.step HOKB.out (by rw [HP.out]; exact HLN.out) (by rw [HP.out, HN.out]; omega) (by rw [HP.out]; exact HH.out)
                        rw [HP.out] at h2; exact h2)
                      have HJL : Hid (joinK X P P.length = joinX X P) := hide (by rw [HLN.out]; exact joinK_all _ _)
                      rw [HJL.out] at hO4
                      have HJN : Hid ((joinX X P).length = X.length) := hide (joinX_len _ _)
                      go_wp2_with fail
                      go_roundg (BS.length - (i + 1))
                      case measure => have := HG.out; omega
                      case rel =>
                        refine ⟨i + 1, joinX X P, _, cO, hs2, by omega, rfl, by go_num, by rw [HJN.out], hO4, hide ⟨fun h => by omega, fun _ => HRI3.out⟩, hide (fun row hr => ?_), by rw [HJN.out]; omega, hbk4⟩
                        obtain ⟨k, x, hkx, rfl⟩ := joinX_mem hr
                        have h1 := HROW.out x (List.mem_of_getElem? hkx)
                        have h2 : (P.getD k []).length ≤ 12 := by
                          rw [List.getD_eq_getElem?_getD]
                          cases hpk : P[k]? with
                          | none => simp
                          | some y => exact (HROWS.out y (List.mem_of_getElem? hpk)).2
                        rw [List.length_append, List.length_drop]
                        omega
    · obtain rfl : BS.length = i := by omega
      have HRE : Hid (RI p X []) := hide (by have h := HRI.out.2 (by omega); rw [List.drop_eq_nil_of_le (Nat.le_refl _)] at h; exact h)
      have hpgO := hO.pg3 hbw
      have hvl := tab_valid X hsO aO X.length cO wr hpgO
      cases hval : validT X
      · have HNO := hide (HRE.out.none hval)
        rw [hval] at hvl
        clear hval
        go_wp2_with fail
        refine hvl.mono ?_
        rintro e w5 ⟨rfl, hb5⟩
        have hbw5 := hbw.trans (hb5.mono hbw.size)
        go_wp2_with fail
        go_ret2
        first | exact ⟨[], 2, none, 0, [], rfl, .inr ⟨rfl, rfl, HNO.out⟩, pg3_nil _, hbw5⟩ | exact ⟨[], 2, none, 0, rfl, .inr ⟨rfl, rfl, HNO.out⟩, ⟨[], pg3_nil _⟩, hbw5⟩
      · have HOK := hide (HRE.out.done hval)
        have HVX := VX.of hval
        rw [hval] at hvl
        have hV4 := V4.of (hO.mono hb1.size) hbw HVX
        have HENT : Hid (∀ row ∈ X, ∀ x ∈ row, x.length ≤ 40) := hide (fun row hr x hx => (entry_le (HVX.ent row hr x hx)).2)
        clear hval HVX hpgO hO
        go_wp2_with fail
        refine hvl.mono ?_
        rintro e w5 ⟨rfl, hb5⟩
        have hbw5 := hbw.trans (hb5.mono hbw.size)
        have hV5 := hV4.below hb5
        clear hV4
        go_wp2_with fail
        go_loopg [113] X.length (fun g k' w' => ∃ k : Nat, k ≤ X.length ∧ g = X.length - k ∧ k' = .int .i64 (k : Int) ∧ V4 w' w.heap.size aO cO hsO X ∧ Below w.heap.size w w')
        case atStart => exact ⟨0, by omega, by omega, rfl, hV5, hbw5⟩
        case round =>
          clear hV5 hbw5 hb5
          obtain ⟨k, hk, hg, rfl, hV4, hb4⟩ := hrel
          have HG1 := hide hg
          clear hg
          by_cases hkl : k < X.length
          · obtain ⟨q, hq⟩ : ∃ q, X[k]? = some q := ⟨X[k], by simp [hkl]⟩
            obtain ⟨x0, ks, hx0, hvx, hR4⟩ := hV4.get hq
            have HQ := hide hq
            have HX0 := hide hx0
            have HU := hide (hv_at hx0 hvx)
            have hVt := hV4.top.sl
            obtain ⟨xa, xn, xc⟩ := x0
            have hq1 := (HROW.out q (List.mem_of_getElem? hq)).1
            have hq2 := (HROW.out q (List.mem_of_getElem? hq)).2
            have hq40 := HENT.out q (List.mem_of_getElem? hq)
            have HQ40 := hide hq40
            obtain ⟨gt, rfl⟩ : ∃ t, xa = some t := by
              cases xa with
              | some t' => exact ⟨t', rfl⟩
              | none => have h1 := hR4.top.sl.nil rfl; have h2 := hR4.top.sl.le; omega
            have hgz := hR4.top.zero
            simp only at hR4 hvx
            rw [hgz] at HU HX0
            generalize gt.block = gb at *
            clear hq hx0 hvx hR4 hgz hq40
            go_wp2_with (with_reducible refine idx_3 115 _ _ _ _ _ hsO rfl hVt _ _ k rfl rfl _ HU.out ?_; intro b5 o5 hcell hbo)
            clear hcell hbo hVt
            go_loopg [119] q.length (fun g j' w' => ∃ j : Nat, j ≤ q.length ∧ g = q.length - j ∧ j' = .int .i64 (j : Int) ∧ V4 w' w.heap.size aO cO hsO X ∧ Below w.heap.size w w')
            case atStart => exact ⟨0, by omega, by omega, rfl, hV4, hb4⟩
            case round =>
              clear hV4 hb4
              obtain ⟨j, hj, hg, rfl, hV4, hb4⟩ := hrel
              have HG2 := hide hg
              clear hg
              by_cases hjl : j < q.length
              · obtain ⟨r, hr⟩ : ∃ r, q[j]? = some r := ⟨q[j], by simp [hjl]⟩
                obtain ⟨⟨ks, hR4⟩, _⟩ := hV4.row k _ q HX0.out HQ.out
                obtain ⟨y, hy⟩ : ∃ y, ks[j]? = some y := ⟨ks[j]'(by rw [hR4.len]; exact hjl), by simp⟩
                obtain ⟨hse, _⟩ := hR4.ent j y r hy hr
                have hyn := hse.n_eq
                obtain ⟨ya, yn, yc⟩ := y
                simp only at hse hyn
                subst hyn
                have hc1 := hR4.top.at_ (hv_at hy rfl)
                have hcl := clone_b r ya r.length yc wr hse (by have := HQ40.out r (List.mem_of_getElem? hr); omega)
                have HR := hide hr
                have HY := hide hy
                clear hr hy
                go_wp2_with fail
                refine hcl.mono ?_
                rintro e w6 ⟨a6, c6, rfl, ho6, hb6⟩
                have hR6 := hR4.below hb6
                have e1 := hR6.top.at_ (hv_at HY.out rfl)
                have e2 := hR6.top.free j
                have hV6 := (hV4.below hb6).store (y := (a6, r.length, c6)) (g := ⟨gb, 0, none⟩) HX0.out HQ.out rfl HR.out (ho6.mono hb4.size)
                have hb46 := (hb4.trans (hb6.mono hb4.size)).setCell (p := ⟨gb, j, none⟩) hR6.top.base.1 (.slice a6 r.length c6)
                have HV6 := hide hV6
                have HB46 := hide hb46
                clear hV6 hb46 hc1
                go_wp2_with fail
                go_roundg (q.length - (j + 1))
                case measure => have := HG2.out; omega
                case rel => exact ⟨j + 1, by omega, rfl, by go_num, HV6.out, HB46.out⟩
              · obtain rfl : q.length = j := by omega
                go_wp2_with fail
                go_roundg (X.length - (k + 1))
                case measure => have := HG1.out; omega
                case rel => exact ⟨k + 1, by omega, rfl, by go_num, hV4, hb4⟩
          · obtain rfl : X.length = k := by omega
            go_wp2_with fail
            go_ret2
            first | exact ⟨X, 0, aO, cO, hsO, rfl, .inl ⟨rfl, HOK.out⟩, hV4.pg3, hb4⟩ | exact ⟨X, 0, aO, cO, rfl, .inl ⟨rfl, HOK.out⟩, ⟨hsO, hV4.pg3⟩, hb4⟩
end Go.Proofs.Ytmjkhmebpciopaa
end

/- the text Build -/
section
/- A slice literal, as a law of the walk that hands on an unnamed world. No program in sight. -/
set_option linter.unusedVariables false
namespace Go.Dx
open Go.RowKit
section
variable {P : Program} {w : World} {ops : Array Oper} {rest : List Oper} {act : Act} {Q : Exit → Act → World → Prop} {ty : TypeId} {pos : String} {after : Array Edge}
theorem build_own (d : Nat) (t : TypeId) (n : Nat) (ps : Array (Nat × Operand)) (e : TypeId) (ht : P.underlying t = some (.slice e)) (z : Value) (bytes : Nat) (hi : (P.info? e).map (fun i => (i.zero, i.size, i.bytes)) = some (some z, 1, bytes))
    (us : List Value) (hn : us.length = n) (h0 : 1 ≤ n) (hm : n ≤ 1000)
    (hf : Instr.fill (fun i => some (i * 1, 1)) ((Array.range (n * 1)).map (z.cells[· % z.cells.size]!)) ((ps.map fun (i, x) => (i, act.eval x)).toList) = some us.toArray)
    (hK : ∀ w', Own w' w.heap.size e 1 (some ⟨w.heap.size, 0, none⟩) n n us → Below w.heap.size w w' → w'.heap.size = w.heap.size + 1 → wpList P ops Q rest (act.put (some d) (.slice (some ⟨w.heap.size, 0, none⟩) n n)) w') :
    wpList P ops Q ({ dst := some d, op := .buildSlice t n ps, type := ty, pos := pos, after := after, guard := none } :: rest) act w := by
  refine wpList_plain rfl fun K hK' => ?_
  obtain ⟨i, hi0, hz0, hz1, hz2⟩ := info_parts hi
  have hrun : (Instr.buildSlice t n (ps.map fun (i, x) => (i, act.eval x))).run P w = .ok (.slice (some ⟨w.heap.size, 0, none⟩) n n) (w.alloc (.cells us.toArray e)) := by
    have h1 : ¬ (n * i.size > 16777216) := by rw [hz1]; omega
    have h2 : n * i.size ≠ 0 := by rw [hz1]; omega
    have h3 : n ≠ 0 := by omega
    have h4 : ¬ (n > 16777216) := by omega
    have h5 : ¬ (16777216 < n) := by omega
    simp only [Nat.mul_one] at hf
    simp [Instr.buildSlice, run_underlying ht, sizeOf, typeInfo, hi0, hz1, h3, h4, h5, zeroValue, hz0, newRow]
    simp at hf
    rw [hf]
    simp [newRow]
  unfold Oper.wp
  simp only [execOp, Sem.run_bind, hrun, Result.andThen, Sem.run_pure]
  refine hK' _ _ (hK _ ?_ ((Below.refl _ _).alloc (Nat.le_refl _) _) (by simp))
  have := Own.built w w.heap.size e 1 n us.toArray (Nat.le_refl _) (by simpa using hn) (by unfold maxLen; omega)
  simpa using this
end
end Go.Dx
end

/- the text T26 -/
section
/- Chapter 15: the entries of the section's example. -/
namespace Go.Proofs.Ytmjkhmebpciopaa
open Go.RowKit Go.Dx

def two2 : List (List (List UInt8)) := [[[1], [2, 3]], [[4, 5, 6], [7]]]
def two3 : List (List (List UInt8)) := [[[1], [2, 3], [8, 9]], [[4, 5, 6], [7], [10]]]
theorem pg_of2 {w : World} {a : Option Addr} {n c : Nat} {x y : Hd} {r s : List UInt8} (ht : Sl w 1 a n c [hv x, hv y]) (h1 : Sl w 1 x.1 x.2.1 x.2.2 (r.map B8)) (h2 : Sl w 1 y.1 y.2.1 y.2.2 (s.map B8)) : Pg w a n c [x, y] [r, s] :=
  ⟨ht, rfl, fun i h q hi hq => by
    match i with
    | 0 => simp at hi hq; subst hi hq; exact h1
    | 1 => simp at hi hq; subst hi hq; exact h2
    | i + 2 => simp at hi⟩
theorem pg_of3 {w : World} {a : Option Addr} {n c : Nat} {x y z : Hd} {r s t : List UInt8} (ht : Sl w 1 a n c [hv x, hv y, hv z]) (h1 : Sl w 1 x.1 x.2.1 x.2.2 (r.map B8)) (h2 : Sl w 1 y.1 y.2.1 y.2.2 (s.map B8)) (h3 : Sl w 1 z.1 z.2.1 z.2.2 (t.map B8)) : Pg w a n c [x, y, z] [r, s, t] :=
  ⟨ht, rfl, fun i h q hi hq => by
    match i with
    | 0 => simp at hi hq; subst hi hq; exact h1
    | 1 => simp at hi hq; subst hi hq; exact h2
    | 2 => simp at hi hq; subst hi hq; exact h3
    | i + 3 => simp at hi⟩
theorem pg3_of2 {w : World} {a : Option Addr} {n c : Nat} {x y : Hd} {k1 k2 : List Hd} {p q : List (List UInt8)} (ht : Sl w 1 a n c [hv x, hv y]) (h1 : Pg w x.1 x.2.1 x.2.2 k1 p) (h2 : Pg w y.1 y.2.1 y.2.2 k2 q) : Pg3 w a n c [x, y] [p, q] :=
  ⟨ht, rfl, fun i h s hi hs => by
    match i with
    | 0 => simp at hi hs; subst hi hs; exact ⟨k1, h1⟩
    | 1 => simp at hi hs; subst hi hs; exact ⟨k2, h2⟩
    | i + 2 => simp at hi⟩
/-- the walk stops ahead of a slice literal -/
theorem hold_bs {P : Program} {w : World} {ops : Array Oper} {rest : List Oper} {act : Act} {Q : Exit → Act → World → Prop} {dst : Option Tmp} {t ty : TypeId} {n : Nat} {ps : Array (Nat × Operand)} {pos : String} {after : Array Edge} {g : Option (Nat × Bool)}
    (h : Hid (wpList P ops Q ({ dst := dst, op := .buildSlice t n ps, type := ty, pos := pos, after := after, guard := g } :: rest) act w)) : wpList P ops Q ({ dst := dst, op := .buildSlice t n ps, type := ty, pos := pos, after := after, guard := g } :: rest) act w := h
/-- a slice literal of bytes, of rows, of lists of rows -/
theorem build_b {w : World} {ops : Array Oper} {rest : List Oper} {act : Act} {Q : Exit → Act → World → Prop} {ty : TypeId} {pos : String} {after : Array Edge} (d n : Nat) (ps : Array (Nat × Operand)) (l : List UInt8) (hn : l.length = n) (h0 : 1 ≤ n) (hm : n ≤ 1000)
    (hf : Instr.fill (fun i => some (i * 1, 1)) ((Array.range (n * 1)).map ((Value.int .u8 0).cells[· % (Value.int .u8 0).cells.size]!)) ((ps.map fun (i, x) => (i, act.eval x)).toList) = some (l.map B8).toArray)
    (hK : ∀ w', Own w' w.heap.size 5 1 (some ⟨w.heap.size, 0, none⟩) n n (l.map B8) → Below w.heap.size w w' → w'.heap.size = w.heap.size + 1 → wpList Try.prog ops Q rest (act.put (some d) (.slice (some ⟨w.heap.size, 0, none⟩) n n)) w') :
    wpList Try.prog ops Q ({ dst := some d, op := .buildSlice 47 n ps, type := ty, pos := pos, after := after, guard := none } :: rest) act w :=
  build_own d 47 n ps 5 Try.underlying47 (.int .u8 0) 1 info_u8 (l.map B8) (by rw [List.length_map]; exact hn) h0 hm hf hK
theorem build_q {w : World} {ops : Array Oper} {rest : List Oper} {act : Act} {Q : Exit → Act → World → Prop} {ty : TypeId} {pos : String} {after : Array Edge} (d n : Nat) (ps : Array (Nat × Operand)) (us : List Value) (hn : us.length = n) (h0 : 1 ≤ n) (hm : n ≤ 1000)
    (hf : Instr.fill (fun i => some (i * 1, 1)) ((Array.range (n * 1)).map ((Value.slice none 0 0).cells[· % (Value.slice none 0 0).cells.size]!)) ((ps.map fun (i, x) => (i, act.eval x)).toList) = some us.toArray)
    (hK : ∀ w', Own w' w.heap.size 47 1 (some ⟨w.heap.size, 0, none⟩) n n us → Below w.heap.size w w' → w'.heap.size = w.heap.size + 1 → wpList Try.prog ops Q rest (act.put (some d) (.slice (some ⟨w.heap.size, 0, none⟩) n n)) w') :
    wpList Try.prog ops Q ({ dst := some d, op := .buildSlice 28 n ps, type := ty, pos := pos, after := after, guard := none } :: rest) act w :=
  build_own d 28 n ps 47 Try.underlying28 (.slice none 0 0) 24 info_row us hn h0 hm hf hK
theorem build_p {w : World} {ops : Array Oper} {rest : List Oper} {act : Act} {Q : Exit → Act → World → Prop} {ty : TypeId} {pos : String} {after : Array Edge} (d n : Nat) (ps : Array (Nat × Operand)) (us : List Value) (hn : us.length = n) (h0 : 1 ≤ n) (hm : n ≤ 1000)
    (hf : Instr.fill (fun i => some (i * 1, 1)) ((Array.range (n * 1)).map ((Value.slice none 0 0).cells[· % (Value.slice none 0 0).cells.size]!)) ((ps.map fun (i, x) => (i, act.eval x)).toList) = some us.toArray)
    (hK : ∀ w', Own w' w.heap.size 47 1 (some ⟨w.heap.size, 0, none⟩) n n us → Below w.heap.size w w' → w'.heap.size = w.heap.size + 1 → wpList Try.prog ops Q rest (act.put (some d) (.slice (some ⟨w.heap.size, 0, none⟩) n n)) w') :
    wpList Try.prog ops Q ({ dst := some d, op := .buildSlice 29 n ps, type := ty, pos := pos, after := after, guard := none } :: rest) act w :=
  build_own d 29 n ps 47 Try.underlying29 (.slice none 0 0) 24 info_row us hn h0 hm hf hK
theorem build_3 {w : World} {ops : Array Oper} {rest : List Oper} {act : Act} {Q : Exit → Act → World → Prop} {ty : TypeId} {pos : String} {after : Array Edge} (d n : Nat) (ps : Array (Nat × Operand)) (us : List Value) (hn : us.length = n) (h0 : 1 ≤ n) (hm : n ≤ 1000)
    (hf : Instr.fill (fun i => some (i * 1, 1)) ((Array.range (n * 1)).map ((Value.slice none 0 0).cells[· % (Value.slice none 0 0).cells.size]!)) ((ps.map fun (i, x) => (i, act.eval x)).toList) = some us.toArray)
    (hK : ∀ w', Own w' w.heap.size 28 1 (some ⟨w.heap.size, 0, none⟩) n n us → Below w.heap.size w w' → w'.heap.size = w.heap.size + 1 → wpList Try.prog ops Q rest (act.put (some d) (.slice (some ⟨w.heap.size, 0, none⟩) n n)) w') :
    wpList Try.prog ops Q ({ dst := some d, op := .buildSlice 23 n ps, type := ty, pos := pos, after := after, guard := none } :: rest) act w :=
  build_own d 23 n ps 28 Try.underlying23 (.slice none 0 0) 24 info_rows us hn h0 hm hf hK

set_option maxRecDepth 100000 in
set_option maxHeartbeats 1000000 in
theorem law_two2 (w : World) : Calls Try.prog 36 #[.bool false] w fun e w' => ∃ a c hs, e = .returned (.slice a 2 c) ∧ Pg3 w' a 2 c hs two2 ∧ Below w.heap.size w w' := by
  go_enter Try.func36, Try.ntmps36
  go_wp2_with (with_reducible refine hold_bs ?_)
  refine hide ?_
  refine build_b 4 1 _ [1] rfl (by decide) (by decide) (by simp [Instr.fill, go_sem]) ?_; intro w1 o1 b1 z1
  simp only [Act.put, List.setIfInBounds_toArray, List.set_cons_succ, List.set_cons_zero]
  refine build_b 5 2 _ [2, 3] rfl (by decide) (by decide) (by simp [Instr.fill, go_sem]) ?_; intro w2 o2 b2 z2
  simp only [Act.put, List.setIfInBounds_toArray, List.set_cons_succ, List.set_cons_zero]
  refine build_q 6 2 _ [.slice (some ⟨w.heap.size, 0, none⟩) 1 1, .slice (some ⟨w1.heap.size, 0, none⟩) 2 2] rfl (by decide) (by decide) (by simp [Instr.fill, go_sem]) ?_; intro w3 o3 b3 z3
  simp only [Act.put, List.setIfInBounds_toArray, List.set_cons_succ, List.set_cons_zero]
  refine build_b 7 3 _ [4, 5, 6] rfl (by decide) (by decide) (by simp [Instr.fill, go_sem]) ?_; intro w4 o4 b4 z4
  simp only [Act.put, List.setIfInBounds_toArray, List.set_cons_succ, List.set_cons_zero]
  refine build_b 8 1 _ [7] rfl (by decide) (by decide) (by simp [Instr.fill, go_sem]) ?_; intro w5 o5 b5 z5
  simp only [Act.put, List.setIfInBounds_toArray, List.set_cons_succ, List.set_cons_zero]
  refine build_q 9 2 _ [.slice (some ⟨w3.heap.size, 0, none⟩) 3 3, .slice (some ⟨w4.heap.size, 0, none⟩) 1 1] rfl (by decide) (by decide) (by simp [Instr.fill, go_sem]) ?_; intro w6 o6 b6 z6
  simp only [Act.put, List.setIfInBounds_toArray, List.set_cons_succ, List.set_cons_zero]
  refine build_3 10 2 _ [.slice (some ⟨w2.heap.size, 0, none⟩) 2 2, .slice (some ⟨w5.heap.size, 0, none⟩) 2 2] rfl (by decide) (by decide) (by simp [Instr.fill, go_sem]) ?_; intro w7 o7 b7 z7
  simp only [Act.put, List.setIfInBounds_toArray, List.set_cons_succ, List.set_cons_zero]
  go_wp2_with fail
  go_ret
  have p1 := pg_of2 (x := (some ⟨w.heap.size, 0, none⟩, 1, 1)) (y := (some ⟨w1.heap.size, 0, none⟩, 2, 2)) (r := [1]) (s := [2, 3]) ((((o3.sl.below b4).below b5).below b6).below b7) ((((((o1.sl.below b2).below b3).below b4).below b5).below b6).below b7) (((((o2.sl.below b3).below b4).below b5).below b6).below b7)
  have p2 := pg_of2 (x := (some ⟨w3.heap.size, 0, none⟩, 3, 3)) (y := (some ⟨w4.heap.size, 0, none⟩, 1, 1)) (r := [4, 5, 6]) (s := [7]) (o6.sl.below b7) (((o4.sl.below b5).below b6).below b7) ((o5.sl.below b6).below b7)
  exact ⟨_, 2, _, rfl, pg3_of2 (x := (some ⟨w2.heap.size, 0, none⟩, 2, 2)) (y := (some ⟨w5.heap.size, 0, none⟩, 2, 2)) o7.sl p1 p2, b1.trans ((b2.mono (by omega)).trans ((b3.mono (by omega)).trans ((b4.mono (by omega)).trans ((b5.mono (by omega)).trans ((b6.mono (by omega)).trans (b7.mono (by omega)))))))⟩
end Go.Proofs.Ytmjkhmebpciopaa
end

/- the text T27 -/
section
/- Chapter 15: the entries of the section's second example. -/
namespace Go.Proofs.Ytmjkhmebpciopaa
open Go.RowKit Go.Dx

theorem sl_tr {w w9 w10 : World} {sz b n c g t j : Nat} {cs : List Value} {v : Value} (h : Sl w sz (some ⟨b, 0, none⟩) n c cs) (hb : Below w.heap.size w w9) (hg : w9.grownBy w10 (some g)) (h1 : b ≠ g) (h2 : b ≠ t) : Sl (w10.setCell ⟨t, j, none⟩ v) sz (some ⟨b, 0, none⟩) n c cs :=
  sl_far ((h.below hb).grown hg (fun p hp e => by cases hp; exact h1 (by simpa using e))) (fun q hq => by cases hq; exact h2) v
theorem own_tr {w w9 w10 : World} {B sz b n c g t j : Nat} {e : TypeId} {cs : List Value} {v : Value} (h : Own w B e sz (some ⟨b, 0, none⟩) n c cs) (hb : Below w.heap.size w w9) (hg : w9.grownBy w10 (some g)) (h1 : b ≠ g) (h2 : b ≠ t) : Own (w10.setCell ⟨t, j, none⟩ v) B e sz (some ⟨b, 0, none⟩) n c cs :=
  ((h.below hb).kept hg (fun p hp e => by cases hp; exact h1 (by simpa using e))).set_other (fun q hq => by cases hq; exact h2) v
set_option maxRecDepth 100000 in
set_option maxHeartbeats 1000000 in
theorem law_two3 (w : World) : Calls Try.prog 36 #[.bool true] w fun e w' => ∃ a c hs, e = .returned (.slice a 2 c) ∧ Pg3 w' a 2 c hs two3 ∧ Below w.heap.size w w' := by
  go_enter Try.func36, Try.ntmps36
  go_wp2_with (with_reducible refine hold_bs ?_)
  refine hide ?_
  refine build_b 4 1 _ [1] rfl (by decide) (by decide) (by simp [Instr.fill, go_sem]) ?_; intro w1 o1 b1 z1
  simp only [Act.put, List.setIfInBounds_toArray, List.set_cons_succ, List.set_cons_zero]
  refine build_b 5 2 _ [2, 3] rfl (by decide) (by decide) (by simp [Instr.fill, go_sem]) ?_; intro w2 o2 b2 z2
  simp only [Act.put, List.setIfInBounds_toArray, List.set_cons_succ, List.set_cons_zero]
  refine build_q 6 2 _ [.slice (some ⟨w.heap.size, 0, none⟩) 1 1, .slice (some ⟨w1.heap.size, 0, none⟩) 2 2] rfl (by decide) (by decide) (by simp [Instr.fill, go_sem]) ?_; intro w3 o3 b3 z3
  simp only [Act.put, List.setIfInBounds_toArray, List.set_cons_succ, List.set_cons_zero]
  refine build_b 7 3 _ [4, 5, 6] rfl (by decide) (by decide) (by simp [Instr.fill, go_sem]) ?_; intro w4 o4 b4 z4
  simp only [Act.put, List.setIfInBounds_toArray, List.set_cons_succ, List.set_cons_zero]
  refine build_b 8 1 _ [7] rfl (by decide) (by decide) (by simp [Instr.fill, go_sem]) ?_; intro w5 o5 b5 z5
  simp only [Act.put, List.setIfInBounds_toArray, List.set_cons_succ, List.set_cons_zero]
  refine build_q 9 2 _ [.slice (some ⟨w3.heap.size, 0, none⟩) 3 3, .slice (some ⟨w4.heap.size, 0, none⟩) 1 1] rfl (by decide) (by decide) (by simp [Instr.fill, go_sem]) ?_; intro w6 o6 b6 z6
  simp only [Act.put, List.setIfInBounds_toArray, List.set_cons_succ, List.set_cons_zero]
  refine build_3 10 2 _ [.slice (some ⟨w2.heap.size, 0, none⟩) 2 2, .slice (some ⟨w5.heap.size, 0, none⟩) 2 2] rfl (by decide) (by decide) (by simp [Instr.fill, go_sem]) ?_; intro w7 o7 b7 z7
  simp only [Act.put, List.setIfInBounds_toArray, List.set_cons_succ, List.set_cons_zero]
  obtain ⟨s, hs⟩ : ∃ s, s = w.heap.size := ⟨_, rfl⟩
  have x1 : w1.heap.size = s + 1 := by omega
  have x2 : w2.heap.size = s + 2 := by omega
  have x3 : w3.heap.size = s + 3 := by omega
  have x4 : w4.heap.size = s + 4 := by omega
  have x5 : w5.heap.size = s + 5 := by omega
  have x6 : w6.heap.size = s + 6 := by omega
  have x7 : w7.heap.size = s + 7 := by omega
  have S1 := (((((o1.sl.below b2).below b3).below b4).below b5).below b6).below b7
  have S2 := ((((o2.sl.below b3).below b4).below b5).below b6).below b7
  have R0 := (((o3.below b4).below b5).below b6).below b7
  have S4 := ((o4.sl.below b5).below b6).below b7
  have S5 := (o5.sl.below b6).below b7
  have R1 := o6.below b7
  have hb7 : Below s w w7 := by rw [hs]; exact b1.trans ((b2.mono (by omega)).trans ((b3.mono (by omega)).trans ((b4.mono (by omega)).trans ((b5.mono (by omega)).trans ((b6.mono (by omega)).trans (b7.mono (by omega)))))))
  rw [← hs] at S1 ⊢
  rw [← hs, x1] at R0
  rw [x1] at S2
  rw [x2] at R0
  rw [x3] at S4
  rw [x4] at S5
  rw [x3, x4, x5] at R1
  rw [x2, x5, x6] at o7
  rw [x1, x2, x3, x4, x5, x6]
  have HS := hide hs
  clear o1 o2 o3 o4 o5 o6 b1 b2 b3 b4 b5 b6 b7 z1 z2 z3 z4 z5 z6 z7 x1 x2 x3 x4 x5 x6 hs
  clear w1 w2 w3 w4 w5 w6
  have c0 := o7.at_ (j := 0) rfl
  go_wp2_with (with_reducible refine hold_bs ?_)
  refine hide ?_
  refine build_b 16 2 _ [8, 9] rfl (by decide) (by decide) (by simp [Instr.fill, go_sem]) ?_; intro w8 o8 b8 z8
  simp only [Act.put, List.setIfInBounds_toArray, List.set_cons_succ, List.set_cons_zero]
  refine build_q 17 1 _ [.slice (some ⟨w7.heap.size, 0, none⟩) 2 2] rfl (by decide) (by decide) (by simp [Instr.fill, go_sem]) ?_; intro w9 o9 b9 z9
  simp only [Act.put, List.setIfInBounds_toArray, List.set_cons_succ, List.set_cons_zero]
  rw [x7] at z8 b8 o8 o9 ⊢
  have x8 : w8.heap.size = s + 8 := by omega
  have x9 : w9.heap.size = s + 9 := by omega
  rw [x8] at o9 ⊢
  have b79 : Below w7.heap.size w7 w9 := by rw [x7]; exact b8.trans (b9.mono (by omega))
  have S8 := o8.sl.below b9
  refine append_own_f rfl _ _ 28 rfl 47 (.slice none 0 0) 1 24 Try.underlying28 info_row rfl w9 (s + 2) (some ⟨s + 2, 0, none⟩) 2 2 _ rfl (R0.below b79) (some ⟨s + 8, 0, none⟩) 1 1 _ rfl o9.sl (by simp [Value.oneCell']) (by omega) (by unfold maxLen; omega) (by omega) (Below.refl _ _) ?_
  intro a10 c10 w10 o10 g10 f10 b10
  have ht10 := (o7.below b79).kept g10 (fun p hp e => by cases hp; simp at e)
  have e1 := ht10.at_ (j := 0) rfl
  have e2 : w10.frozen? ⟨s + 6, 0, none⟩ = false := ht10.free 0
  have x10 : s + 9 ≤ w10.heap.size := by have := g10.size; omega
  have ha10 : ∀ q, a10 = some q → q.block = s + 2 ∨ s + 9 ≤ q.block := fun q hq => (f10 q hq).imp (fun ⟨t, h1, h2⟩ => by cases h1; exact h2.symm) (fun h => by omega)
  have S1' := sl_tr (t := s + 6) (j := 0) (v := .slice a10 3 c10) S1 b79 g10 (by simp) (by omega)
  have S2' := sl_tr (t := s + 6) (j := 0) (v := .slice a10 3 c10) S2 b79 g10 (by simp) (by omega)
  have S4' := sl_tr (t := s + 6) (j := 0) (v := .slice a10 3 c10) S4 b79 g10 (by simp) (by omega)
  have S5' := sl_tr (t := s + 6) (j := 0) (v := .slice a10 3 c10) S5 b79 g10 (by simp) (by omega)
  have S8' := sl_tr (t := s + 6) (j := 0) (v := .slice a10 3 c10) S8 (Below.refl _ _) g10 (by simp) (by omega)
  have R1' := own_tr (t := s + 6) (j := 0) (v := .slice a10 3 c10) R1 b79 g10 (by simp) (by omega)
  have T' := ht10.put (i := 0) (.slice a10 3 c10)
  have Q' := o10.set_other (p := ⟨s + 6, 0, none⟩) (fun q hq => by have := ha10 q hq; show q.block ≠ s + 6; omega) (.slice a10 3 c10)
  have B' : Below s w (w10.setCell ⟨s + 6, 0, none⟩ (.slice a10 3 c10)) := ((hb7.trans (b79.mono (by omega))).trans (b10.mono (by omega))).setCell (p := ⟨s + 6, 0, none⟩) (by simp) _
  clear S1 S2 S4 S5 S8 R1 R0 o7 o8 o9 o10 ht10 b8 b9 z8 z9 b79 b10 f10 g10 hb7 c0
  simp only [Act.put, List.setIfInBounds_toArray, List.set_cons_succ, List.set_cons_zero]
  refine index_known 19 23 _ _ 28 Try.underlying23 size_rows (s + 6) 2 2 rfl _ _ 0 rfl rfl (by omega) ?_
  simp only [Act.put, List.setIfInBounds_toArray, List.set_cons_succ, List.set_cons_zero]
  refine store_slice 28 _ _ size_row1 (s + 6) 0 rfl a10 3 c10 rfl _ e1 e2 ?_
  have x11 : s + 9 ≤ (w10.setCell ⟨s + 6, 0, none⟩ (.slice a10 3 c10)).heap.size := by simpa [World.setCell] using x10
  clear e1 e2 x7 x8 x9 x10
  generalize w10.setCell ⟨s + 6, 0, none⟩ (.slice a10 3 c10) = w11 at *
  clear w7 w8 w9 w10
  have c1 := T'.at_ (j := 1) rfl
  go_wp2_with (with_reducible refine hold_bs ?_)
  refine hide ?_
  obtain ⟨m, hm⟩ : ∃ m, m = w11.heap.size := ⟨_, rfl⟩
  refine build_b 24 1 _ [10] rfl (by decide) (by decide) (by simp [Instr.fill, go_sem]) ?_; intro w12 o12 b12 z12
  simp only [Act.put, List.setIfInBounds_toArray, List.set_cons_succ, List.set_cons_zero]
  refine build_q 25 1 _ [.slice (some ⟨w11.heap.size, 0, none⟩) 1 1] rfl (by decide) (by decide) (by simp [Instr.fill, go_sem]) ?_; intro w13 o13 b13 z13
  simp only [Act.put, List.setIfInBounds_toArray, List.set_cons_succ, List.set_cons_zero]
  have b113 : Below w11.heap.size w11 w13 := b12.trans (b13.mono (by omega))
  have x12 : w12.heap.size = m + 1 := by omega
  have x13 : w13.heap.size = m + 2 := by omega
  rw [← hm] at o12 o13 ⊢
  rw [x12] at o13 ⊢
  have hms : s + 9 ≤ m := by omega
  have S12 := o12.sl.below b13
  refine append_own_f rfl _ _ 28 rfl 47 (.slice none 0 0) 1 24 Try.underlying28 info_row rfl w13 (s + 5) (some ⟨s + 5, 0, none⟩) 2 2 _ rfl (R1'.below b113) (some ⟨m + 1, 0, none⟩) 1 1 _ rfl o13.sl (by simp [Value.oneCell']) (by omega) (by unfold maxLen; omega) (by omega) (Below.refl _ _) ?_
  intro a14 c14 w14 o14 g14 f14 b14
  have ht14 := (T'.below b113).kept g14 (fun p hp e => by cases hp; simp at e)
  have e1 := ht14.at_ (j := 1) rfl
  have e2 : w14.frozen? ⟨s + 6, 1, none⟩ = false := ht14.free 1
  have ha14 : ∀ q, a14 = some q → q.block = s + 5 ∨ m + 2 ≤ q.block := fun q hq => (f14 q hq).imp (fun ⟨t, h1, h2⟩ => by cases h1; exact h2.symm) (fun h => by omega)
  have S1'' := sl_tr (t := s + 6) (j := 1) (v := .slice a14 3 c14) S1' b113 g14 (by simp) (by omega)
  have S2'' := sl_tr (t := s + 6) (j := 1) (v := .slice a14 3 c14) S2' b113 g14 (by simp) (by omega)
  have S4'' := sl_tr (t := s + 6) (j := 1) (v := .slice a14 3 c14) S4' b113 g14 (by simp) (by omega)
  have S5'' := sl_tr (t := s + 6) (j := 1) (v := .slice a14 3 c14) S5' b113 g14 (by simp) (by omega)
  have S8'' := sl_tr (t := s + 6) (j := 1) (v := .slice a14 3 c14) S8' b113 g14 (by simp) (by omega)
  have S12'' := sl_tr (t := s + 6) (j := 1) (v := .slice a14 3 c14) S12 (Below.refl _ _) g14 (by simp; omega) (by omega)
  have T'' := ht14.put (i := 1) (.slice a14 3 c14)
  have Q14 := o14.set_other (p := ⟨s + 6, 1, none⟩) (fun q hq => by have := ha14 q hq; show q.block ≠ s + 6; omega) (.slice a14 3 c14)
  have Q'' := ((Q'.below b113).kept g14 (fun q hq e => by have := ha10 q hq; have e : q.block = s + 5 := by simpa using e
                                                          omega)).set_other (p := ⟨s + 6, 1, none⟩) (fun q hq => by have := ha10 q hq; show q.block ≠ s + 6; omega) (.slice a14 3 c14)
  have B'' : Below s w (w14.setCell ⟨s + 6, 1, none⟩ (.slice a14 3 c14)) := ((B'.trans (b113.mono (by omega))).trans (b14.mono (by omega))).setCell (p := ⟨s + 6, 1, none⟩) (by simp) _
  clear S1' S2' S4' S5' S8' S12 R1' T' Q' B' o12 o13 o14 ht14 b12 b13 b113 b14 f14 g14 c1 z12 z13 x11 x12 x13
  simp only [Act.put, List.setIfInBounds_toArray, List.set_cons_succ, List.set_cons_zero]
  refine index_known 27 23 _ _ 28 Try.underlying23 size_rows (s + 6) 2 2 rfl _ _ 1 rfl rfl (by omega) ?_
  simp only [Act.put, List.setIfInBounds_toArray, List.set_cons_succ, List.set_cons_zero]
  refine store_slice 28 _ _ size_row1 (s + 6) 1 rfl a14 3 c14 rfl _ e1 e2 ?_
  clear e1 e2
  generalize w14.setCell ⟨s + 6, 1, none⟩ (.slice a14 3 c14) = w15 at *
  clear hm
  go_wp2_with fail
  go_ret
  have p1 := pg_of3 (x := (some ⟨s, 0, none⟩, 1, 1)) (y := (some ⟨s + 1, 0, none⟩, 2, 2)) (z := (some ⟨s + 7, 0, none⟩, 2, 2)) (r := [1]) (s := [2, 3]) (t := [8, 9]) Q''.sl S1'' S2'' S8''
  have p2 := pg_of3 (x := (some ⟨s + 3, 0, none⟩, 3, 3)) (y := (some ⟨s + 4, 0, none⟩, 1, 1)) (z := (some ⟨m, 0, none⟩, 1, 1)) (r := [4, 5, 6]) (s := [7]) (t := [10]) Q14.sl S4'' S5'' S12''
  exact ⟨_, 2, _, rfl, pg3_of2 (x := (a10, 3, c10)) (y := (a14, 3, c14)) T''.sl p1 p2, by rw [← HS.out]; exact B''⟩
end Go.Proofs.Ytmjkhmebpciopaa
end

/- the text T28 -/
section
/- Chapter 15: the section's examples, in plain words. No program in sight. -/
namespace Go.Proofs.Ytmjkhmebpciopaa

def exT2 (_ : Nat) : Nat := 2
def exL2 (_ : Nat) : Nat := 2
def exT3 (k : Nat) : Nat := if k = 1 then 2 else 3
def exL3 (k : Nat) : Nat := if k = 1 then 5 else 2
def exP2 : List (List UInt8) := [[1, 0, 0, 0, 0, 2, 3], [4, 5, 6, 0, 0, 7]]
def exB3 : List (List UInt8) := [[1, 0, 0, 0, 0, 8, 9], [4, 5, 6, 0, 0, 10]]
def exP3 : List (List UInt8) := exP2 ++ [[]] ++ exB3
theorem ex_err2 : errT two2 7 = 0 := by decide +kernel
theorem ex_err3 : errT two3 7 = 0 := by decide +kernel
theorem ex_sol2 : Sol (colW two2) (nCols two2) two2.length 7 exL2 exT2 1 := by
  intro k h1 h2
  have h2 : k < 2 := h2
  obtain rfl : k = 1 := by omega
  refine ⟨by decide, by decide, by decide +kernel, by decide +kernel, fun i h3 h4 _ => ?_⟩
  have h4 : i < 3 := h4
  obtain rfl : i = 2 := by omega
  exact ⟨by decide +kernel, fun _ => by decide⟩
theorem ex_sol3 : Sol (colW two3) (nCols two3) two3.length 7 exL3 exT3 1 := by
  intro k h1 h2
  have h2 : k < 3 := h2
  by_cases hk : k = 1
  · subst hk
    refine ⟨by decide, by decide, by decide +kernel, by decide +kernel, fun i h3 h4 h5 => ?_⟩
    have h4 : i < 4 := h4
    by_cases hi : i = 2
    · subst hi; exact ⟨by decide +kernel, fun _ => by decide⟩
    · obtain rfl : i = 3 := by omega
      exact absurd h5 (by decide +kernel)
  · obtain rfl : k = 2 := by omega
    refine ⟨by decide, by decide, by decide +kernel, by decide +kernel, fun i h3 h4 _ => ?_⟩
    have h4 : i < 4 := h4
    obtain rfl : i = 3 := by omega
    exact ⟨by decide +kernel, fun _ => by decide⟩
theorem ex_page2 : pageT (colW two2) two2 (nCols two2) exT2 = exP2 := by decide +kernel
theorem ex_page3 : pageT (colW two3) two3 (nCols two3) exT3 = exP3 := by decide +kernel
theorem ex_first2 : chain (nCols two2) exT2 (nCols two2) 1 = [1] := by decide +kernel
theorem ex_first3 : chain (nCols two3) exT3 (nCols two3) 1 = [1, 2] := by decide +kernel
theorem ex_least2 : leastL (nCols two2) exL2 = [2, 0] := by decide +kernel
theorem ex_least3 : leastL (nCols two3) exL3 = [5, 2, 0] := by decide +kernel
theorem ex_cut1 : exP2.map cutL = two2 := by simp [exP2, cutL, cutA, dropZ, two2]
theorem ex_cut2 : exB3.map cutL = [[[1], [8, 9]], [[4, 5, 6], [10]]] := by simp [exB3, cutL, cutA, dropZ]
theorem ex_blk : blk [] exP3 = [exP2, exB3] := by decide +kernel
theorem ex_ok1 : okB exP2 := by unfold okB; rw [ex_cut1]; exact ⟨by decide +kernel, by decide +kernel⟩
theorem ex_ok2 : okB exB3 := by unfold okB; rw [ex_cut2]; exact ⟨by decide +kernel, by decide +kernel⟩
theorem ex_join : joinX two2 [[[1], [8, 9]], [[4, 5, 6], [10]]] = two3 := by decide +kernel
theorem ex_reads : Reads exP3 two3 := by
  refine ⟨exP2, [exB3], ex_blk, ex_ok1, fun _ => by rw [ex_cut1]; decide, ?_, by decide +kernel⟩
  rw [ex_cut1]
  refine .cons ex_ok2 (by rw [ex_cut2]; rfl) (by rw [ex_cut2]; decide) (by
    rw [ex_cut2]
    intro k hk
    have hk : k < 2 := hk
    match k with
    | 0 => rfl
    | 1 => rfl
    | k + 2 => omega) ?_
  rw [ex_cut2, ex_join]
  exact .nil _
theorem ex_no : ¬ ∃ Z, Reads [[1, 0]] Z := by
  rintro ⟨Z, b, bs, e, h, _⟩
  have e0 : blk [] [[1, 0]] = [[[1, 0]]] := by decide +kernel
  rw [e0] at e
  injection e with e1 e2
  subst e1
  have h1 := h.1
  have e3 : ([[1, 0]] : List (List UInt8)).map cutL = [[[1, 0]]] := by simp [cutL, cutA]
  rw [e3] at h1
  revert h1
  decide +kernel
theorem ex_read3 {Z : List (List (List UInt8))} {x : Int} (h : readZ exP3 Z x) : Z = two3 ∧ x = 0 := h.uniq (.inl ⟨rfl, ex_reads⟩)
theorem ex_read1 {Z : List (List (List UInt8))} {x : Int} (h : readZ [[1, 0]] Z x) : Z = [] ∧ x = 2 := h.uniq (.inr ⟨rfl, rfl, ex_no⟩)
end Go.Proofs.Ytmjkhmebpciopaa
end

/- the text T29 -/
section
/- Chapter 15: the section's examples hold. -/
namespace Go.Proofs.Ytmjkhmebpciopaa
open Go.RowKit Go.Dx

theorem Pg.from {w : World} {a : Option Addr} {n c : Nat} {hs : List Hd} {p : List (List UInt8)} (h : Pg w a n c hs p) {s : Nat} (hs' : s ≤ n) : Pg w (if c = s then a else a.map (·.add s)) (n - s) (c - s) (hs.drop s) (p.drop s) :=
  ⟨h.top.from hs', by rw [List.length_drop, List.length_drop, h.len], fun i x r h1 h2 => by
    rw [List.getElem?_drop] at h1 h2
    exact h.row _ x r h1 h2⟩
theorem ex_len3 : exP3.length ≤ 100000 := by decide +kernel
theorem ex_row3 : ∀ r ∈ exP3, r.length ≤ 1000000 := by decide +kernel
def exP1 : List (List UInt8) := [[1, 0]]
theorem ex_len1 : exP1.length ≤ 100000 := by decide +kernel
theorem ex_row1 : ∀ r ∈ exP1, r.length ≤ 1000000 := by decide +kernel
theorem ex_read_one (hs : List Hd) (a : Option Addr) (c : Nat) (w : World) (h : Pg w a 1 c hs exP1) : Calls Try.prog 17 #[.slice a 1 c] w fun e w' => ∃ a' c', e = .returned (.tuple #[.slice a' 0 c', .int .i64 2]) ∧ Below w.heap.size w w' := by
  refine (tab_Read exP1 hs a 1 c w h ex_len1 ex_row1).mono ?_
  rintro e w' ⟨Z, x, a', c', hs', rfl, hr, _, hb⟩
  obtain ⟨rfl, rfl⟩ := ex_read1 (show readZ [[1, 0]] Z x from hr)
  exact ⟨a', c', rfl, hb⟩
theorem ex_read_three (hs : List Hd) (a : Option Addr) (n c : Nat) (w : World) (h : Pg w a n c hs exP3) : Calls Try.prog 17 #[.slice a n c] w fun e w' => ∃ a' c' hs', e = .returned (.tuple #[.slice a' 2 c', .int .i64 0]) ∧ Pg3 w' a' 2 c' hs' two3 ∧ Below w.heap.size w w' := by
  refine (tab_Read exP3 hs a n c w h ex_len3 ex_row3).mono ?_
  rintro e w' ⟨Z, x, a', c', hs', rfl, hr, h3, hb⟩
  obtain ⟨rfl, rfl⟩ := ex_read3 hr
  exact ⟨a', c', hs', rfl, h3, hb⟩
theorem ex_drop3 : exP3.drop 3 = exB3 := by decide +kernel
theorem lay2 (w : World) (a : Option Addr) (c : Nat) (hs : List Hd) (hp : Pg3 w a 2 c hs two2) : Calls Try.prog 10 #[.slice a 2 c, .int .i64 7] w (GivesLay exP2 [1] [2, 0] 0 w) := by
  have h := tab_Layout two2 hs a 2 c 7 exL2 exT2 w hp ex_err2 ex_sol2
  rw [ex_page2, ex_first2, ex_least2] at h; exact h
theorem lay3 (w : World) (a : Option Addr) (c : Nat) (hs : List Hd) (hp : Pg3 w a 2 c hs two3) : Calls Try.prog 10 #[.slice a 2 c, .int .i64 7] w (GivesLay exP3 [1, 2] [5, 2, 0] 0 w) := by
  have h := tab_Layout two3 hs a 2 c 7 exL3 exT3 w hp ex_err3 ex_sol3
  rw [ex_page3, ex_first3, ex_least3] at h; exact h
theorem build_i {w : World} {ops : Array Oper} {rest : List Oper} {act : Act} {Q : Exit → Act → World → Prop} {ty : TypeId} {pos : String} {after : Array Edge} (d n : Nat) (ps : Array (Nat × Operand)) (l : List Int) (hn : l.length = n) (h0 : 1 ≤ n) (hm : n ≤ 1000)
    (hf : Instr.fill (fun i => some (i * 1, 1)) ((Array.range (n * 1)).map ((Value.int .i64 0).cells[· % (Value.int .i64 0).cells.size]!)) ((ps.map fun (i, x) => (i, act.eval x)).toList) = some (l.map I64).toArray)
    (hK : ∀ w', Own w' w.heap.size 3 1 (some ⟨w.heap.size, 0, none⟩) n n (l.map I64) → Below w.heap.size w w' → w'.heap.size = w.heap.size + 1 → wpList Try.prog ops Q rest (act.put (some d) (.slice (some ⟨w.heap.size, 0, none⟩) n n)) w') :
    wpList Try.prog ops Q ({ dst := some d, op := .buildSlice 22 n ps, type := ty, pos := pos, after := after, guard := none } :: rest) act w :=
  build_own d 22 n ps 3 Try.underlying22 (.int .i64 0) 8 info_int (l.map I64) (by rw [List.length_map]; exact hn) h0 hm hf hK

set_option maxRecDepth 100000 in
set_option maxHeartbeats 400000 in
theorem law15_lives (w : World) : Calls Try.prog 14 #[] w fun e w' => e = .returned (.bool true) ∧ Below w.heap.size w w' := by
  have l2 : ((exP2.length : Int) != 2) = false := by decide
  have l3 : ((exP3.length : Int) != 5) = false := by decide
  go_enter Try.func14, Try.ntmps14
  go_wp2_with fail
  refine (law_two2 w).mono ?_
  rintro e w1 ⟨a1, c1, h1, rfl, hp1, hb1⟩
  go_wp2_with fail
  refine (lay2 w1 a1 c1 h1 hp1).mono ?_
  rintro e w2 ⟨ap, cp, hsp, af, cf, al, cl, rfl, hpg2, hF2, hL2, hb2⟩
  go_wp2_with (with_reducible refine store_all 31 _ _ 31 _ _ [.slice af 1 cf, .slice al 2 cl] _ (size_tcert _ _) (Box.new w2 _ _) rfl rfl rfl (Eq.refl 2) (by simp [Value.oneCell']) ?_; intro w3 hx3 hg3 hs3)
  have b23 : Below w2.heap.size w2 w3 := (blo w2 _).grown hg3 (by simp) (fun k hk => by cases hk; exact Nat.le_refl _)
  have b13 := hb1.trans ((hb2.trans (b23.mono hb2.size)).mono hb1.size)
  have P2 := hpg2.below b23
  have F2 := hF2.below b23
  have L2 := hL2.below b23
  clear hpg2 hF2 hL2 hp1 hg3
  refine (law_two3 w3).mono ?_
  rintro e w4 ⟨a4, c4, h4, rfl, hp4, hb4⟩
  go_wp2_with fail
  refine (lay3 w4 a4 c4 h4 hp4).mono ?_
  rintro e w5 ⟨aq, cq, hsq, af3, cf3, al3, cl3, rfl, hpg3, hF3, hL3, hb5⟩
  go_wp2_with (first
    | (with_reducible refine store_all 31 _ _ 31 _ _ [.slice af3 2 cf3, .slice al3 3 cl3] _ (size_tcert _ _) (Box.new w5 _ _) rfl rfl rfl (Eq.refl 2) (by simp [Value.oneCell']) ?_; intro w6 hx6 hg6 hs6)
    | (with_reducible refine hold_bs ?_))
  have b56 : Below w5.heap.size w5 w6 := (blo w5 _).grown hg6 (by simp) (fun k hk => by cases hk; exact Nat.le_refl _)
  have b36 := hb4.trans ((hb5.trans (b56.mono hb5.size)).mono hb4.size)
  have B6 := b13.trans (b36.mono b13.size)
  have P3 := hpg3.below b56
  have F3 := hF3.below b56
  have P26 := P2.below b36
  have F26 := F2.below b36
  have L26 := L2.below b36
  have X2 := hx3.under b36
  have X5 := hx6
  clear hpg3 hF3 hL3 hp4 hg6 P2 F2 L2 b23 b56 b13 hb1 hb2 hb4 hb5 b36 hs3 hs6
  refine hide ?_
  refine build_b 41 7 _ [1, 0, 0, 0, 0, 2, 3] rfl (by decide) (by decide) (by simp [Instr.fill, go_sem]) ?_; intro w7 o7 b7 z7
  simp only [Act.put, List.setIfInBounds_toArray, List.set_cons_succ, List.set_cons_zero]
  refine build_b 42 6 _ [4, 5, 6, 0, 0, 7] rfl (by decide) (by decide) (by simp [Instr.fill, go_sem]) ?_; intro w8 o8 b8 z8
  simp only [Act.put, List.setIfInBounds_toArray, List.set_cons_succ, List.set_cons_zero]
  refine build_p 43 2 _ [.slice (some ⟨w6.heap.size, 0, none⟩) 7 7, .slice (some ⟨w7.heap.size, 0, none⟩) 6 6] rfl (by decide) (by decide) (by simp [Instr.fill, go_sem]) ?_; intro w9 o9 b9 z9
  simp only [Act.put, List.setIfInBounds_toArray, List.set_cons_succ, List.set_cons_zero]
  have b69 : Below w6.heap.size w6 w9 := b7.trans ((b8.mono b7.size).trans (b9.mono (by omega)))
  have hlit : Pg w9 (some ⟨w8.heap.size, 0, none⟩) 2 2 _ exP2 := pg_of2 (x := (some ⟨w6.heap.size, 0, none⟩, 7, 7)) (y := (some ⟨w7.heap.size, 0, none⟩, 6, 6)) (r := [1, 0, 0, 0, 0, 2, 3]) (s := [4, 5, 6, 0, 0, 7]) o9.sl ((o7.sl.below b8).below b9) (o8.sl.below b9)
  have hsame := ref15_SamePage exP2 exP2 _ _ ap (some ⟨w8.heap.size, 0, none⟩) _ 2 cp 2 w9 (P26.below b69) hlit
  rw [decide_eq_true (rfl : exP2 = exP2)] at hsame
  have P39 := P3.below b69
  have F39 := F3.below b69
  have F29 := F26.below b69
  have L29 := L26.below b69
  have X29 := X2.under b69
  have X59 := X5.under b69
  have B9 := B6.trans (b69.mono B6.size)
  clear P26 P3 F3 F26 L26 X2 X5 hlit o7 o8 o9 b7 b8 b9 z7 z8 z9 B6 b69 hx3 hx6
  go_wp2_with fail
  refine hsame.mono ?_
  rintro e w10 ⟨rfl, b10⟩
  have c20 := (X29.under b10).at_ (j := 0) rfl
  go_wp2_with (with_reducible refine hold_bs ?_)
  refine hide ?_
  refine unguard (by first | rfl | (simp [Region.wanted, yielded, Act.put]; done)) ?_
  refine build_i 48 1 _ [1] rfl (by decide) (by decide) (by simp [Instr.fill, go_sem]) ?_; intro w11 o11 b11 z11
  simp only [Act.put, List.setIfInBounds_toArray, List.set_cons_succ, List.set_cons_zero]
  go_wp2_with fail
  refine (SameInts_at (l1 := ints [1]) (l2 := [1]) (r := true) (by decide) ((F29.below b10).below b11) o11.sl).mono ?_
  rintro e w12 ⟨rfl, b12⟩
  have b912 : Below w9.heap.size w9 w12 := b10.trans ((b11.mono b10.size).trans (b12.mono (Nat.le_trans b10.size b11.size)))
  have c21 := (X29.under b912).at_ (j := 1) rfl
  clear c20 o11
  go_wp2_with (with_reducible refine hold_bs ?_)
  refine hide ?_
  refine unguard (by first | rfl | (simp [Region.wanted, yielded, Act.put]; done)) ?_
  refine build_i 54 2 _ [2, 0] rfl (by decide) (by decide) (by simp [Instr.fill, go_sem]) ?_; intro w13 o13 b13 z13
  simp only [Act.put, List.setIfInBounds_toArray, List.set_cons_succ, List.set_cons_zero]
  go_wp2_with fail
  refine (SameInts_at (l1 := ints [2, 0]) (l2 := [2, 0]) (r := true) (by decide) ((L29.below b912).below b13) o13.sl).mono ?_
  rintro e w14 ⟨rfl, b14⟩
  have b914 := b912.trans ((b13.mono b912.size).trans (b14.mono (Nat.le_trans b912.size b13.size)))
  have P314 := P39.below b914
  have F314 := F39.below b914
  have X514 := X59.under b914
  have B14 := B9.trans (b914.mono B9.size)
  clear P39 F39 X59 b914 b912 b10 b11 b12 b13 b14 o13 F29 L29 X29 B9 c21 z11 z13
  go_wp2_with fail
  refine (ex_read_three _ aq _ cq w14 P314).mono ?_
  rintro e w15 ⟨az, cz, hz, rfl, hpz, b15⟩
  go_wp2_with (with_reducible refine hold_bs ?_)
  refine hide ?_
  refine build_b 63 2 _ [1, 0] rfl (by decide) (by decide) (by simp [Instr.fill, go_sem]) ?_; intro w16 o16 b16 z16
  simp only [Act.put, List.setIfInBounds_toArray, List.set_cons_succ, List.set_cons_zero]
  refine build_p 64 1 _ [.slice (some ⟨w15.heap.size, 0, none⟩) 2 2] rfl (by decide) (by decide) (by simp [Instr.fill, go_sem]) ?_; intro w17 o17 b17 z17
  simp only [Act.put, List.setIfInBounds_toArray, List.set_cons_succ, List.set_cons_zero]
  have hone : Pg w17 (some ⟨w16.heap.size, 0, none⟩) 1 1 [(some ⟨w15.heap.size, 0, none⟩, 2, 2)] exP1 := ⟨o17.sl, rfl, fun i h q hi hq => by
    cases i with
    | zero => simp at hi; subst hi; replace hq : some ([1, 0] : List UInt8) = some q := hq; cases hq; exact o16.sl.below b17
    | succ i => simp at hi⟩
  clear z16 z17
  go_wp2_with fail
  refine (ex_read_one _ _ _ w17 hone).mono ?_
  rintro e w18 ⟨az1, cz1, rfl, b18⟩
  have b1518 := b16.trans ((b17.mono b16.size).trans (b18.mono (Nat.le_trans b16.size b17.size)))
  have b1418 := b15.trans (b1518.mono b15.size)
  have P318 := P314.below b1418
  have F318 := F314.below b1418
  have X518 := X514.under b1418
  have Z18 := hpz.below b1518
  have B18 := B14.trans (b1418.mono B14.size)
  clear hone o16 o17 b16 b17 b18 b15 b1418 b1518 P314 F314 X514 hpz B14
  obtain ⟨a71, HA71⟩ : ∃ a5, Hid ((if cq = 3 then aq else aq.map (·.add 3)) = a5) := ⟨_, hide rfl⟩
  have P71 := P318.from (s := 3) (by decide)
  rw [HA71.out, ex_drop3] at P71
  go_wp2_with (first
    | (refine unguard (by simp [Region.wanted, yielded]) ?_; refine cut_lo_x 71 29 _ _ 47 Try.underlying29 size_row aq exP3.length cq rfl P318.top.le _ _ 3 rfl rfl (by decide) a71 HA71.out ?_)
    | (with_reducible refine hold_bs ?_))
  refine hide ?_
  refine unguard (by first | rfl | (simp [Region.wanted, yielded, Act.put]; done)) ?_
  refine build_b 72 7 _ [1, 0, 0, 0, 0, 8, 9] rfl (by decide) (by decide) (by simp [Instr.fill, go_sem]) ?_; intro w19 o19 b19 z19
  simp only [Act.put, List.setIfInBounds_toArray, List.set_cons_succ, List.set_cons_zero]
  refine unguard (by first | rfl | (simp [Region.wanted, yielded, Act.put]; done)) ?_
  refine build_b 73 6 _ [4, 5, 6, 0, 0, 10] rfl (by decide) (by decide) (by simp [Instr.fill, go_sem]) ?_; intro w20 o20 b20 z20
  simp only [Act.put, List.setIfInBounds_toArray, List.set_cons_succ, List.set_cons_zero]
  refine unguard (by first | rfl | (simp [Region.wanted, yielded, Act.put]; done)) ?_
  refine build_p 74 2 _ [.slice (some ⟨w18.heap.size, 0, none⟩) 7 7, .slice (some ⟨w19.heap.size, 0, none⟩) 6 6] rfl (by decide) (by decide) (by simp [Instr.fill, go_sem]) ?_; intro w21 o21 b21 z21
  simp only [Act.put, List.setIfInBounds_toArray, List.set_cons_succ, List.set_cons_zero]
  have b1821 : Below w18.heap.size w18 w21 := b19.trans ((b20.mono b19.size).trans (b21.mono (Nat.le_trans b19.size b20.size)))
  have hlit : Pg w21 (some ⟨w20.heap.size, 0, none⟩) 2 2 _ exB3 := pg_of2 (x := (some ⟨w18.heap.size, 0, none⟩, 7, 7)) (y := (some ⟨w19.heap.size, 0, none⟩, 6, 6)) (r := [1, 0, 0, 0, 0, 8, 9]) (s := [4, 5, 6, 0, 0, 10]) o21.sl ((o19.sl.below b20).below b21) (o20.sl.below b21)
  have hsame := ref15_SamePage exB3 exB3 _ _ a71 (some ⟨w20.heap.size, 0, none⟩) _ 2 (cq - 3) 2 w21 (P71.below b1821) hlit
  rw [decide_eq_true (rfl : exB3 = exB3)] at hsame
  have F21 := F318.below b1821
  have X21 := X518.under b1821
  have Z21 := Z18.below b1821
  have B21 := B18.trans (b1821.mono B18.size)
  clear P318 P71 F318 X518 Z18 B18 hlit o19 o20 o21 b19 b20 b21 z19 z20 z21 b1821 HA71
  go_wp2_with fail
  refine hsame.mono ?_
  rintro e w22 ⟨rfl, b22⟩
  have c50 := (X21.under b22).at_ (j := 0) rfl
  go_wp2_with (with_reducible refine hold_bs ?_)
  refine hide ?_
  refine unguard (by first | rfl | (simp [Region.wanted, yielded, Act.put]; done)) ?_
  refine build_i 80 2 _ [1, 2] rfl (by decide) (by decide) (by simp [Instr.fill, go_sem]) ?_; intro w23 o23 b23 z23
  simp only [Act.put, List.setIfInBounds_toArray, List.set_cons_succ, List.set_cons_zero]
  go_wp2_with fail
  refine (SameInts_at (l1 := ints [1, 2]) (l2 := [1, 2]) (r := true) (by decide) ((F21.below b22).below b23) o23.sl).mono ?_
  rintro e w24 ⟨rfl, b24⟩
  have b2124 := b22.trans ((b23.mono b22.size).trans (b24.mono (Nat.le_trans b22.size b23.size)))
  have Z24 := Z21.below b2124
  have B24 := B21.trans (b2124.mono B21.size)
  clear c50 o23 b22 b23 b24 z23 b2124 F21 X21 Z21 B21
  go_wp2_with fail
  refine (law_two3 w24).mono ?_
  rintro e w25 ⟨a25, c25, h25, rfl, hp25, b25⟩
  have Z25 := Z24.below b25
  go_wp2_with fail
  have hsm := ref15_Same two3 two3 _ _ az a25 2 2 cz c25 w25 Z25 hp25
  rw [decide_eq_true (rfl : two3 = two3)] at hsm
  refine hsm.mono ?_
  rintro e w26 ⟨rfl, b26⟩
  go_wp2_with fail
  go_ret
  exact ⟨rfl, (B24.trans (b25.mono B24.size)).trans (b26.mono (Nat.le_trans B24.size b25.size))⟩
end Go.Proofs.Ytmjkhmebpciopaa
end

/- the text T30 -/
section
/- Chapter 15: some widths. -/
namespace Go.Proofs.Ytmjkhmebpciopaa
open Go.RowKit Go.Dx

set_option maxHeartbeats 400000 in
theorem law15_widths (n : Int) (w : World) (h0 : -9223372036854775808 ≤ n) (h1 : n ≤ 9223372036854775807) :
    Calls Try.prog 9 #[.int .i64 n] w fun e w' => ∃ a' v0 v1, e = .returned (.slice a' 2 2) ∧ Sl w' 1 a' 2 2 ([v0, v1].map I64) ∧ (4 ≤ v0 ∧ v0 ≤ 33) ∧ (-1 ≤ v1 ∧ v1 ≤ 1001) ∧ Below w.heap.size w w' := by
  obtain ⟨r, Hr⟩ : ∃ r, Hid (aroundF n 30 = r) := ⟨_, hide rfl⟩
  obtain ⟨q, Hq⟩ : ∃ q, Hid (aroundF n 5 = q) := ⟨_, hide rfl⟩
  have hr : r < 30 := by rw [← Hr.out]; exact aroundF_lt (by omega)
  have hq : q < 5 := by rw [← Hq.out]; exact aroundF_lt (by omega)
  have hA := fun (w : World) => Around_at (w := w) Hr.out (v := 30) rfl (by omega) (by omega) h0 h1
  have hB := fun (w : World) => Around_at (w := w) Hq.out (v := 5) rfl (by omega) (by omega) h0 h1
  obtain ⟨v, hv⟩ : ∃ v, ([0, 1001, 1000, 1, -1] : List Int)[q]? = some v := ⟨([0, 1001, 1000, 1, -1] : List Int)[q]'(by simp; omega), by simp⟩
  have hvb : -1 ≤ v ∧ v ≤ 1001 := by
    have hm := List.mem_of_getElem? hv
    simp at hm
    omega
  have HV := hide hv
  clear hv
  go_enter Try.func9, Try.ntmps9
  go_wp2_with fail
  refine (hA _).mono ?_
  rintro e w1 ⟨rfl, rfl⟩
  go_wp2_with (with_reducible refine hold_bs ?_)
  refine hide ?_
  refine build_i 6 5 _ [0, 1001, 1000, 1, -1] rfl (by decide) (by decide) (by simp [Instr.fill, go_sem]) ?_; intro w2 o2 b2 z2
  simp only [Act.put, List.setIfInBounds_toArray, List.set_cons_succ, List.set_cons_zero]
  have hcell := o2.at_ (j := q) (v := .int .i64 v) (by rw [List.getElem?_map, HV.out]; rfl)
  clear z2
  go_wp2_with fail
  refine (hB _).mono ?_
  rintro e w3 ⟨rfl, rfl⟩
  go_wp2_with (with_reducible refine hold_bs ?_)
  refine hide ?_
  refine build_i 11 2 _ [4 + (r : Int), v] rfl (by decide) (by decide) (by simp [Instr.fill, go_sem]) ?_; intro w4 o4 b4 z4
  simp only [Act.put, List.setIfInBounds_toArray, List.set_cons_succ, List.set_cons_zero]
  clear z4
  go_wp2_with fail
  go_ret
  exact ⟨_, 4 + (r : Int), v, rfl, o4.sl, by omega, hvb, b2.trans (b4.mono b2.size)⟩
end Go.Proofs.Ytmjkhmebpciopaa
end
