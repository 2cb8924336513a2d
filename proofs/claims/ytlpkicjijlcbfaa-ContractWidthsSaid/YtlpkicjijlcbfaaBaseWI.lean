/- The contracts of the functions that the law reaches, joined into one text. -/
import Derived.Test.YtlpkicjijlcbfaaBaseWH
set_option linter.unusedVariables false
set_option linter.unusedSimpArgs false

/- the text E3 -/
section
/- Chapter 08: the reference's Numbers. -/
set_option linter.unusedVariables false
namespace Go.Dx
open Go.RowKit
theorem rowc_set (r : List Int) (k : Nat) (v : Int) : (rowc r).set k (I64 v) = rowc (r.set k v) := by unfold rowc; rw [List.map_set]
end Go.Dx
namespace Go.Proofs.Ytlpkicjijlcbfaa
open Go.RowKit Go.Dx Go.Al
/-- a table of numbers whose rows may be written -/
structure RwM (W : World) (tt ti : TypeId) (B : Nat) (bs : List Nat) (A : Nums) (a3 : Option Addr) (c3 : Nat) : Prop where
  top : Go.Dx.Own W B tt 1 a3 bs.length c3 (bs.map hdB)
  len : bs.length = A.length
  row : ∀ (i b : Nat) (r : List Int), bs[i]? = some b → A[i]? = some r → Box W b ti (rowc r)
  fresh : ∀ b ∈ bs, B ≤ b
  nodup : bs.Nodup
theorem RwM.nil (W : World) (tt ti : TypeId) (B : Nat) : RwM W tt ti B [] [] none 0 := ⟨Go.Dx.Own.nil _ _ _ _, rfl, fun i b r h => by simp at h, fun b h => (by cases h), List.nodup_nil⟩
theorem RwM.below {W W' : World} {tt ti : TypeId} {B : Nat} {bs : List Nat} {A : Nums} {a3 : Option Addr} {c3 : Nat} (h : RwM W tt ti B bs A a3 c3) (hb : Below W.heap.size W W') : RwM W' tt ti B bs A a3 c3 :=
  ⟨h.top.below hb, h.len, fun i b r hi hr => (h.row i b r hi hr).under hb, h.fresh, h.nodup⟩
theorem RwM.lt {W : World} {tt ti : TypeId} {B : Nat} {bs : List Nat} {A : Nums} {a3 : Option Addr} {c3 : Nat} (h : RwM W tt ti B bs A a3 c3) {b : Nat} (hb : b ∈ bs) : b < W.heap.size := by
  obtain ⟨i, hi, e⟩ := List.getElem_of_mem hb
  exact (h.row i b (A[i]'(by rw [← h.len]; exact hi)) (by rw [List.getElem?_eq_getElem hi, e]) (List.getElem?_eq_getElem _)).lt
theorem RwM.push {W W' : World} {tt ti : TypeId} {B : Nat} {bs : List Nat} {A : Nums} {a3 a3' : Option Addr} {c3 c3' : Nat} {b : Nat} {r : List Int} (h : RwM W tt ti B bs A a3 c3) (hne : tt ≠ ti) (hx : Box W b ti (rowc r)) (hB : B ≤ b) (hnew : b ∉ bs)
    (ht : Go.Dx.Own W' B tt 1 a3' (bs.length + 1) c3' (bs.map hdB ++ [hdB b])) (hg : W.grownBy W' (a3.map (·.block))) : RwM W' tt ti B (bs ++ [b]) (A ++ [r]) a3' c3' := by
  refine ⟨by rw [List.length_append, List.map_append]; exact ht, by simp [h.len], fun i y q hi hq => ?_, fun y hy => ?_, ?_⟩
  · rcases Nat.lt_or_ge i bs.length with hlt | hge
    · rw [List.getElem?_append_left hlt] at hi
      rw [List.getElem?_append_left (by rw [← h.len]; exact hlt)] at hq
      have h1 := h.row i y q hi hq
      exact h1.grown hg (own_box h.top h1 hne)
    · have e : i = bs.length := by
        have := (List.getElem?_eq_some_iff.1 hi).1
        rw [List.length_append, List.length_singleton] at this
        omega
      subst e
      rw [List.getElem?_append_right (Nat.le_refl _), Nat.sub_self] at hi
      rw [h.len, List.getElem?_append_right (Nat.le_refl _), Nat.sub_self] at hq
      injection hi with hi
      injection hq with hq
      subst hi; subst hq
      exact hx.grown hg (own_box h.top hx hne)
  · rcases List.mem_append.1 hy with hy | hy
    · exact h.fresh y hy
    · rw [List.mem_singleton] at hy; subst hy; exact hB
  · rw [List.nodup_append]
    exact ⟨h.nodup, by simp, fun z hz y hy e => by rw [List.mem_singleton] at hy; rw [hy] at e; rw [e] at hz; exact hnew hz⟩
theorem RwM.ng {W : World} {tt ti : TypeId} {B : Nat} {bs : List Nat} {A : Nums} {a3 : Option Addr} {c3 : Nat} (h : RwM W tt ti B bs A a3 c3) (h8 : R8 A) : Ng W a3 bs.length c3 (bs.map fun b => ((some ⟨b, 0, none⟩ : Option Addr), 8, 8)) A := by
  refine ⟨?_, by rw [List.length_map, h.len], fun i x r hx hr => ?_⟩
  · have h1 := h.top.sl
    rw [List.map_map]
    exact h1
  · rw [List.getElem?_map] at hx
    cases hb : bs[i]? with
    | none => rw [hb] at hx; cases hx
    | some b =>
      rw [hb] at hx
      injection hx with hx
      subst hx
      have h1 := h.row i b r hb hr
      have h2 := h8 r (List.mem_of_getElem? hr)
      exact ⟨by simp [h2], Nat.le_refl _, by unfold maxLen; show 8 ≤ _; decide, fun e => (by cases e), fun p hp j u hj => by
        injection hp with hp
        subst hp
        rw [Addr.add_lit, Nat.zero_add]
        exact h1.at_ hj⟩
theorem RwM.set {W W' : World} {tt ti : TypeId} {B : Nat} {bs : List Nat} {A : Nums} {a3 : Option Addr} {c3 : Nat} (h : RwM W tt ti B bs A a3 c3) (hne : tt ≠ ti) {j b : Nat} {r q : List Int} (hj : bs[j]? = some b) (hr : A[j]? = some r)
    (hx : Box W' b ti (rowc q)) (hg : W.grownBy W' (some b)) : RwM W' tt ti B bs (A.set j q) a3 c3 := by
  have hbx := h.row j b r hj hr
  refine ⟨h.top.kept hg (fun p hp e => ?_), by simp [h.len], fun i y s hi hs => ?_, h.fresh, h.nodup⟩
  · have h1 := own_box h.top hbx hne
    rw [hp] at h1
    exact h1 e.symm
  · by_cases hij : i = j
    · subst hij
      rw [hj] at hi
      injection hi with hi
      subst hi
      rw [List.getElem?_set_self (List.getElem?_eq_some_iff.1 hr).1] at hs
      injection hs with hs
      subst hs
      exact hx
    · rw [List.getElem?_set_ne (fun e => hij e.symm)] at hs
      refine (h.row i y s hi hs).grown hg (fun e => ?_)
      injection e with e
      subst e
      exact hij ((List.getElem?_inj (List.getElem?_eq_some_iff.1 hi).1 h.nodup).1 (hi.trans hj.symm))
section
variable {w : World} {ops : Array Oper} {rest : List Oper} {o : Oper} {act : Act} {Q : Exit → Act → World → Prop}
/-- 'append(all, row)' on [][]int: the row a literal of one -/
theorem app_row (hg : o.guard = none) (s x : Operand) (hop : o.op = Op.call { callee := Callee.builtin Builtin.append, args := #[s, x], argTypes := #[37, 37] })
    (w0 : World) (B : Nat) (a : Option Addr) (n c : Nat) (xs : List Value) (hs : act.eval s = .slice a n c) (hown : Go.Dx.Own w B 22 1 a n c xs)
    (u : Value) (hu : u.oneCell' = true) (a2 : Option Addr) (c2 : Nat) (hx : act.eval x = .slice a2 1 c2) (hy : Sl w 1 a2 1 c2 [u])
    (hn : n ≤ 1000000) (hB : B ≤ w.heap.size) (hbel : Below B w0 w)
    (hK : ∀ a' c' w', Go.Dx.Own w' B 22 1 a' (n + 1) c' (xs ++ [u]) → w.grownBy w' (a.map (·.block)) → Below B w0 w' → wpList Try.prog ops Q rest (act.put o.dst (.slice a' (n + 1) c')) w') :
    wpList Try.prog ops Q (o :: rest) act w :=
  append_own hg s x 37 hop 22 (.slice none 0 0) 1 24 Try.underlying37 info_hdw rfl w0 B a n c xs hs hown a2 1 c2 [u] hx hy (by simpa using hu) (by omega) (by unfold maxLen; omega) hB hbel hK
end
theorem int0_at : ∀ i, i < (Value.int .i64 0).cells.size → (Value.int .i64 0).cells[i]? = some (.int .i64 0) := by
  intro i hi
  have h : i < 1 := hi
  obtain rfl : i = 0 := by omega
  rfl
set_option maxRecDepth 100000 in
set_option maxHeartbeats 16000000 in
theorem ref8_Numbers (H : TH) (t : Ta) (l : List Sy) (a : Option Addr) (n c : Nat) (w : World) (hT : TaIs w H t) (hs : Sl w 2 a n c (l.flatMap sc)) (hv : validE t = 0) (hg : goodS l = true) (h2048 : l.length ≤ 2048) :
    Calls Try.prog 42 #[H.v, .slice a n c] w fun e w' => ∃ bs aA cA, e = .returned (.slice aA (n + 1) cA) ∧ RwM w' 22 3 w.heap.size bs (numT t l) aA cA ∧ Below w.heap.size w w' := by
  have hnl : Hid (n = l.length) := hide (hs.nf sc_len (by decide))
  have hn2 : n ≤ 2048 := by rw [hnl.out]; exact h2048
  have h2048' := h2048
  have HV := hide hv
  have HG := hide hg
  clear hv hg h2048
  have Hm := hide hT
  have Hs := hide hs
  clear hT hs
  obtain ⟨⟨a0, n0, c0⟩, ⟨a1, n1, c1⟩, ps0, ps1, ⟨ad, nd, cd⟩, ⟨ac, nc, cc⟩, ⟨an, nn, cn⟩, ⟨af, nf, cf⟩, ⟨aw, nw, cw⟩⟩ := H
  unfold TH.v
  simp only [hdv]
  have Y1 := Box.new w 29 #[.slice a0 n0 c0, .slice a1 n1 c1, .slice ad nd cd, .slice ac nc cc, .slice an nn cn, .slice af nf cf, .slice aw nw cw]
  have hba := blo w (.cells #[.slice a0 n0 c0, .slice a1 n1 c1, .slice ad nd cd, .slice ac nc cc, .slice an nn cn, .slice af nf cf, .slice aw nw cw] 29)
  go_enter Try.func42, Try.ntmps42
  go_wp2_with fail
  generalize w.alloc (.cells _ 29) = w1 at *
  obtain ⟨H, hH⟩ : ∃ H : TH, H = ⟨(a0, n0, c0), (a1, n1, c1), ps0, ps1, (ad, nd, cd), (ac, nc, cc), (an, nn, cn), (af, nf, cf), (aw, nw, cw)⟩ := ⟨_, rfl⟩
  have HX1 : Box w1 w.heap.size 29 (tcells H) := by rw [hH]; exact Y1
  have HT1 : TaIs w1 H t := by rw [hH]; exact Hm.out.below hba
  have HS1 := Hs.out.below hba
  clear hH Hm Hs Y1
  obtain ⟨gT, hgT⟩ : ∃ gT, Hid (w.heap.size = gT) := ⟨_, hide rfl⟩
  rw [hgT.out] at HX1 hba ⊢
  obtain ⟨S, hS⟩ : ∃ S, Hid (w1.heap.size = S) := ⟨_, hide rfl⟩
  have hgS : gT < S := by rw [← hS.out]; exact HX1.lt
  go_loopg [5, 6] n (fun gh v5 v6 w' => ∃ (i : Nat) (bs : List Nat) (a3 : Option Addr) (c3 : Nat), i ≤ n ∧ gh = n - i ∧ v6 = .int .i64 (i : Int) ∧ v5 = .slice a3 i c3 ∧ bs.length = i ∧ RwM w' 22 3 S bs (List.replicate i minus) a3 c3 ∧ Below S w1 w' ∧ S ≤ w'.heap.size)
  case atStart => exact ⟨0, [], none, 0, Nat.zero_le _, rfl, rfl, rfl, rfl, RwM.nil _ _ _ _, Below.refl _ _, by rw [hS.out]; exact Nat.le_refl _⟩
  case round =>
    obtain ⟨i, bs, a3, c3, hi, rfl, rfl, rfl, hbs, hM, hb, hSw⟩ := hrel
    have HBS := hide hbs
    clear hbs
    by_cases hin : i < n
    · have d0 : decide ((i : Int) < (n : Int)) = true := decide_eq_true (by omega)
      have hx9 := Box.new wr 3 (rowc minus).toArray
      have hb9 := blo wr (.cells (rowc minus).toArray 3)
      have hM9 := hM.below hb9
      have hs9 : (wr.alloc (.cells (rowc minus).toArray 3)).heap.size = wr.heap.size + 1 := by simp
      obtain ⟨w9, hw9⟩ : ∃ w9, Hid (w9 = wr.alloc (.cells (rowc minus).toArray 3)) := ⟨_, hide rfl⟩
      rw [← hw9.out] at hx9 hb9 hM9 hs9
      have hx10 := hx9.alloc (.cells #[hdB wr.heap.size] 22)
      have hb10 := hb9.trans ((blo w9 (.cells #[hdB wr.heap.size] 22)).mono hb9.size)
      have hM10 := hM9.below (blo w9 (.cells #[hdB wr.heap.size] 22))
      have hl10 : Sl (w9.alloc (.cells #[hdB wr.heap.size] 22)) 1 (some ⟨wr.heap.size + 1, 0, none⟩) 1 1 [hdB wr.heap.size] := by rw [← hs9]; exact Sl.fresh w9 22 1 1 [hdB wr.heap.size] rfl (by decide)
      have hnew : wr.heap.size ∉ bs := fun h => Nat.lt_irrefl _ (hM.lt h)
      obtain ⟨w10, hw10⟩ : ∃ w10, Hid (w10 = w9.alloc (.cells #[hdB wr.heap.size] 22)) := ⟨_, hide rfl⟩
      rw [← hw10.out] at hx10 hb10 hM10 hl10
      have hww : Hid (w10 = (wr.alloc (.cells (rowc minus).toArray 3)).alloc (.cells #[hdB wr.heap.size] 22)) := hide (by rw [hw10.out, hw9.out])
      have htop := hM10.top
      rw [HBS.out] at htop
      have hb110 := hb.trans (hb10.mono hSw)
      have hS10 : S ≤ w10.heap.size := Nat.le_trans hSw hb10.size
      have HWB := hide (show S ≤ wr.heap.size from hSw)
      clear hx9 hb9 hM9 hs9 hw9 hM hb hb10 hw10 hSw
      go_wp2_with (at_builtin; rw [show (wr.alloc (.cells #[.int .i64 (-1), .int .i64 (-1), .int .i64 (-1), .int .i64 (-1), .int .i64 (-1), .int .i64 (-1), .int .i64 (-1), .int .i64 (-1)] 3)).alloc (.cells #[.slice (some ⟨wr.heap.size, 0, none⟩) 8 8] 22) = w10 from hww.out.symm]; refine app_row rfl _ _ rfl w10 S a3 i c3 _ rfl htop (hdB wr.heap.size) rfl (some ⟨wr.heap.size + 1, 0, none⟩) 1 rfl hl10 (by omega) hS10 (Below.refl _ _) ?_; intro a4 c4 w11 hO11 gb11 hb11; refine hold ?_)
      refine hide ?_
      have hM11 := hM10.push (b := wr.heap.size) (r := minus) (by decide) hx10 HWB.out hnew (by rw [HBS.out]; exact hO11) gb11
      rw [← List.replicate_succ'] at hM11
      have hb111 := hb110.grown gb11 hS10 (fun q hq => own_ge htop q hq)
      have hS11 : S ≤ w11.heap.size := Nat.le_trans hS10 gb11.size
      have hbs2 : (bs ++ [wr.heap.size]).length = i + 1 := by rw [List.length_append, HBS.out]; rfl
      have HB2 := hide hbs2
      clear hx10 hM10 hl10 hnew hww htop hb110 hS10 hO11 gb11 hb11 hbs2
      go_wp2_with fail
      go_roundg (n - (i + 1))
      case measure => omega
      case rel => exact ⟨i + 1, bs ++ [wr.heap.size], a4, c4, by omega, rfl, by go_num, rfl, HB2.out, hM11, hb111, hS11⟩
    · obtain rfl : i = n := by omega
      have d0 : decide ((i : Int) < (i : Int)) = false := decide_eq_false (by omega)
      have hx9 := Box.new wr 3 (List.replicate 8 (.int .i64 0)).toArray
      go_upto_region 6 with fail
      have htop := hM.top
      rw [HBS.out] at htop
      have hnew : wr.heap.size ∉ bs := fun h => Nat.lt_irrefl _ (hM.lt h)
      clear hx9
      go_wp2_with (first
        | (with_reducible refine make_wide 24 22 _ _ 3 (.int .i64 0) (.int .i64 0) 1 8 Try.underlying22 info_int rfl (by decide) int0_at .i64 .i64 _ _ 8 rfl rfl rfl rfl (by decide) (by decide) ?_; intro w9 hx9 hb9; refine hold ?_))
      refine hide ?_
      have hM9 := hM.below hb9
      have hx10 := hx9.alloc (.cells #[hdB wr.heap.size] 22)
      have hb10 := hb9.trans ((blo w9 (.cells #[hdB wr.heap.size] 22)).mono hb9.size)
      have hM10 := hM9.below (blo w9 (.cells #[hdB wr.heap.size] 22))
      have hl10 : Sl (w9.alloc (.cells #[hdB wr.heap.size] 22)) 1 (some ⟨w9.heap.size, 0, none⟩) 1 1 [hdB wr.heap.size] := Sl.fresh w9 22 1 1 [hdB wr.heap.size] rfl (by decide)
      obtain ⟨w10, hw10⟩ : ∃ w10, Hid (w10 = w9.alloc (.cells #[hdB wr.heap.size] 22)) := ⟨_, hide rfl⟩
      rw [← hw10.out] at hx10 hb10 hM10 hl10
      have htop := hM10.top
      rw [HBS.out] at htop
      have hb110 := hb.trans (hb10.mono hSw)
      have hS10 : S ≤ w10.heap.size := Nat.le_trans hSw hb10.size
      have HWB := hide (show S ≤ wr.heap.size from hSw)
      have hx10 : Box w10 wr.heap.size 3 (rowc zeros) := hx10
      clear hx9 hb9 hM9 hM hb hb10 hSw
      go_wp2_with (at_builtin; rw [show w9.alloc (.cells #[.slice (some ⟨wr.heap.size, 0, none⟩) 8 8] 22) = w10 from hw10.out.symm]; refine app_row rfl _ _ rfl w10 S a3 i c3 _ rfl htop (hdB wr.heap.size) rfl (some ⟨w9.heap.size, 0, none⟩) 1 rfl hl10 (by omega) hS10 (Below.refl _ _) ?_; intro a4 c4 w11 hO11 gb11 hb11; refine hold ?_)
      refine hide ?_
      have hM11 := hM10.push (b := wr.heap.size) (r := zeros) (by decide) hx10 HWB.out hnew (by rw [HBS.out]; exact hO11) gb11
      have hb111 := hb110.grown gb11 hS10 (fun q hq => own_ge htop q hq)
      have hS11 : S ≤ w11.heap.size := Nat.le_trans hS10 gb11.size
      have hbs2 : (bs ++ [wr.heap.size]).length = i + 1 := by rw [List.length_append, HBS.out]; rfl
      obtain ⟨bs2, hb2⟩ : ∃ z, bs ++ [wr.heap.size] = z := ⟨_, rfl⟩
      rw [hb2] at hM11 hbs2
      clear HBS
      have HBS := hide hbs2
      clear hx10 hM10 hl10 hnew htop hb110 hS10 hO11 gb11 hb11 hbs2 hb2 hw10 HWB
      obtain ⟨bs, rfl⟩ : ∃ z : List Nat, z = bs2 := ⟨_, rfl⟩
      go_wp2_with fail
      go_loopg [7] i (fun gh v w' => ∃ q : Nat, q ≤ i ∧ q = gh ∧ v = .int .i64 ((q : Int) - 1) ∧ RwM w' 22 3 S bs (List.replicate q minus ++ sufT t l (i - q)) a4 c4 ∧ Below S w1 w' ∧ S ≤ w'.heap.size)
      case atStart => exact ⟨i, Nat.le_refl _, rfl, rfl, by rw [Nat.sub_self]; exact hM11, hb111, hS11⟩
      case round =>
        clear hM11 hb111 hS11
        obtain ⟨q, hq, rfl, rfl, hM, hb, hSw⟩ := hrel
        obtain ⟨n, rfl⟩ : ∃ z : Nat, z = i := ⟨_, rfl⟩
        cases q with
        | zero =>
          have e : sufT t l (n - 0) = numT t l := by unfold numT; rw [Nat.sub_zero, hnl.out]
          rw [List.replicate_zero, List.nil_append, e] at hM
          have hbw := hba.trans (hb.mono (by omega))
          have hM' : RwM wr 22 3 gT bs (numT t l) a4 c4 := ⟨hM.top.mono (by omega), hM.len, hM.row, fun b h => by have := hM.fresh b h; omega, hM.nodup⟩
          go_wp2_with fail
          go_ret
          exact ⟨bs, a4, c4, rfl, by rw [hgT.out]; exact hM', by rw [hgT.out]; exact hbw⟩
        | succ j =>
          have hjn : j < n := by omega
          have hji : ((j + 1 : Nat) : Int) - 1 = (j : Int) := by omega
          rw [hji]
          have d1 : decide ((j : Int) ≥ 0) = true := decide_eq_true (by omega)
          have d1' : decide (0 ≤ (j : Int)) = true := decide_eq_true (by omega)
          obtain ⟨P, hP⟩ : ∃ P, Hid (List.replicate j minus = P) := ⟨_, hide rfl⟩
          obtain ⟨R, hR⟩ : ∃ R, Hid (sufT t l (n - (j + 1)) = R) := ⟨_, hide rfl⟩
          have hQ8 : R8 P := fun r hr => by rw [← hP.out] at hr; rw [List.eq_of_mem_replicate hr]; rfl
          have hQb : BdN P 1000000 := fun r hr v hv => by
            rw [← hP.out] at hr
            rw [List.eq_of_mem_replicate hr] at hv
            simp [minus] at hv
            omega
          rw [List.replicate_succ', hP.out, hR.out, List.append_assoc] at hM
          obtain ⟨⟨xl, xc⟩, HX⟩ : ∃ x, Hid (l[j]? = some x) := ⟨l[j]'(by rw [← hnl.out]; exact hjn), hide (by simp)⟩
          obtain ⟨g, hg⟩ : ∃ g, Hid (langAt l j = g) := ⟨_, hide rfl⟩
          have hxg : Hid (xl = g) := hide (by rw [← hg.out, langAt_eq HX.out])
          obtain ⟨A0, hA0⟩ : ∃ A0, Hid (P ++ minus :: R = A0) := ⟨_, hide rfl⟩
          have hPj : P.length = j := by rw [← hP.out, List.length_replicate]
          have hR' : R = sufT t l (l.length - (P.length + 1)) := by rw [← hR.out, hPj, hnl.out]
          have hR0 : Hid (∀ k, k ≤ 8 → RdT l (turnU t l j g 0 k A0)) := hide (fun k hk => by
            have := turn0_ok HV.out HG.out h2048' (P := P) (R := R) (by rw [hPj, ← hnl.out]; exact hjn) hQ8 hQb hR' k hk
            rw [hPj, hg.out, hA0.out] at this
            exact this)
          have hR1 : Hid (∀ k, k ≤ 8 → RdT l (turnU t l j g 1 k (turnU t l j g 0 8 A0))) := hide (fun k hk => by
            have := turn1_ok HV.out HG.out h2048' (P := P) (R := R) (by rw [hPj, ← hnl.out]; exact hjn) hQ8 hQb hR' k hk
            rw [hPj, hg.out, hA0.out] at this
            exact this)
          have hsuf : Hid (P ++ sufT t l (n - j) = stgT t l j g A0 2) := hide (by
            have h1 := place_row (here_at HV.out HG.out (i := P.length) (by rw [hPj, ← hnl.out]; exact hjn)) R
            rw [hPj, hg.out, hA0.out] at h1
            show _ = turnU t l j g 1 8 (turnU t l j g 0 8 A0)
            rw [h1, show n - j = (n - (j + 1)) + 1 by omega]
            simp only [sufT]
            rw [hR.out, show l.length - (n - (j + 1) + 1) = j by rw [← hnl.out]; omega, hg.out])
          have hM0 : RwM wr 22 3 S bs A0 a4 c4 := by rw [← hA0.out]; exact hM
          clear hR' hM hQ8 hQb
          go_wp2_with fail
          go_loopg [8] 2 (fun gh v w' => ∃ τ : Nat, τ ≤ 2 ∧ gh = 2 - τ ∧ v = .int .i64 (τ : Int) ∧ RwM w' 22 3 S bs (stgT t l j g A0 τ) a4 c4 ∧ Below S w1 w' ∧ S ≤ w'.heap.size)
          case atStart => exact ⟨0, by omega, rfl, rfl, hM0, hb, hSw⟩
          case round =>
            clear hM0 hb hSw
            obtain ⟨τ, hτ, rfl, rfl, hM, hb, hSw⟩ := hrel
            by_cases hτ2 : τ < 2
            · have hRdA : Hid (∀ k, k ≤ 8 → RdT l (turnU t l j g τ k (stgT t l j g A0 τ))) := hide (by
                have h3 : τ = 0 ∨ τ = 1 := by omega
                rcases h3 with rfl | rfl
                · intro k hk
                  exact hR0.out k hk
                · intro k hk
                  exact hR1.out k hk)
              have dτ : decide ((τ : Int) < 2) = true := decide_eq_true (by omega)
              have dτ' : decide (τ < 2) = true := decide_eq_true hτ2
              go_wp2_with fail
              go_loopg [9] 8 (fun gh v w' => ∃ k : Nat, k ≤ 8 ∧ gh = 8 - k ∧ v = .int .i64 (k : Int) ∧ RwM w' 22 3 S bs (turnU t l j g τ k (stgT t l j g A0 τ)) a4 c4 ∧ Below S w1 w' ∧ S ≤ w'.heap.size)
              case atStart => exact ⟨0, by omega, rfl, rfl, hM, hb, hSw⟩
              case round =>
                clear hM hb hSw
                obtain ⟨k, hk, rfl, rfl, hM, hb, hSw⟩ := hrel
                by_cases hk8 : k < 8
                · have d8 : decide ((k : Int) < 8) = true := decide_eq_true (by omega)
                  obtain ⟨A, hAe⟩ : ∃ A, Hid (turnU t l j g τ k (stgT t l j g A0 τ) = A) := ⟨_, hide rfl⟩
                  rw [hAe.out] at hM
                  have hRd := hide (hRdA.out k (by omega))
                  rw [hAe.out] at hRd
                  obtain ⟨s8, hs8⟩ : ∃ S, Hid (stN k = S) := ⟨_, hide rfl⟩
                  have hsta := hide (r8_State k hk8 wr)
                  rw [hs8.out] at hsta
                  go_wp2_with (go_at_call 70; refine hsta.out.mono ?_; rintro e w4 ⟨rfl, hb4⟩; refine hold ?_)
                  refine hide ?_
                  unfold sv
                  have hM4 := hM.below hb4
                  have hb14 := hb.trans (hb4.mono hSw)
                  have hS4 : S ≤ w4.heap.size := Nat.le_trans hSw hb4.size
                  have HSB := Box.new w4 70 (scells s8).toArray
                  have hbS := blo w4 (.cells (scells s8).toArray 70)
                  unfold scells at HSB hbS
                  go_upto_region 17 with fail
                  have HM5 := hM4.below hbS
                  have hb5 := hb14.trans (hbS.mono hS4)
                  have hS5 : S ≤ (w4.alloc (.cells #[.int .i64 s8.lang, .bool s8.num, .bool s8.wrd] 70)).heap.size := Nat.le_trans hS4 hbS.size
                  generalize w4.alloc (.cells #[.int .i64 s8.lang, .bool s8.num, .bool s8.wrd] 70) = w5 at *
                  obtain ⟨gS, hgS2⟩ : ∃ gS, Hid (w4.heap.size = gS) := ⟨_, hide rfl⟩
                  rw [hgS2.out] at HSB ⊢
                  have HXT5 : Box w5 gT 29 (tcells H) := HX1.below hb5 hgS
                  have hb5' : Below w1.heap.size w1 w5 := by rw [hS.out]; exact hb5
                  have HTT5 := HT1.below hb5'
                  have HSl5 := HS1.below hb5'
                  obtain ⟨bx, ox, hab, hbx, ex0, ex1⟩ := sy_cells HSl5 HX.out
                  subst hab
                  simp only at ex0
                  obtain ⟨qx, hqx⟩ : ∃ q, Hid (ox + j * 2 = q) := ⟨_, hide rfl⟩
                  rw [hqx.out] at ex0
                  have cx := ex0
                  obtain ⟨sl, hsl⟩ : ∃ sl, s8.lang = sl := ⟨_, rfl⟩
                  obtain ⟨B1, hB1⟩ : ∃ B1, (sl == xl) = B1 := ⟨_, rfl⟩
                  obtain ⟨B2, hB2⟩ : ∃ B2, ((τ : Int) == 0) = B2 := ⟨_, rfl⟩
                  obtain ⟨BB, hBB⟩ : ∃ BB, (B1 == B2) = BB := ⟨_, rfl⟩
                  have hcond : Hid ((decide ((stN k).lang = g) == decide (τ = 0)) = BB) := hide (by
                    rw [← hBB, ← hB1, ← hB2, ← hsl, hs8.out, ← hxg.out]
                    have e1 : (s8.lang == xl) = decide (s8.lang = xl) := by by_cases h : s8.lang = xl <;> simp [h]
                    have e2 : ((τ : Int) == 0) = decide (τ = 0) := by by_cases h : τ = 0 <;> simp [h]
                    rw [e1, e2])
                  have HSB : Box w5 gS 70 (scells s8) := HSB
                  have HSB1 : Box w5 gS 70 [.int .i64 sl, .bool s8.num, .bool s8.wrd] := by rw [← hsl]; exact HSB
                  clear hM4 hb14 hS4 hbS hb4 hM hb hSw ex0 ex1 hsl hb5' hsta
                  refine wp_region_free 10 [⟨0, 44, [44], fun vs _ => vs = [.pointer (some ⟨gS, 0, none⟩)]⟩, ⟨1, 45, [45], fun vs _ => vs = [.int .i64 sl]⟩, ⟨2, 46, [46], fun vs _ => vs = [.slice (some ⟨bx, ox, none⟩) n c]⟩, ⟨3, 47, [47], fun vs _ => vs = [.int .i64 (j : Int)]⟩, ⟨4, 48, [48], fun vs _ => vs = [.pointer (some ⟨bx, qx, none⟩)]⟩, ⟨5, 49, [49], fun vs _ => vs = [.pointer (some ⟨bx, qx, none⟩)]⟩, ⟨6, 50, [50], fun vs _ => vs = [.int .i64 xl]⟩, ⟨7, 51, [51], fun vs _ => vs = [.bool B1]⟩, ⟨8, 52, [52], fun vs _ => vs = [.int .i64 (τ : Int)]⟩, ⟨9, 53, [53], fun vs _ => vs = [.bool B2]⟩] (by kernel_rfl) (by kernel_rfl) ?_ ?_ ?_
                  · simp only [All]
                    refine ⟨fun _ _ _ _ h => h, fun _ _ _ _ h => h, fun _ _ _ _ h => h, fun _ _ _ _ h => h, fun _ _ _ _ h => h, fun _ _ _ _ h => h, fun _ _ _ _ h => h, fun _ _ _ _ h => h, fun _ _ _ _ h => h, fun _ _ _ _ h => h, trivial⟩
                  · simp only [All]
                    refine ⟨?_, ?_, ?_, ?_, ?_, ?_, ?_, ?_, ?_, ?_, trivial⟩
                    · intro o ho a' w' hb hfr hdep
                      obtain rfl := Option.some.inj ho
                      have g10 : a'.tmps[10]?.getD undef = .pointer (some ⟨gS, 0, none⟩) := by have h := hfr 10 (by kernel_rfl); simpa using h
                      clear ho hfr hdep
                      go_wp2_with fail
                      exact ⟨rfl, _, rfl, Below.refl _ _, rfl⟩
                    · intro o ho a' w' hb hfr hdep
                      obtain rfl := Option.some.inj ho
                      have g44 : a'.tmps[44]?.getD undef = .pointer (some ⟨gS, 0, none⟩) := by have h := hdep 0 _ rfl (by kernel_rfl); simpa using h
                      clear ho hfr hdep
                      have hcl := (HSB1.under hb).at_ (j := 0) rfl
                      go_wp2_with fail
                      exact ⟨rfl, _, rfl, Below.refl _ _, rfl⟩
                    · intro o ho a' w' hb hfr hdep
                      obtain rfl := Option.some.inj ho
                      have g1 : a'.tmps[1]?.getD undef = .slice (some ⟨bx, ox, none⟩) n c := by have h := hfr 1 (by kernel_rfl); simpa using h
                      clear ho hfr hdep
                      go_wp2_with fail
                      exact ⟨rfl, _, rfl, Below.refl _ _, rfl⟩
                    · intro o ho a' w' hb hfr hdep
                      obtain rfl := Option.some.inj ho
                      have g7 : a'.tmps[7]?.getD undef = .int .i64 (j : Int) := by have h := hfr 7 (by kernel_rfl); simpa using h
                      clear ho hfr hdep
                      go_wp2_with fail
                      exact ⟨rfl, _, rfl, Below.refl _ _, rfl⟩
                    · intro o ho a' w' hb hfr hdep
                      obtain rfl := Option.some.inj ho
                      have g46 : a'.tmps[46]?.getD undef = .slice (some ⟨bx, ox, none⟩) n c := by have h := hdep 2 _ rfl (by kernel_rfl); simpa using h
                      have g47 : a'.tmps[47]?.getD undef = .int .i64 (j : Int) := by have h := hdep 3 _ rfl (by kernel_rfl); simpa using h
                      clear ho hfr hdep
                      refine index_rowk 48 31 _ _ 88 Try.underlying31 2 size_sym bx ox n c (by show a'.tmps.getD 46 undef = _; simpa using g46) _ _ j (by show a'.tmps.getD 47 undef = _; simpa using g47) rfl hjn ?_
                      rw [hqx.out]
                      exact ⟨rfl, _, rfl, Below.refl _ _, rfl⟩
                    · intro o ho a' w' hb hfr hdep
                      obtain rfl := Option.some.inj ho
                      have g48 : a'.tmps[48]?.getD undef = .pointer (some ⟨bx, qx, none⟩) := by have h := hdep 4 _ rfl (by kernel_rfl); simpa using h
                      clear ho hfr hdep
                      go_wp2_with fail
                      exact ⟨rfl, _, rfl, Below.refl _ _, rfl⟩
                    · intro o ho a' w' hb hfr hdep
                      obtain rfl := Option.some.inj ho
                      have g49 : a'.tmps[49]?.getD undef = .pointer (some ⟨bx, qx, none⟩) := by have h := hdep 5 _ rfl (by kernel_rfl); simpa using h
                      clear ho hfr hdep
                      have hcl := cell_below cx hb
                      go_wp2_with fail
                      exact ⟨rfl, _, rfl, Below.refl _ _, rfl⟩
                    · intro o ho a' w' hb hfr hdep
                      obtain rfl := Option.some.inj ho
                      have g45 : a'.tmps[45]?.getD undef = .int .i64 sl := by have h := hdep 1 _ rfl (by kernel_rfl); simpa using h
                      have g50 : a'.tmps[50]?.getD undef = .int .i64 xl := by have h := hdep 6 _ rfl (by kernel_rfl); simpa using h
                      clear ho hfr hdep
                      go_wp2_with fail
                      exact ⟨rfl, _, rfl, Below.refl _ _, rfl⟩
                    · intro o ho a' w' hb hfr hdep
                      obtain rfl := Option.some.inj ho
                      have g8 : a'.tmps[8]?.getD undef = .int .i64 (τ : Int) := by have h := hfr 8 (by kernel_rfl); simpa using h
                      clear ho hfr hdep
                      go_wp2_with fail
                      exact ⟨rfl, _, rfl, Below.refl _ _, rfl⟩
                    · intro o ho a' w' hb hfr hdep
                      obtain rfl := Option.some.inj ho
                      have g52 : a'.tmps[52]?.getD undef = .int .i64 (τ : Int) := by have h := hdep 8 _ rfl (by kernel_rfl); simpa using h
                      clear ho hfr hdep
                      go_wp2_with fail
                      exact ⟨rfl, _, rfl, Below.refl _ _, rfl⟩
                  · intro gg w6 hbl hp'
                    have p51 := hp' 7 _ rfl
                    have p53 := hp' 9 _ rfl
                    clear hp'
                    simp at p51 p53
                    simp only [List.drop_succ_cons, List.drop_zero, List.map_cons, List.map_nil, putAll, Act.put, List.setIfInBounds_toArray, List.set_cons_succ, List.set_cons_zero, List.cons_append, List.nil_append, p51, p53]
                    clear p51 p53
                    have HM6 := HM5.below hbl
                    have HSB6 := HSB.under hbl
                    have HXT6 := HXT5.under hbl
                    have HTT6 := HTT5.below hbl
                    have HSl6 := HSl5.below hbl
                    have hb6 := hb5.trans (hbl.mono (by omega))
                    have hS6 : S ≤ w6.heap.size := Nat.le_trans hS5 hbl.size
                    clear HM5 HSB HSB1 HXT5 HTT5 HSl5 hb5 hS5 hbl cx
                    cases BB with
                    | true =>
                      have hng := HM6.ng hRd.out.r8
                      rw [HBS.out] at hng
                      have hbest := hide (ref8_best H t l (some ⟨bx, ox, none⟩) n c s8 A _ a4 (n + 1) c4 j w6 HTT6 HSl6 hng (by rw [← hnl.out]; exact hjn) HV.out HG.out h2048' (by rw [← hs8.out]; exact stN_lang k hk8) (by rw [hRd.out.len]) hRd.out.r8 hRd.out.bd)
                      obtain ⟨⟨LI, LV⟩, hLI⟩ : ∃ q : Int × Int, Hid (leastF (lookA A j) (stepsL t s8 l j) = q) := ⟨_, hide rfl⟩
                      rw [hLI.out] at hbest
                      go_upto_region 19 with (first
                        | (with_reducible refine load_struct 56 29 _ 7 size_tables _ Try.underlying29 ⟨gT, 0, none⟩ rfl (tcells H) rfl (fun j u hj => by rw [Addr.add_lit, Nat.zero_add]; exact HXT6.at_ hj) ?_)
                        | (with_reducible refine load_struct 59 70 _ 3 size_rst _ Try.underlying70 ⟨gS, 0, none⟩ rfl (scells s8) rfl (fun j u hj => by rw [Addr.add_lit, Nat.zero_add]; exact HSB6.at_ hj) ?_)
                        | (go_at_call 43; refine hbest.out.mono ?_; rintro e w7 ⟨rfl, hb7⟩))
                      have HM7 := HM6.below hb7
                      have hb17 := hb6.trans (hb7.mono hS6)
                      have hS7 : S ≤ w7.heap.size := Nat.le_trans hS6 hb7.size
                      clear HM6 HSB6 HXT6 HTT6 HSl6 hb6 hS6 hb7 hbest hng
                      obtain ⟨b8, hb8⟩ : ∃ b, bs[j]? = some b := ⟨_, List.getElem?_eq_getElem (by rw [HBS.out]; omega)⟩
                      have hAl : A.length = n + 1 := by rw [hRd.out.len, ← hnl.out]
                      obtain ⟨r, hr⟩ : ∃ r, A[j]? = some r := ⟨_, List.getElem?_eq_getElem (by omega)⟩
                      have hr8 := hRd.out.r8 r (List.mem_of_getElem? hr)
                      have hbox := HM7.row j b8 r hb8 hr
                      have hhd : (bs.map hdB)[j]? = some (.slice (some ⟨b8, 0, none⟩) 8 8) := by rw [List.getElem?_map, hb8]; rfl
                      have htop := HM7.top.sl
                      rw [HBS.out] at htop
                      have hrl : k < (rowc r).length := by unfold rowc; rw [List.length_map, hr8]; exact hk8
                      have HRJ := hide hr
                      have HBJ := hide hb8
                      clear hr hb8 hr8 hAl
                      go_wp2_with (first
                        | (with_reducible refine idx_ii 66 _ _ a4 (n + 1) c4 _ rfl htop _ _ j rfl rfl _ hhd ?_; intro bI oI hcI hbI)
                        | (with_reducible refine index_known 70 22 _ _ 3 Try.underlying22 size_int b8 8 8 rfl _ _ k rfl rfl hk8 ?_)
                        | (with_reducible refine hold_store ?_))
                      refine hide ?_
                      refine store_cell 3 _ _ 3 b8 k _ (.int .i64 LV) size_int hbox rfl rfl rfl rfl hrl ?_; intro w8 HB8 gb8 zb8
                      have HB8' : Box w8 b8 3 (rowc (r.set k LV)) := by rw [← rowc_set]; exact HB8
                      have HM8 := HM7.set (by decide) HBJ.out HRJ.out HB8' gb8
                      rw [cell_upd (t := t) (l := l) hRd.out.r8 HRJ.out LV (by rw [hs8.out, hLI.out])] at HM8
                      have HM9 : Hid (RwM w8 22 3 S bs (turnU t l j g τ (k + 1) (stgT t l j g A0 τ)) a4 c4) := hide (by
                        simp only [turnU]
                        rw [if_pos (by rw [hcond.out]), hAe.out]
                        exact HM8)
                      have hbS : S ≤ b8 := HM7.fresh b8 (List.mem_of_getElem? HBJ.out)
                      have hb18 := hb17.grown gb8 hS7 (fun q hq => by cases hq; exact hbS)
                      have hS8 : S ≤ w8.heap.size := Nat.le_trans hS7 gb8.size
                      clear HM7 hbox hhd htop hrl HB8 HB8' HM8 gb8 zb8 hb17 hS7
                      go_wp2_with fail
                      go_roundg (8 - (k + 1))
                      case measure => omega
                      case rel => exact ⟨k + 1, by omega, rfl, by go_num, HM9.out, hb18, hS8⟩
                    | false =>
                      go_wp2_with fail
                      go_roundg (8 - (k + 1))
                      case measure => omega
                      case rel => exact ⟨k + 1, by omega, rfl, by go_num, by
                        simp only [turnU]
                        rw [if_neg (by rw [hcond.out]; simp), hAe.out]
                        exact HM6, hb6, hS6⟩
                · obtain rfl : k = 8 := by omega
                  go_wp2_with fail
                  go_roundg (2 - (τ + 1))
                  case measure => omega
                  case rel => exact ⟨τ + 1, by omega, rfl, by go_num, hM, hb, hSw⟩
            · obtain rfl : τ = 2 := by omega
              go_wp2_with fail
              go_roundg j
              case measure => omega
              case rel => exact ⟨j, by omega, rfl, rfl, by rw [hP.out, hsuf.out]; exact hM, hb, hSw⟩
end Go.Proofs.Ytlpkicjijlcbfaa
end

/- the text E4 -/
section
/- Chapter 08: the reference's Translate. -/
set_option linter.unusedVariables false
namespace Go.Proofs.Ytlpkicjijlcbfaa
open Go.RowKit Go.Dx Go.Al
theorem RwM.ngX {ct tt ti : TypeId} {W W' : World} {B : Nat} {bs : List Nat} {A : Nums} {a3 : Option Addr} {c3 : Nat} (h : RwM W tt ti B bs A a3 c3) (hk : KeepsX ct W W') (h1 : tt ≠ ct) (h2 : ti ≠ ct) (h8 : R8 A) : Ng W' a3 bs.length c3 (bs.map fun b => ((some ⟨b, 0, none⟩ : Option Addr), 8, 8)) A := by
  refine ⟨?_, by rw [List.length_map, h.len], fun i x r hx hr => ?_⟩
  · have h3 := Sl.keepX h.top.sl h.top.typ hk h1
    rw [List.map_map]
    exact h3
  · rw [List.getElem?_map] at hx
    cases hb : bs[i]? with
    | none => rw [hb] at hx; cases hx
    | some b =>
      rw [hb] at hx
      injection hx with hx
      subst hx
      have h3 : Box W' b ti (rowc r) := hk _ _ _ _ (h.row i b r hb hr) h2
      have h4 := h8 r (List.mem_of_getElem? hr)
      exact ⟨by simp [h4], Nat.le_refl _, by unfold maxLen; show 8 ≤ _; decide, fun e => (by cases e), fun p hp j u hj => by
        injection hp with hp
        subst hp
        rw [Addr.add_lit, Nat.zero_add]
        exact h3.at_ hj⟩
theorem size_rcert : (Try.prog.info? 43).map (·.size) = some 3 := by kernel_rfl
theorem trCKA0 {t : Ta} {l : List Sy} (h : trE t l ≠ 0) : trC t l = [] ∧ trK t l = [] ∧ trA t l = [] := by
  unfold trC trK trA
  rw [if_neg h, if_neg h, if_neg h]
  exact ⟨rfl, rfl, rfl⟩
set_option maxRecDepth 100000 in
set_option maxHeartbeats 16000000 in
theorem ref8_Translate (H : TH) (t : Ta) (l : List Sy) (a : Option Addr) (n c : Nat) (w : World) (hT : TaIs w H t) (hs : Sl w 2 a n c (l.flatMap sc)) :
    Calls Try.prog 14 #[H.v, .slice a n c] w fun e w' => (∃ v, e = .returned (.tuple #[v, .int .i64 (trE t l)]) ∧ CeT 43 w' v (trC t l) (trK t l) (trA t l)) ∧ Below w.heap.size w w' := by
  have Hm := hide hT
  have Hs := hide hs
  clear hT hs
  obtain ⟨⟨a0, n0, c0⟩, ⟨a1, n1, c1⟩, ps0, ps1, ⟨ad, nd, cd⟩, ⟨ac, nc, cc⟩, ⟨an, nn, cn⟩, ⟨af, nf, cf⟩, ⟨aw, nw, cw⟩⟩ := H
  unfold TH.v
  simp only [hdv]
  have Y1 := (Box.new w 29 #[.slice a0 n0 c0, .slice a1 n1 c1, .slice ad nd cd, .slice ac nc cc, .slice an nn cn, .slice af nf cf, .slice aw nw cw]).alloc (.cells #[.slice none 0 0, .slice none 0 0, .slice none 0 0] 43)
  have Y2 := Box.new (w.alloc (.cells #[.slice a0 n0 c0, .slice a1 n1 c1, .slice ad nd cd, .slice ac nc cc, .slice an nn cn, .slice af nf cf, .slice aw nw cw] 29)) 43 #[.slice none 0 0, .slice none 0 0, .slice none 0 0]
  have hba := ((Below.refl w.heap.size w).alloc (Nat.le_refl _) (.cells #[.slice a0 n0 c0, .slice a1 n1 c1, .slice ad nd cd, .slice ac nc cc, .slice an nn cn, .slice af nf cf, .slice aw nw cw] 29)).alloc (by simp) (.cells #[.slice none 0 0, .slice none 0 0, .slice none 0 0] 43)
  simp only [World.size_alloc] at Y2
  go_enter Try.func14, Try.ntmps14
  go_upto_region 1 with fail
  generalize (w.alloc (.cells _ 29)).alloc (.cells _ 43) = w1 at *
  obtain ⟨H, hH⟩ : ∃ H : TH, H = ⟨(a0, n0, c0), (a1, n1, c1), ps0, ps1, (ad, nd, cd), (ac, nc, cc), (an, nn, cn), (af, nf, cf), (aw, nw, cw)⟩ := ⟨_, rfl⟩
  have HX1 : Box w1 w.heap.size 29 (tcells H) := by rw [hH]; exact Y1
  have HC1 : Box w1 (w.heap.size + 1) 43 [.slice none 0 0, .slice none 0 0, .slice none 0 0] := Y2
  have HT1 : TaIs w1 H t := by rw [hH]; exact Hm.out.below hba
  have HS1 := Hs.out.below hba
  clear hH Hm Hs Y1 Y2
  obtain ⟨gT, hgT⟩ : ∃ gT, Hid (w.heap.size = gT) := ⟨_, hide rfl⟩
  obtain ⟨gR, hgR⟩ : ∃ gR, Hid (w.heap.size + 1 = gR) := ⟨_, hide rfl⟩
  rw [hgR.out] at HC1 ⊢
  rw [hgT.out] at HX1 ⊢
  have hgwR : w.heap.size ≤ gR := by rw [← hgR.out]; omega
  have hfit := hide (ref8_Fits H t l a n c w1 HT1 HS1)
  obtain ⟨FE, hFE⟩ : ∃ FE, Hid (fitsE t l = FE) := ⟨_, hide rfl⟩
  rw [hFE.out] at hfit
  obtain ⟨TX, hTX⟩ : ∃ X, Hid (trE t l = X) := ⟨_, hide rfl⟩
  go_wp2_with (first
    | (with_reducible refine load_struct 14 29 _ 7 size_tables _ Try.underlying29 ⟨gT, 0, none⟩ rfl (tcells H) rfl (fun j u hj => by rw [Addr.add_lit, Nat.zero_add]; exact HX1.at_ hj) ?_)
    | (go_at_call 41; refine hfit.out.mono ?_; rintro e w2 ⟨rfl, hb2⟩; refine hold ?_))
  refine hide ?_
  have HC2 := HC1.under hb2
  have HX2 := HX1.under hb2
  have HT2 := HT1.below hb2
  have HS2 := HS1.below hb2
  have hbl2 := hba.trans (hb2.mono hba.size)
  clear HC1 HX1 HT1 HS1 hba hb2 hfit
  by_cases hfe : FE = 0
  · subst hfe
    obtain ⟨hv, hg, h2048⟩ := fitsE_ok hFE.out
    have HV := hide hv
    have HG := hide hg
    have H2 := hide h2048
    have hnl : n = l.length := HS2.nf sc_len (by decide)
    have HNL := hide hnl
    have hn20 : n ≤ 2048 := by omega
    clear hv hg h2048 hnl
    have hnum := hide (ref8_Numbers H t l a n c w2 HT2 HS2 HV.out HG.out H2.out)
    go_upto_region 5 with (first
      | (with_reducible refine load_struct 21 29 _ 7 size_tables _ Try.underlying29 ⟨gT, 0, none⟩ rfl (tcells H) rfl (fun j u hj => by rw [Addr.add_lit, Nat.zero_add]; exact HX2.at_ hj) ?_)
      | (go_at_call 42; refine hnum.out.mono ?_; rintro e w3 ⟨bs, aA, cA, rfl, HM3, hb3⟩))
    have HC3 := HC2.under hb3
    have HX3 := HX2.under hb3
    have HT3 := HT2.below hb3
    have HS3 := HS2.below hb3
    have hbl3 := hbl2.trans (hb3.mono hbl2.size)
    have hbsl : bs.length = n + 1 := by rw [HM3.len, numT_len, HNL.out]
    have hng3 := HM3.ng (sufT_rows t l _)
    rw [hbsl] at hng3
    clear HC2 HX2 HT2 HS2 hbl2 hb3 hnum
    obtain ⟨NV, hNV⟩ : ∃ NV, Hid (numV t l = NV) := ⟨_, hide rfl⟩
    obtain ⟨r0, hr0⟩ : ∃ r, (numT t l)[0]? = some r := ⟨_, List.getElem?_eq_getElem (by rw [numT_len]; omega)⟩
    have hr08 := sufT_rows t l l.length r0 (List.mem_of_getElem? hr0)
    obtain ⟨b0, hb0⟩ : ∃ b, bs[0]? = some b := ⟨_, List.getElem?_eq_getElem (by omega)⟩
    have hbox0 := HM3.row 0 b0 r0 hb0 hr0
    have hu0 : ((bs.map fun b => ((some ⟨b, 0, none⟩ : Option Addr), 8, 8)).map hdv)[0]? = some (.slice (some ⟨b0, 0, none⟩) 8 8) := by rw [List.map_map, List.getElem?_map, hb0]; rfl
    have hc0 : w3.cell? ⟨b0, 0, none⟩ = some (.int .i64 NV) := hbox0.at_ (by
      have h1 : (rowc r0)[0]? = some (I64 (numV t l)) := by
        have h := num_cell0 t l
        have h2 := nf_get (numT t l) (sufT_rows t l _) hr0 (n := 0) (v := r0[0]'(by omega)) (List.getElem?_eq_getElem _)
        rw [Nat.zero_mul, Nat.zero_add] at h2
        rw [h2] at h
        injection h with h
        unfold rowc
        rw [List.getElem?_map, List.getElem?_eq_getElem (by omega : 0 < r0.length)]
        exact congrArg some h
      rw [hNV.out] at h1
      exact h1)
    have htop := hng3.top
    clear hbox0 hr0 hb0 hr08
    by_cases hnv : NV < 0
    · have d1 : decide (NV < 0) = true := decide_eq_true hnv
      have e1 : TX = 6 := by rw [← hTX.out]; unfold trE; rw [hFE.out, if_neg (by simp), hNV.out, if_pos hnv]
      subst e1
      go_wp2_with (first
        | (with_reducible refine idx_ii 25 _ _ aA (n + 1) cA _ rfl htop _ _ 0 rfl rfl _ hu0 ?_; intro bI oI hcI hbI)
        | (with_reducible refine index_known 27 22 _ _ 3 Try.underlying22 size_int b0 8 8 rfl _ _ 0 rfl rfl (by decide) ?_)
        | (with_reducible refine hold_store ?_))
      refine hide ?_
      refine store_all 43 _ _ 43 gR [.slice none 0 0, .slice none 0 0, .slice none 0 0] [.slice none 0 0, .slice none 0 0, .slice none 0 0] _ size_rcert HC3 rfl rfl rfl rfl (by simp [Value.oneCell']) ?_; intro w4 HC4 gb4 zb4
      go_wp2_with fail
      refine bodyPost_ret (res_cell2 (u := 5) rfl _ _ gR _ _ _ _ rfl HC4 Try.underlying43 rfl (by rw [size_rcert]; rfl)) rfl ⟨⟨_, by rw [hTX.out]; rfl, by obtain ⟨k1, k2, k3⟩ := trCKA0 (t := t) (l := l) (by rw [hTX.out]; decide); rw [k1, k2, k3]; exact CeT.nil _ _⟩, hbl3.grown gb4 hbl3.size (fun q hq => by cases hq; exact hgwR)⟩
    · have d1 : decide (NV < 0) = false := decide_eq_false hnv
      have e1 : TX = 0 := by rw [← hTX.out]; unfold trE; rw [hFE.out, if_neg (by simp), hNV.out, if_neg hnv]
      subst e1
      have hcE : Hid (trC t l = cellsP (pathT t l)) := hide (by unfold trC; rw [if_pos hTX.out])
      have hkE : Hid (trK t l = takenP (pathT t l)) := hide (by unfold trK; rw [if_pos hTX.out])
      have hAE : Hid (trA t l = numT t l) := hide (by unfold trA; rw [if_pos hTX.out])
      go_upto_region 7 with (first
        | (with_reducible refine idx_ii 25 _ _ aA (n + 1) cA _ rfl htop _ _ 0 rfl rfl _ hu0 ?_; intro bI oI hcI hbI)
        | (with_reducible refine index_known 27 22 _ _ 3 Try.underlying22 size_int b0 8 8 rfl _ _ 0 rfl rfl (by decide) ?_))
      clear hcI hbI htop hu0 hc0
      obtain ⟨S, hS⟩ : ∃ S, Hid (w3.heap.size = S) := ⟨_, hide rfl⟩
      have hC5 := (Box.new w3 43 #[.slice none 0 0, .slice none 0 0, .slice aA (n + 1) cA]).alloc (.cells #[.int .i64 0, .bool false, .bool false] 70)
      have hZ5 := Box.new (w3.alloc (.cells #[.slice none 0 0, .slice none 0 0, .slice aA (n + 1) cA] 43)) 70 #[.int .i64 0, .bool false, .bool false]
      have hb5 := ((Below.refl w3.heap.size w3).alloc (Nat.le_refl _) (.cells #[.slice none 0 0, .slice none 0 0, .slice aA (n + 1) cA] 43)).alloc (by simp) (.cells #[.int .i64 0, .bool false, .bool false] 70)
      have hs5 : ((w3.alloc (.cells #[.slice none 0 0, .slice none 0 0, .slice aA (n + 1) cA] 43)).alloc (.cells #[.int .i64 0, .bool false, .bool false] 70)).heap.size = w3.heap.size + 1 + 1 := by simp
      simp only [World.size_alloc] at hZ5
      go_upto_region 9 with fail
      generalize (w3.alloc (.cells _ 43)).alloc (.cells _ 70) = w5 at *
      obtain ⟨gZ, hgZ⟩ : ∃ g, Hid (w3.heap.size + 1 = g) := ⟨_, hide rfl⟩
      rw [hgZ.out] at hZ5 hs5 ⊢
      rw [hS.out] at hC5 hb5 ⊢
      have hSZ : gZ = S + 1 := by rw [← hgZ.out, hS.out]
      have hS5 : gZ + 1 ≤ w5.heap.size := by omega
      have hgTS : gT < S := by rw [← hS.out]; exact HX3.lt
      have hgRS : gR < S := by rw [← hS.out]; exact HC3.lt
      have hv0 : 0 ≤ valA (numT t l) 0 s00 := by have h := hNV.out; unfold numV at h; rw [h]; omega
      have hSl : S < gZ := by omega
      clear hs5 hSZ
      go_wp2_with fail
      go_loopg [10] (measP l 0 s00) (fun gh v10 w' => ∃ (i : Nat) (s : St) (o1 o2 : Option Addr) (k1 k2 x1 x2 : Nat) (pre : List (Stp × Int)) (f : Nat), gh = measP l i s ∧ v10 = .int .i64 (i : Int) ∧ i ≤ n ∧ (s.lang = 0 ∨ s.lang = 1) ∧ Box w' S 43 [.slice o1 k1 x1, .slice o2 k2 x2, .slice aA (n + 1) cA] ∧ Box w' gZ 70 (scells s) ∧ Go.Dx.Own w' (gZ + 1) 5 1 o1 k1 x1 ((cellsP pre).map B8) ∧ Go.Dx.Own w' (gZ + 1) 3 1 o2 k2 x2 ((takenP pre).map I64) ∧ Below S w3 w' ∧ gZ + 1 ≤ w'.heap.size ∧ k1 + 12 * measP l i s ≤ 12 * (2 * n + 1) ∧ k2 + measP l i s ≤ 2 * n + 1 ∧ measP l i s ≤ f ∧ 0 ≤ valA (numT t l) i s ∧ pathT t l = pre ++ goP t l (numT t l) f i s)
      case atStart => exact ⟨0, s00, none, none, 0, 0, 0, 0, [], 2 * l.length + 1, rfl, rfl, Nat.zero_le _, .inl rfl, hC5, hZ5, Go.Dx.Own.nil _ _ _ _, Go.Dx.Own.nil _ _ _ _, hb5, hS5, by have := meas_le (l := l) (i := 0) (s := s00); have := HNL.out; omega, by have := meas_le (l := l) (i := 0) (s := s00); have := HNL.out; omega, by have := meas_le (l := l) (i := 0) (s := s00); omega, hv0, rfl⟩
      case round =>
        clear hC5 hZ5 hb5 hS5 hv0
        obtain ⟨i, s, o1, o2, k1, k2, x1, x2, pre, f, hgh, rfl, hi, hsl, hC, hZ, hO1, hO2, hb, hSw, hm1, hm2, hf, hval, hpath⟩ := hrel
        have HGH := hide hgh
        have HM1 := hide hm1
        have HM2 := hide hm2
        have HF := hide hf
        have HVL := hide hval
        have HPT := hide hpath
        clear hgh hm1 hm2 hf hval hpath
        have hb' : Below w3.heap.size w3 wr := by rw [hS.out]; exact hb
        by_cases hin : i < n
        · have d2 : decide ((i : Int) < (n : Int)) = true := decide_eq_true (by omega)
          have hinl : i < l.length := by have := HNL.out; omega
          have HXr : Box wr gT 29 (tcells H) := HX3.below hb hgTS
          have HTr := HT3.below hb'
          have HSr := HS3.below hb'
          have hngr := hng3.below hb'
          obtain ⟨L, hL⟩ : ∃ L, Hid (stepsL t s l i = L) := ⟨_, hide rfl⟩
          have hbest := hide (ref8_best H t l a n c s (numT t l) _ aA (n + 1) cA i wr HTr HSr hngr hinl HV.out HG.out H2.out hsl (numT_len t l) (sufT_rows t l _) (bd_num t l HV.out H2.out))
          obtain ⟨x, h0, hx1, hx2, hx3⟩ := best_step HV.out HG.out hinl hsl HVL.out
          rw [hL.out] at hbest hx1 h0
          obtain ⟨⟨LI, LV⟩, hLI⟩ : ∃ q : Int × Int, Hid (leastF (lookA (numT t l) i) L = q) := ⟨_, hide rfl⟩
          rw [hLI.out] at hbest hx1 h0
          simp only at hx1 h0
          obtain ⟨k, hk⟩ : ∃ k : Nat, LI = (k : Int) := ⟨LI.toNat, by omega⟩
          subst hk
          simp only [Int.toNat_natCast] at hx1
          go_upto_region 12 with (first
            | (with_reducible refine load_struct 38 29 _ 7 size_tables _ Try.underlying29 ⟨gT, 0, none⟩ rfl (tcells H) rfl (fun j u hj => by rw [Addr.add_lit, Nat.zero_add]; exact HXr.at_ hj) ?_)
            | (with_reducible refine load_struct 41 70 _ 3 size_rst _ Try.underlying70 ⟨gZ, 0, none⟩ rfl (scells s) rfl (fun j u hj => by rw [Addr.add_lit, Nat.zero_add]; exact hZ.at_ hj) ?_)
            | (go_at_call 43; refine hbest.out.mono ?_; rintro e w6 ⟨rfl, hb6⟩))
          have hC6 := hC.under hb6
          have hZ6 := hZ.under hb6
          have hO16 := hO1.below hb6
          have hO26 := hO2.below hb6
          have hb36 := hb.trans (hb6.mono (by omega))
          have hS6 : gZ + 1 ≤ w6.heap.size := Nat.le_trans hSw hb6.size
          have HX6 := HXr.under hb6
          have HT6 := HTr.below hb6
          have HS6 := HSr.below hb6
          clear HXr HTr HSr hngr hC hZ hO1 hO2 hb hSw hb6 hb' hbest
          have hstp := hide (rsteps_of8 H t s l (i : Int) hL.out a n c (by have := H2.out; omega) w6 HT6 HS6)
          obtain ⟨LN, hLN⟩ : ∃ LN, L.length = LN := ⟨_, rfl⟩
          rw [hLN] at hstp
          have HLN := hide hLN
          have hkLN : k < LN := by rw [← hLN]; exact (List.getElem?_eq_some_iff.1 hx1).1
          have hLN6 : LN ≤ 1000000 := by rw [← hLN, ← hL.out]; exact steps_few HV.out s l i
          have hxm : x ∈ stepsL t s l i := by rw [hL.out]; exact List.mem_of_getElem? hx1
          have hst := step_meas HV.out HG.out hinl hsl hxm
          have hcf := step_cells HV.out hxm
          have HX23 := hide (And.intro hx2 hx3)
          have HX1' := hide hx1
          clear hLN hxm hx2 hx3
          go_wp2_with (first
            | (with_reducible refine load_struct 46 29 _ 7 size_tables _ Try.underlying29 ⟨gT, 0, none⟩ rfl (tcells H) rfl (fun j u hj => by rw [Addr.add_lit, Nat.zero_add]; exact HX6.at_ hj) ?_)
            | (with_reducible refine load_struct 47 70 _ 3 size_rst _ Try.underlying70 ⟨gZ, 0, none⟩ rfl (scells s) rfl (fun j u hj => by rw [Addr.add_lit, Nat.zero_add]; exact hZ6.at_ hj) ?_)
            | (go_at_call 44; refine hstp.out.mono ?_; rintro e w7 ⟨a2, c2, ps2, rfl, hS7, hb7⟩; refine hold ?_))
          refine hide ?_
          have hC7 := hC6.under hb7
          have hZ7 := hZ6.under hb7
          have hO17 := hO16.below hb7
          have hO27 := hO26.below hb7
          have hb37 := hb36.trans (hb7.mono (by omega))
          have hSz7 : gZ + 1 ≤ w7.heap.size := Nat.le_trans hS6 hb7.size
          clear hC6 hZ6 hO16 hO26 hb36 hS6 HX6 HT6 HS6 hb7 hstp
          obtain ⟨p, hpk, hpx⟩ : ∃ p, ps2[k]? = some p ∧ p.1 = x := by
            have h1 := hx1
            rw [← hS7.eq, List.getElem?_map] at h1
            cases h2 : ps2[k]? with
            | none => rw [h2] at h1; cases h1
            | some p => rw [h2] at h1; injection h1 with h1; exact ⟨p, rfl, h1⟩
          obtain ⟨b4, o4, hab, hb4', z0, z1, z2, z3, z4, z5⟩ := st_cells hS7 hpk
          subst hab
          have hslc := hS7.row p (List.mem_of_getElem? hpk)
          have hpn := hslc.n_eq
          obtain ⟨⟨⟨sl, sn, si⟩, lnn, cs, ru⟩, ⟨qa, qn, qc⟩⟩ := p
          simp only at z0 z1 z2 z3 z4 z5 hslc hpn hpx
          subst hpx
          simp only at hst hcf
          obtain ⟨lk, rfl⟩ : ∃ lk : Nat, lnn = (lk : Int) := ⟨lnn.toNat, by have := hst.2.2.2; omega⟩
          simp only [Int.toNat_natCast] at hst
          have hil : i + lk ≤ n := by have := HNL.out; omega
          have hqn12 : qn ≤ 12 := by omega
          have hk16 : k1 ≤ 50000 := by have := HM1.out; omega
          have hk26 : k2 ≤ 50000 := by have := HM2.out; omega
          have HPN := hide hpn
          have HST := hide hst
          have hldc : ∀ j u, ([.int .i64 sl, .bool sn, .bool si, .int .i64 (lk : Int), .slice qa qn qc, .int .i64 ru] : List Value)[j]? = some u → w7.cell? ((⟨b4, o4 + k * 6, none⟩ : Addr).add j) = some u := fun j u hj => by
            rw [Addr.add_lit]
            match j, hj with
            | 0, hj => cases hj; exact z0
            | 1, hj => cases hj; exact z1
            | 2, hj => cases hj; exact z2
            | 3, hj => cases hj; exact z3
            | 4, hj => cases hj; exact z4
            | 5, hj => cases hj; exact z5
            | j + 6, hj => cases hj
          have HLD := hide hldc
          have HP8 := Box.new w7 103 #[.int .i64 sl, .bool sn, .bool si, .int .i64 (lk : Int), .slice qa qn qc, .int .i64 ru]
          have hb78 := blo w7 (.cells #[.int .i64 sl, .bool sn, .bool si, .int .i64 (lk : Int), .slice qa qn qc, .int .i64 ru] 103)
          clear hldc z0 z1 z2 z3 z4 z5 hpk hpn hst hcf hS7 hx1 h0
          go_upto_region 13 with (first
            | (with_reducible refine index_rowk 52 104 _ _ 103 Try.underlying104 6 size_rf6 b4 o4 LN c2 rfl _ _ k rfl rfl hkLN ?_)
            | (with_reducible refine load_struct 53 103 _ 6 size_rf6 _ Try.underlying103 ⟨b4, o4 + k * 6, none⟩ rfl [.int .i64 sl, .bool sn, .bool si, .int .i64 (lk : Int), .slice qa qn qc, .int .i64 ru] rfl HLD.out ?_)
            | (with_reducible refine store_fresh 103 103 _ _ 6 size_rf6 _ rfl (.agg #[.int .i64 sl, .bool sn, .bool si, .int .i64 (lk : Int), .slice qa qn qc, .int .i64 ru]) [.int .i64 sl, .bool sn, .bool si, .int .i64 (lk : Int), .slice qa qn qc, .int .i64 ru] rfl rfl rfl rfl (by simp [Value.oneCell']) ?_))
          generalize w7.alloc (.cells _ 103) = w8 at *
          obtain ⟨gP, hgP⟩ : ∃ g, Hid (w7.heap.size = g) := ⟨_, hide rfl⟩
          rw [hgP.out] at HP8 ⊢
          have HP8 : Box w8 gP 103 [.int .i64 sl, .bool sn, .bool si, .int .i64 (lk : Int), .slice qa qn qc, .int .i64 ru] := HP8
          have hC8 := hC7.under hb78
          have hZ8 := hZ7.under hb78
          have hO18 := hO17.below hb78
          have hO28 := hO27.below hb78
          have hsl8 := hslc.below hb78
          have hb38 := hb37.trans (hb78.mono (by omega))
          have hS8 : gZ + 1 ≤ w8.heap.size := Nat.le_trans hSz7 hb78.size
          have hgP8 : gZ + 1 ≤ gP := by rw [← hgP.out]; exact hSz7
          have cC0 : w8.cell? ⟨S, 0, none⟩ = some (.slice o1 k1 x1) := hC8.at_ rfl
          have cP4 : w8.cell? ⟨gP, 4, none⟩ = some (.slice qa qn qc) := HP8.at_ rfl
          clear hC7 hZ7 hO17 hO27 hslc hb37 hSz7 hb78 HLD
          go_wp2_with (first
            | (at_builtin; refine app_bs rfl _ _ rfl w8 (gZ + 1) o1 k1 x1 _ rfl hO18 qa qn qc cs rfl hsl8 (by omega) hS8 (Below.refl _ _) ?_; intro o1' x1' w9 hO19 gb9 hb9; refine hold ?_))
          refine hide ?_
          have hC9 := hC8.grown gb9 (own_lt hO18 (by omega))
          have hZ9 := hZ8.grown gb9 (own_lt hO18 (by omega))
          have hP9 := HP8.grown gb9 (own_box hO18 HP8 (by decide))
          have hO29 := hO28.kept gb9 (fun p hp => by subst hp; exact far_map hO28 hO18 (by decide))
          have hb39 := hb38.grown gb9 (by omega) (fun q hq => by have := own_ge hO18 q hq; omega)
          have hS9 : gZ + 1 ≤ w9.heap.size := Nat.le_trans hS8 gb9.size
          clear hC8 hZ8 HP8 hO18 hO28 hsl8 hb38 hS8 cC0 cP4 gb9 hb9
          go_wp2_with (with_reducible refine hold_store ?_)
          refine hide ?_
          refine store_cell 27 _ _ 43 S 0 _ (.slice o1' (k1 + qn) x1') size_row hC9 rfl rfl rfl rfl (by simp) ?_; intro w10 hC10 gb10 zb10
          have hC10 : Box w10 S 43 [.slice o1' (k1 + qn) x1', .slice o2 k2 x2, .slice aA (n + 1) cA] := hC10
          have hZ10 := hZ9.grown gb10 (by intro e; injection e with e; omega)
          have hP10 := hP9.grown gb10 (by intro e; injection e with e; omega)
          have hO110 := hO19.keptK gb10 (by omega)
          have hO210 := hO29.keptK gb10 (by omega)
          have hb310 := hb39.grown gb10 (by omega) (fun q hq => by cases hq; exact Nat.le_refl _)
          have hS10 : gZ + 1 ≤ w10.heap.size := Nat.le_trans hS9 gb10.size
          have cC1 : w10.cell? ⟨S, 1, none⟩ = some (.slice o2 k2 x2) := hC10.at_ rfl
          clear hC9 hZ9 hP9 hO19 hO29 hb39 hS9 gb10 zb10
          go_wp2_with (first
            | (at_builtin; refine app_i rfl _ _ rfl w10 (gZ + 1) o2 k2 x2 _ rfl hO210 (k : Int) rfl (by omega) hS10 (Below.refl _ _) ?_; intro o2' x2' w11 hO211 gb11 hb11; refine hold ?_))
          refine hide ?_
          have hC11 := hC10.grown gb11 (own_lt hO210 (by omega))
          have hZ11 := hZ10.grown gb11 (own_lt hO210 (by omega))
          have hP11 := hP10.grown gb11 (own_box hO210 hP10 (by decide))
          have hO111 := hO110.kept gb11 (fun p hp => by subst hp; exact far_map hO110 hO210 (by decide))
          have hb311 := hb310.grown gb11 (by omega) (fun q hq => by have := own_ge hO210 q hq; omega)
          have hS11 : gZ + 1 ≤ w11.heap.size := Nat.le_trans hS10 gb11.size
          clear hC10 hZ10 hP10 hO110 hO210 hb310 hS10 cC1 gb11 hb11
          go_wp2_with (with_reducible refine hold_store ?_)
          refine hide ?_
          refine store_cell 22 _ _ 43 S 1 _ (.slice o2' (k2 + 1) x2') size_hd hC11 rfl rfl rfl rfl (by simp) ?_; intro w12 hC12 gb12 zb12
          have hC12 : Box w12 S 43 [.slice o1' (k1 + qn) x1', .slice o2' (k2 + 1) x2', .slice aA (n + 1) cA] := hC12
          have hZ12 := hZ11.grown gb12 (by intro e; injection e with e; omega)
          have hP12 := hP11.grown gb12 (by intro e; injection e with e; omega)
          have hO112 := hO111.keptK gb12 (by omega)
          have hO212 := hO211.keptK gb12 (by omega)
          have hb312 := hb311.grown gb12 (by omega) (fun q hq => by cases hq; exact Nat.le_refl _)
          have hS12 : gZ + 1 ≤ w12.heap.size := Nat.le_trans hS11 gb12.size
          have cP3 : w12.cell? ⟨gP, 3, none⟩ = some (.int .i64 (lk : Int)) := hP12.at_ rfl
          have hldS : ∀ j u, ([.int .i64 sl, .bool sn, .bool si] : List Value)[j]? = some u → w12.cell? ((⟨gP, 0, none⟩ : Addr).add j) = some u := fun j u hj => by
            rw [Addr.add_lit, Nat.zero_add]
            match j, hj with
            | 0, hj => cases hj; exact hP12.at_ rfl
            | 1, hj => cases hj; exact hP12.at_ rfl
            | 2, hj => cases hj; exact hP12.at_ rfl
            | j + 3, hj => cases hj
          have HLS := hide hldS
          clear hldS hC11 hZ11 hP11 hO111 hO211 hb311 hS11 gb12 zb12
          go_wp2_with (first
            | (with_reducible refine load_struct 71 70 _ 3 size_rst _ Try.underlying70 ⟨gP, 0, none⟩ rfl [.int .i64 sl, .bool sn, .bool si] rfl HLS.out ?_)
            | (with_reducible refine hold_store ?_))
          refine hide ?_
          refine store_all 70 _ _ 70 gZ (scells s) [.int .i64 sl, .bool sn, .bool si] (.agg #[.int .i64 sl, .bool sn, .bool si]) size_rst hZ12 rfl rfl rfl rfl (by simp [Value.oneCell']) ?_; intro w13 hZ13 gb13 zb13
          have hC13 := hC12.grown gb13 (by intro e; injection e with e; omega)
          have hO113 := hO112.keptK gb13 (Nat.lt_succ_self _)
          have hO213 := hO212.keptK gb13 (Nat.lt_succ_self _)
          have hb313 := hb312.grown gb13 (by omega) (fun q hq => by cases hq; omega)
          have hS13 : gZ + 1 ≤ w13.heap.size := Nat.le_trans hS12 gb13.size
          obtain ⟨f', rfl⟩ : ∃ f', f = f' + 1 := ⟨f - 1, by have h1 := meas_pos (l := l) (i := i) (s := s) hinl; have h2 := HF.out; omega⟩
          have hgo : goP t l (numT t l) (f' + 1) i s = (⟨⟨sl, sn, si⟩, (lk : Int), cs, ru⟩, (k : Int)) :: goP t l (numT t l) f' (i + lk) ⟨sl, sn, si⟩ := by
            have h1 := goP_step (t := t) (l := l) (A := numT t l) (f := f') (i := i) (s := s) (x := ⟨⟨sl, sn, si⟩, (lk : Int), cs, ru⟩) hinl (by rw [hL.out, hLI.out]; exact HX1'.out)
            rw [hL.out, hLI.out] at h1
            simpa using h1
          have HGO := hide hgo
          clear hC12 hZ12 hP12 hO112 hO212 hb312 hS12 cP3 HLS gb13 zb13 hgo
          go_wp2_with fail
          go_roundg (measP l (i + lk) ⟨sl, sn, si⟩)
          case measure => have := HGH.out; have := HST.out; omega
          case rel => exact ⟨i + lk, ⟨sl, sn, si⟩, o1', o2', k1 + qn, k2 + 1, x1', x2', pre ++ [(⟨⟨sl, sn, si⟩, (lk : Int), cs, ru⟩, (k : Int))], f', rfl, by go_num, hil, HST.out.2.2.1, hC13, hZ13, by unfold cellsP; rw [List.flatMap_append, List.map_append]; simpa [cellsP] using hO113, by unfold takenP; rw [List.map_append, List.map_append]; simpa [takenP] using hO213, hb313, hS13, by have := HST.out; have := HM1.out; omega, by have := HST.out; have := HM2.out; omega, by have := HST.out; have := HF.out; omega, by have h := HX23.out.2; simpa using h, by rw [HPT.out, HGO.out, List.append_assoc]; rfl⟩
        · have d2 : decide ((i : Int) < (n : Int)) = false := decide_eq_false (by omega)
          have e1 := HPT.out
          rw [goP_end (by have := HNL.out; omega), List.append_nil] at e1
          have HE1 := hide e1
          have HRr : Box wr gR 43 [.slice none 0 0, .slice none 0 0, .slice none 0 0] := HC3.below hb hgRS
          have hbl := hbl3.trans (hb.mono (by rw [← hS.out]; exact hbl3.size))
          clear e1 HPT HVL
          go_wp2_with (first
            | (with_reducible refine load_struct 72 43 _ 3 size_rcert _ Try.underlying43 ⟨S, 0, none⟩ rfl [.slice o1 k1 x1, .slice o2 k2 x2, .slice aA (n + 1) cA] rfl (fun j u hj => by rw [Addr.add_lit, Nat.zero_add]; exact hC.at_ hj) ?_)
            | (with_reducible refine hold_store ?_))
          refine hide ?_
          refine store_all 43 _ _ 43 gR [.slice none 0 0, .slice none 0 0, .slice none 0 0] [.slice o1 k1 x1, .slice o2 k2 x2, .slice aA (n + 1) cA] _ size_rcert HRr rfl rfl rfl rfl (by simp [Value.oneCell']) ?_; intro w9 HC9 gb9 zb9
          go_wp2_with fail
          have hM9 : RwM w3 22 3 w2.heap.size bs (numT t l) aA cA := HM3
          refine bodyPost_ret (res_cell2 (u := 5) rfl _ _ gR _ _ _ _ rfl HC9 Try.underlying43 rfl (by rw [size_rcert]; rfl)) rfl ⟨⟨_, by rw [hTX.out]; rfl, fun wk hk => ⟨o1, k1, x1, o2, k2, x2, aA, n + 1, cA, bs.map fun b => ((some ⟨b, 0, none⟩ : Option Addr), 8, 8), rfl, ?_, ?_, ?_⟩⟩, hbl.grown gb9 hbl.size (fun q hq => by cases hq; exact hgwR)⟩
          · have o := hO1.keptK gb9 (by omega)
            rw [hcE.out, HE1.out]
            exact Sl.keepX o.sl o.typ hk (by decide)
          · have o := hO2.keptK gb9 (by omega)
            rw [hkE.out, HE1.out]
            exact Sl.keepX o.sl o.typ hk (by decide)
          · have k3 : KeepsX 43 w3 w9 := (KeepsX.of hb').trans (KeepsX.put HRr gb9)
            have h := hM9.ngX (k3.trans hk) (by decide) (by decide) (sufT_rows t l _)
            rw [hbsl] at h
            rw [hAE.out]
            exact h
  · have d1 : (FE == 0) = false := by simp [hfe]
    have e1 : TX = FE := by rw [← hTX.out]; unfold trE; rw [hFE.out, if_pos hfe]
    subst e1
    have hfx := hide hfe
    go_wp2_with (with_reducible refine hold_store ?_)
    refine hide ?_
    refine store_all 43 _ _ 43 gR [.slice none 0 0, .slice none 0 0, .slice none 0 0] [.slice none 0 0, .slice none 0 0, .slice none 0 0] _ size_rcert HC2 rfl rfl rfl rfl (by simp [Value.oneCell']) ?_; intro w4 HC4 gb4 zb4
    go_wp2_with fail
    refine bodyPost_ret (res_cell2 (u := 5) rfl _ _ gR _ _ _ _ rfl HC4 Try.underlying43 rfl (by rw [size_rcert]; rfl)) rfl ⟨⟨_, by rw [hTX.out]; rfl, by obtain ⟨k1, k2, k3⟩ := trCKA0 (t := t) (l := l) (by rw [hTX.out]; exact hfx.out); rw [k1, k2, k3]; exact CeT.nil _ _⟩, hbl2.grown gb4 hbl2.size (fun q hq => by cases hq; exact hgwR)⟩
end Go.Proofs.Ytlpkicjijlcbfaa
end

/- the text D27 -/
section
/- Chapter 08: the law's texts; what the example answers. -/
set_option linter.unusedVariables false
namespace Go.Dx
open Go.RowKit
theorem ex_fits : fitsE exD handL = 0 := by decide +kernel
theorem ex_tr : trE exD handL = 0 := by decide +kernel
theorem ex_cells : cellsP (pathT exD handL) = [8, 28] := exD_path
theorem ex_pl : plE exD handL = 0 := by rw [plE_eq]; exact ex_tr
theorem ex_plC : plC exD handL = [8, 1, 14, 4] := by unfold plC; rw [if_neg (by simp [ex_fits]), exD_plain]; rfl
theorem ex_wd : wdR exD handL [2] = (0, [[2, 2], [2]]) := by decide +kernel
theorem ex_ab : trE exD abL = 6 := by decide +kernel
/-- symbols in a slice, which stand whatever becomes of blocks of type ct -/
def SyF (ct : TypeId) (L : List Sy) (vs : List Value) (w : World) : Prop := ∃ a n c, vs = [.slice a n c] ∧ ∀ w', KeepsX ct w w' → Sl w' 2 a n c (L.flatMap sc)
theorem SyF.keep {ct : TypeId} {L : List Sy} {vs : List Value} {w w' : World} (h : SyF ct L vs w) (hk : KeepsX ct w w') : SyF ct L vs w' := by
  obtain ⟨a, n, c, h1, h2⟩ := h
  exact ⟨a, n, c, h1, fun w2 h3 => h2 w2 (hk.trans h3)⟩
theorem SyF.below {ct : TypeId} {L : List Sy} {vs : List Value} {w w' : World} (h : SyF ct L vs w) (hb : Below w.heap.size w w') : SyF ct L vs w' := h.keep (KeepsX.of hb)
theorem symsOf_hand : symsOf ⟨#[104, 97, 110, 100]⟩ = handL := rfl
theorem symsOf_ab : symsOf ⟨#[97, 32, 98]⟩ = abL := rfl
end Go.Dx
namespace Go.Proofs.Ytlpkicjijlcbfaa
open Go.RowKit Go.Dx Go.Al
set_option maxHeartbeats 1000000 in
theorem law8_word (s : ByteArray) (hsz : s.size ≤ 1000) (w : World) :
    Calls Try.prog 46 #[.string s] w fun e w' => ∃ a c, e = .returned (.slice a (symsOf s).length c) ∧ Go.Dx.Own w' w.heap.size 88 2 a (symsOf s).length c ((symsOf s).flatMap sc) ∧ Below w.heap.size w w' := by
  have hlen : (symsOf s).length = s.size := by unfold symsOf; rw [List.length_map]; exact (size_chars s).symm
  have HLEN := hide hlen
  clear hlen
  rw [HLEN.out]
  go_enter Try.func46, Try.ntmps46
  go_wp2_with fail
  go_loopg [3, 4] s.size (fun gh o v w' => ∃ (k : Nat) (a : Option Addr) (c : Nat), k ≤ s.size ∧ gh = s.size - k ∧ o = .slice a k c ∧ v = .int .i64 (k : Int) ∧ Go.Dx.Own w' w.heap.size 88 2 a k c (((symsOf s).take k).flatMap sc) ∧ Below w.heap.size w w')
  case atStart => exact ⟨0, none, 0, by omega, by omega, rfl, rfl, Go.Dx.Own.nil _ _ _ _, Below.refl _ _⟩
  case round =>
    obtain ⟨k, a, c, hk, hg, rfl, rfl, ho, hb⟩ := hrel
    have HG := hide hg
    clear hg
    by_cases hkl : k < s.size
    · have HST := hide (symsOf_step (chars_get hkl))
      go_wp2_with (at_builtin; refine app_sy rfl _ _ rfl w w.heap.size _ _ _ _ rfl ho ⟨0, s[k]⟩ rfl (by omega) hb.size hb ?_; intro a' c' w' ho' _ hb')
      go_roundg (s.size - (k + 1))
      case measure => have := HG.out; omega
      case rel => exact ⟨k + 1, a', c', by omega, rfl, rfl, by go_num, by rw [HST.out, List.flatMap_append, List.flatMap_singleton]; exact ho', hb'⟩
    · obtain rfl : k = s.size := by omega
      go_wp2
      go_ret
      rw [List.take_of_length_le (by rw [HLEN.out]; exact Nat.le_refl _)] at ho
      exact ⟨a, c, rfl, ho, hb⟩
theorem word_at {s : ByteArray} {L : List Sy} (hL : symsOf s = L) (hsz : s.size ≤ 1000) (ct : TypeId) (hct : 88 ≠ ct) (w : World) :
    Calls Try.prog 46 #[.string s] w fun e w' => ∃ v, e = .returned v ∧ SyF ct L [v] w' ∧ Below w.heap.size w w' := by
  subst hL
  refine (law8_word s hsz w).mono ?_
  rintro e w' ⟨a, c, rfl, ho, hb⟩
  exact ⟨_, rfl, ⟨a, _, c, rfl, fun w2 hk => Sl.keepX ho.sl ho.typ hk hct⟩, hb⟩
end Go.Proofs.Ytlpkicjijlcbfaa
end

/- the text D28 -/
section
/- Chapter 08: the law's example lives. -/
set_option linter.unusedVariables false
namespace Go.Dx
open Go.RowKit
theorem ex_trC : trC exD handL = [8, 28] := by unfold trC; rw [if_pos ex_tr]; exact ex_cells
theorem ex_few : (trC exD handL).length ≤ 1000000 := by rw [ex_trC]; decide
theorem ex_ck : chE exD handL (trC exD handL) (trK exD handL) (trA exD handL) = 0 := by
  unfold trC trK trA
  rw [if_pos ex_tr, if_pos ex_tr, if_pos ex_tr]
  exact chE_path ex_tr
theorem ex_bd : BdN (trA exD handL) 1000000 := by
  unfold trA
  rw [if_pos ex_tr]
  exact bd_num exD handL exD_valid (by decide)
end Go.Dx
namespace Go.Proofs.Ytlpkicjijlcbfaa
open Go.RowKit Go.Dx Go.Al
theorem ints_at {x y : List Int} {a1 a2 : Option Addr} {n1 n2 c1 c2 : Nat} {w : World} (hxy : x = y) (h1 : Sl w 1 a1 n1 c1 (x.map I64)) (h2 : Sl w 1 a2 n2 c2 (y.map I64)) :
    Calls Try.prog 26 #[.slice a1 n1 c1, .slice a2 n2 c2] w fun e w' => e = .returned (.bool true) ∧ Below w.heap.size w w' := by
  refine (ref_SameInts x y a1 a2 n1 n2 c1 c2 w h1 h2).mono ?_
  rintro e w' ⟨rfl, m, hm⟩
  exact ⟨by rw [decide_eq_true hxy], hm ▸ Still.below m⟩
set_option maxRecDepth 100000 in
set_option maxHeartbeats 8000000 in
theorem law8_lives (w : World) : Calls Try.prog 17 #[] w fun e w' => e = .returned (.bool true) ∧ Below w.heap.size w w' := by
  have hex := hide (law8_example w)
  go_enter Try.func17, Try.ntmps17
  go_wp2_with (go_at_call 45; refine hex.out.mono ?_; rintro e w1 ⟨H, rfl, hT, hb1⟩; refine hold ?_)
  refine hide ?_
  clear hex
  have Hm := hide hT
  clear hT
  obtain ⟨⟨a0, n0, c0⟩, ⟨a1, n1, c1⟩, ps0, ps1, ⟨ad, nd, cd⟩, ⟨ac, nc, cc⟩, ⟨an, nn, cn⟩, ⟨af, nf, cf⟩, ⟨aw, nw, cw⟩⟩ := H
  unfold TH.v
  simp only [hdv]
  have Y1 := Box.new w1 29 #[.slice a0 n0 c0, .slice a1 n1 c1, .slice ad nd cd, .slice ac nc cc, .slice an nn cn, .slice af nf cf, .slice aw nw cw]
  have hbY := blo w1 (.cells #[.slice a0 n0 c0, .slice a1 n1 c1, .slice ad nd cd, .slice ac nc cc, .slice an nn cn, .slice af nf cf, .slice aw nw cw] 29)
  go_wp2_with fail
  generalize w1.alloc (.cells _ 29) = W0 at *
  obtain ⟨H, hH⟩ : ∃ H : TH, H = ⟨(a0, n0, c0), (a1, n1, c1), ps0, ps1, (ad, nd, cd), (ac, nc, cc), (an, nn, cn), (af, nf, cf), (aw, nw, cw)⟩ := ⟨_, rfl⟩
  have HX : Box W0 w1.heap.size 29 (tcells H) := by rw [hH]; exact Y1
  have HT : TaIs W0 H exD := by rw [hH]; exact Hm.out.below hbY
  have hbw := hb1.trans (hbY.mono hb1.size)
  clear hH Hm hbY hb1 Y1
  generalize w1.heap.size = gT at *
  clear w1
  refine wp_region_chain4 8 (KeepsX 39) (GTr 39 W0 (trC exD handL) (trK exD handL) (trA exD handL)) [⟨6, 2, [], fun _ _ => True⟩, ⟨7, 85, [0], fun _ _ => True⟩] [⟨0, 12, [12], fun vs _ => vs = [H.v]⟩, ⟨1, 13, [13], SyF 39 handL⟩, ⟨2, 14, [14], TuF 39 0 (trC exD handL) (trK exD handL) (trA exD handL)⟩, ⟨3, 11, [11], TuF 39 0 (trC exD handL) (trK exD handL) (trA exD handL)⟩, ⟨4, 15, [15], VaF 39 (trC exD handL) (trK exD handL) (trA exD handL)⟩, ⟨5, 16, [16], fun vs _ => vs = [.int .i64 0]⟩] (by kernel_rfl) (by kernel_rfl) ?_ (fun _ _ h => KeepsX.of h) GTr.mono ?_ ?_ ?_ ?_
  · exact (Still.below 1 : Below W0.heap.size W0 (W0.drewN 1))
  · simp only [All]
    refine ⟨(fun _ _ _ _ h => h), (fun _ _ _ hk h => h.keep hk), (fun _ _ _ hk h => h.keep hk), (fun _ _ _ hk h => h.keep hk), (fun _ _ _ hk h => h.keep hk), (fun _ _ _ _ h => h), trivial⟩
  · intro m c hc o ho a w' hG hfr hdep
    rcases m with _ | _ | m
    · cases hc
      obtain rfl := Option.some.inj ho
      have hB : Below W0.heap.size W0 w' := hG
      clear hfr hdep hG
      go_wp2_with fail
      exact ⟨rfl, _, rfl, KeepsX.of (blo _ _), w'.heap.size, rfl, hB.size, [.slice none 0 0, .slice none 0 0, .slice none 0 0], rfl, Box.new _ _ _, hB.alloc hB.size _⟩
    · cases hc
      obtain rfl := Option.some.inj ho
      obtain ⟨b9, e9, hlo9, cs9, hl9, hbx9, hB⟩ := hG
      obtain ⟨v9, g9, c9⟩ := hdep 4 _ rfl (by kernel_rfl)
      replace e9 : a.tmps.getD 2 undef = .pointer (some ⟨b9, 0, none⟩) := e9
      replace g9 : a.tmps.getD 15 undef = v9 := by simpa using g9
      obtain ⟨a1, n1, c1, a2, n2, c2, a3, n3, c3, hs9, hv9, -⟩ := c9.ce
      subst hv9
      clear ho hfr hdep
      refine store_all 39 _ _ 39 b9 cs9 [.slice a1 n1 c1, .slice a2 n2 c2, .slice a3 n3 c3] _ size_cert hbx9 e9 g9 rfl (by rw [hl9]; rfl) (by simp [Value.oneCell']) ?_
      intro w10 hx10 hg10 hs10
      have hK := KeepsX.put hbx9 hg10
      have hb10 := hB.grown hg10 hB.size (fun k hk => by cases hk; exact hlo9)
      have E9 := hide e9
      clear e9 g9 hl9 hs10
      go_wp2_with fail
      exact ⟨rfl, undef, rfl, hK, b9, by first | rfl | exact E9.out | simpa using E9.out, hlo9, _, _, _, hx10, c9.keep hK, hb10⟩
    · cases hc
  · simp only [All]
    refine ⟨?_, ?_, ?_, ?_, ?_, ?_, trivial⟩
    · intro o ho a' w' hfr hdep hst
      obtain rfl := Option.some.inj ho
      have hb : Below W0.heap.size W0 w' := by obtain ⟨j, _, _, hG⟩ := hst; exact hG.bel
      have g1 : a'.tmps[1]?.getD undef = .pointer (some ⟨gT, 0, none⟩) := by have h := hfr 1 (by kernel_rfl); simpa using h
      clear ho hfr hdep hst
      refine load_struct 12 29 _ 7 size_tables _ Try.underlying29 ⟨gT, 0, none⟩ (by show a'.tmps.getD 1 undef = _; simpa using g1) (tcells H) rfl (fun j u hj => by rw [Addr.add_lit, Nat.zero_add]; exact (HX.under hb).at_ hj) ?_
      exact ⟨rfl, _, rfl, Below.refl _ _, rfl⟩
    · intro o ho a' w' hfr hdep hst
      obtain rfl := Option.some.inj ho
      have hb : Below W0.heap.size W0 w' := by obtain ⟨j, _, _, hG⟩ := hst; exact hG.bel
      clear ho hfr hdep hst
      have hwd := hide (word_at symsOf_hand (by decide) 39 (by decide) w')
      go_wp2_with (go_at_call 46; refine hwd.out.mono ?_; rintro e w3 ⟨v, rfl, hsy, h3⟩)
      exact ⟨rfl, _, rfl, h3, hsy⟩
    · intro o ho a' w' hfr hdep hst
      obtain rfl := Option.some.inj ho
      have hb : Below W0.heap.size W0 w' := by obtain ⟨j, _, _, hG⟩ := hst; exact hG.bel
      have g12 : a'.tmps[12]?.getD undef = H.v := by have h := hdep 0 _ rfl (by kernel_rfl); simpa using h
      obtain ⟨a13, n13, c13, g13, s13⟩ := hdep 1 _ rfl (by kernel_rfl)
      simp at g13
      clear ho hfr hdep hst
      have htr := hide (tr_at H exD handL a13 n13 c13 w' (HT.below hb) (s13 w' (KeepsX.refl _ _)) ex_tr rfl rfl rfl)
      go_wp2_with (go_at_call 13; refine htr.out.mono ?_; rintro e w3 ⟨⟨v, rfl, hce⟩, h3⟩)
      exact ⟨rfl, _, rfl, h3, _, rfl, hce⟩
    · intro o ho a' w' hfr hdep hst
      obtain rfl := Option.some.inj ho
      obtain ⟨v14, g14, c14⟩ := hdep 2 _ rfl (by kernel_rfl)
      simp at g14
      clear ho hfr hdep hst
      go_wp2_with fail
      exact ⟨rfl, _, rfl, Below.refl _ _, _, rfl, c14⟩
    · intro o ho a' w' hfr hdep hst
      obtain rfl := Option.some.inj ho
      obtain ⟨v11, g11, c11⟩ := hdep 3 _ rfl (by kernel_rfl)
      simp at g11
      clear ho hfr hdep hst
      go_wp2_with fail
      exact ⟨rfl, _, rfl, Below.refl _ _, _, rfl, c11⟩
    · intro o ho a' w' hfr hdep hst
      obtain rfl := Option.some.inj ho
      obtain ⟨v11, g11, c11⟩ := hdep 3 _ rfl (by kernel_rfl)
      simp at g11
      clear ho hfr hdep hst
      go_wp2_with fail
      exact ⟨rfl, _, rfl, Below.refl _ _, rfl⟩
  · intro g w9 hG hp
    obtain ⟨b9, e9, hlo9, s1, s2, s3, hx9, hc9, hb9⟩ := hG
    have p9 := hp 5 _ rfl
    replace e9 : g 2 = .pointer (some ⟨b9, 0, none⟩) := e9
    clear hp
    replace p9 : g 16 = .int .i64 0 := by simpa using p9
    simp only [List.drop_succ_cons, List.drop_zero, List.map_cons, List.map_nil, putAll, Act.put, List.setIfInBounds_toArray, List.set_cons_succ, List.set_cons_zero, List.set_nil, List.cons_append, List.nil_append, e9, p9]
    clear e9 p9
    obtain ⟨a1, n1, c1, a2, n2, c2, a3, n3, c3, hs3, rfl, rfl, rfl, HS1, HS2, HS3⟩ := hc9.parts
    clear hc9 hlo9
    have HC := hx9
    clear hx9
    obtain ⟨bC, rfl⟩ : ∃ z : Nat, z = b9 := ⟨_, rfl⟩
    have HXn := HX.under hb9
    have HTn := HT.below hb9
    have hbn := hbw.trans (hb9.mono hbw.size)
    clear HX HT hbw hb9
    have HX := HXn
    have HT := HTn
    have hbw := hbn
    clear HXn HTn hbn
    clear W0
    obtain ⟨W0, rfl⟩ : ∃ w' : World, w' = w9 := ⟨_, rfl⟩
    go_wp2_with fail
    refine wp_region_free 7 [⟨0, 18, [18], fun vs _ => vs = [H.v]⟩, ⟨1, 19, [19], SyF 39 handL⟩, ⟨2, 20, [20], fun vs w => ∃ a n c, vs = [.tuple #[.slice a n c, .int .i64 0]] ∧ Sl w 1 a n c ((plC exD handL).map B8)⟩, ⟨3, 17, [17], fun vs w => ∃ a n c, vs = [.tuple #[.slice a n c, .int .i64 0]] ∧ Sl w 1 a n c ((plC exD handL).map B8)⟩, ⟨4, 21, [21], fun vs w => ∃ a n c, vs = [.slice a n c] ∧ Sl w 1 a n c ((plC exD handL).map B8)⟩, ⟨5, 22, [22], fun vs _ => vs = [.int .i64 0]⟩, ⟨6, 4, [4], fun vs w => ∃ a n c, vs = [.slice a n c] ∧ Sl w 1 a n c ((plC exD handL).map B8)⟩] (by kernel_rfl) (by kernel_rfl) ?_ ?_ ?_
    · simp only [All]
      refine ⟨fun _ _ _ _ h => h, ?_, ?_, ?_, ?_, fun _ _ _ _ h => h, ?_, trivial⟩
      · exact fun vs w1 w2 hb h => h.below hb
      · exact fun vs w1 w2 hb ⟨a, n, c, h1, h2⟩ => ⟨a, n, c, h1, h2.below hb⟩
      · exact fun vs w1 w2 hb ⟨a, n, c, h1, h2⟩ => ⟨a, n, c, h1, h2.below hb⟩
      · exact fun vs w1 w2 hb ⟨a, n, c, h1, h2⟩ => ⟨a, n, c, h1, h2.below hb⟩
      · exact fun vs w1 w2 hb ⟨a, n, c, h1, h2⟩ => ⟨a, n, c, h1, h2.below hb⟩
    · simp only [All]
      refine ⟨?_, ?_, ?_, ?_, ?_, ?_, ?_, trivial⟩
      · intro o ho a' w' hb hfr hdep
        obtain rfl := Option.some.inj ho
        have g1 : a'.tmps[1]?.getD undef = .pointer (some ⟨gT, 0, none⟩) := by have h := hfr 1 (by kernel_rfl); simpa using h
        clear ho hfr hdep
        refine load_struct 18 29 _ 7 size_tables _ Try.underlying29 ⟨gT, 0, none⟩ (by show a'.tmps.getD 1 undef = _; simpa using g1) (tcells H) rfl (fun j u hj => by rw [Addr.add_lit, Nat.zero_add]; exact (HX.under hb).at_ hj) ?_
        exact ⟨rfl, _, rfl, Below.refl _ _, rfl⟩
      · intro o ho a' w' hb hfr hdep
        obtain rfl := Option.some.inj ho
        clear ho hfr hdep
        have hwd := hide (word_at symsOf_hand (by decide) 39 (by decide) w')
        go_wp2_with (go_at_call 46; refine hwd.out.mono ?_; rintro e w3 ⟨v, rfl, hsy, h3⟩)
        exact ⟨rfl, _, rfl, h3, hsy⟩
      · intro o ho a' w' hb hfr hdep
        obtain rfl := Option.some.inj ho
        have g18 : a'.tmps[18]?.getD undef = H.v := by have h := hdep 0 _ rfl (by kernel_rfl); simpa using h
        obtain ⟨a19, n19, c19, g19, s19⟩ := hdep 1 _ rfl (by kernel_rfl)
        simp at g19
        clear ho hfr hdep
        have hpl := hide (con_Plain H exD handL a19 n19 c19 w' (HT.below hb) (s19 w' (KeepsX.refl _ _)))
        go_wp2_with (go_at_call 18; refine hpl.out.mono ?_; rintro e w3 ⟨⟨a, n, c, rfl, hpa⟩, h3⟩)
        exact ⟨rfl, _, rfl, h3, a, n, c, by rw [ex_pl]; rfl, hpa⟩
      · intro o ho a' w' hb hfr hdep
        obtain rfl := Option.some.inj ho
        obtain ⟨a20, n20, c20, g20, s20⟩ := hdep 2 _ rfl (by kernel_rfl)
        simp at g20
        clear ho hfr hdep
        go_wp2_with fail
        exact ⟨rfl, _, rfl, Below.refl _ _, a20, n20, c20, rfl, s20⟩
      · intro o ho a' w' hb hfr hdep
        obtain rfl := Option.some.inj ho
        obtain ⟨a17, n17, c17, g17, s17⟩ := hdep 3 _ rfl (by kernel_rfl)
        simp at g17
        clear ho hfr hdep
        go_wp2_with fail
        exact ⟨rfl, _, rfl, Below.refl _ _, a17, n17, c17, rfl, s17⟩
      · intro o ho a' w' hb hfr hdep
        obtain rfl := Option.some.inj ho
        obtain ⟨a17, n17, c17, g17, s17⟩ := hdep 3 _ rfl (by kernel_rfl)
        simp at g17
        clear ho hfr hdep
        go_wp2_with fail
        exact ⟨rfl, _, rfl, Below.refl _ _, rfl⟩
      · intro o ho a' w' hb hfr hdep
        obtain rfl := Option.some.inj ho
        obtain ⟨a21, n21, c21, g21, s21⟩ := hdep 4 _ rfl (by kernel_rfl)
        simp at g21
        clear ho hfr hdep
        go_wp2_with fail
        exact ⟨rfl, _, rfl, Below.refl _ _, a21, n21, c21, rfl, s21⟩
    · intro gg w9 hb9 hp'
      obtain ⟨ap, np, cp, e4, hPl⟩ := hp' 6 _ rfl
      have p22 := hp' 5 _ rfl
      clear hp'
      simp at e4 p22
      simp only [List.drop_succ_cons, List.drop_zero, List.map_cons, List.map_nil, putAll, Act.put, List.setIfInBounds_toArray, List.set_cons_succ, List.set_cons_zero, List.cons_append, List.nil_append, e4, p22]
      clear e4 p22
      have HXn := HX.under hb9
      have HTn := HT.below hb9
      have hbn := hbw.trans (hb9.mono hbw.size)
      have HCn := HC.under hb9
      have HS1n := HS1.below hb9
      have HS2n := HS2.below hb9
      have HS3n := HS3.below hb9
      clear HX HT hbw hb9 HC HS1 HS2 HS3
      have HX := HXn
      have HT := HTn
      have hbw := hbn
      have HC := HCn
      have HS1 := HS1n
      have HS2 := HS2n
      have HS3 := HS3n
      clear HXn HTn hbn HCn HS1n HS2n HS3n
      clear W0
      obtain ⟨W0, rfl⟩ : ∃ w' : World, w' = w9 := ⟨_, rfl⟩
      go_wp2_with fail
      refine wp_region_free 8 [⟨0, 24, [24], fun vs _ => vs = [H.v]⟩, ⟨1, 25, [25], SyF 39 handL⟩, ⟨2, 26, [26], fun vs w => ∃ q, vs = [.slice (some ⟨q, 0, none⟩) 1 1] ∧ Sl w 1 (some ⟨q, 0, none⟩) 1 1 (([2] : List Int).map I64)⟩, ⟨3, 27, [27], fun vs w => ∃ a n c hs, vs = [.tuple #[.slice a n c, .int .i64 0]] ∧ Ng w a n c hs [[2, 2], [2]]⟩, ⟨4, 23, [23], fun vs w => ∃ a n c hs, vs = [.tuple #[.slice a n c, .int .i64 0]] ∧ Ng w a n c hs [[2, 2], [2]]⟩, ⟨5, 28, [28], fun vs w => ∃ a n c hs, vs = [.slice a n c] ∧ Ng w a n c hs [[2, 2], [2]]⟩, ⟨6, 29, [29], fun vs _ => vs = [.int .i64 0]⟩, ⟨7, 6, [6], fun vs w => ∃ a n c hs, vs = [.slice a n c] ∧ Ng w a n c hs [[2, 2], [2]]⟩] (by kernel_rfl) (by kernel_rfl) ?_ ?_ ?_
      · simp only [All]
        refine ⟨fun _ _ _ _ h => h, ?_, ?_, ?_, ?_, ?_, fun _ _ _ _ h => h, ?_, trivial⟩
        · exact fun vs w1 w2 hb h => h.below hb
        · exact fun vs w1 w2 hb ⟨q, h1, h2⟩ => ⟨q, h1, h2.below hb⟩
        · exact fun vs w1 w2 hb ⟨a, n, c, hs, h1, h2⟩ => ⟨a, n, c, hs, h1, h2.below hb⟩
        · exact fun vs w1 w2 hb ⟨a, n, c, hs, h1, h2⟩ => ⟨a, n, c, hs, h1, h2.below hb⟩
        · exact fun vs w1 w2 hb ⟨a, n, c, hs, h1, h2⟩ => ⟨a, n, c, hs, h1, h2.below hb⟩
        · exact fun vs w1 w2 hb ⟨a, n, c, hs, h1, h2⟩ => ⟨a, n, c, hs, h1, h2.below hb⟩
      · simp only [All]
        refine ⟨?_, ?_, ?_, ?_, ?_, ?_, ?_, ?_, trivial⟩
        · intro o ho a' w' hb hfr hdep
          obtain rfl := Option.some.inj ho
          have g1 : a'.tmps[1]?.getD undef = .pointer (some ⟨gT, 0, none⟩) := by have h := hfr 1 (by kernel_rfl); simpa using h
          clear ho hfr hdep
          refine load_struct 24 29 _ 7 size_tables _ Try.underlying29 ⟨gT, 0, none⟩ (by show a'.tmps.getD 1 undef = _; simpa using g1) (tcells H) rfl (fun j u hj => by rw [Addr.add_lit, Nat.zero_add]; exact (HX.under hb).at_ hj) ?_
          exact ⟨rfl, _, rfl, Below.refl _ _, rfl⟩
        · intro o ho a' w' hb hfr hdep
          obtain rfl := Option.some.inj ho
          clear ho hfr hdep
          have hwd := hide (word_at symsOf_hand (by decide) 39 (by decide) w')
          go_wp2_with (go_at_call 46; refine hwd.out.mono ?_; rintro e w3 ⟨v, rfl, hsy, h3⟩)
          exact ⟨rfl, _, rfl, h3, hsy⟩
        · intro o ho a' w' hb hfr hdep
          obtain rfl := Option.some.inj ho
          clear ho hfr hdep
          go_wp2_with fail
          exact ⟨rfl, _, rfl, blo _ _, _, rfl, Sl.fresh w' 3 1 1 [.int .i64 2] rfl (by decide)⟩
        · intro o ho a' w' hb hfr hdep
          obtain rfl := Option.some.inj ho
          have g24 : a'.tmps[24]?.getD undef = H.v := by have h := hdep 0 _ rfl (by kernel_rfl); simpa using h
          obtain ⟨a25, n25, c25, g25, s25⟩ := hdep 1 _ rfl (by kernel_rfl)
          simp at g25
          obtain ⟨q26, g26, s26⟩ := hdep 2 _ rfl (by kernel_rfl)
          simp at g26
          clear ho hfr hdep
          have hpl := hide (con_Width H exD handL a25 n25 c25 [2] (some ⟨q26, 0, none⟩) 1 1 w' (HT.below hb) (s25 w' (KeepsX.refl _ _)) s26 (by decide))
          go_wp2_with (go_at_call 24; refine hpl.out.mono ?_; rintro e w3 ⟨⟨a, n, c, hs, rfl, hpa⟩, h3⟩)
          rw [ex_wd] at hpa ⊢
          exact ⟨rfl, _, rfl, h3, a, n, c, hs, rfl, hpa⟩
        · intro o ho a' w' hb hfr hdep
          obtain rfl := Option.some.inj ho
          obtain ⟨a27, n27, c27, h27, g27, s27⟩ := hdep 3 _ rfl (by kernel_rfl)
          simp at g27
          clear ho hfr hdep
          go_wp2_with fail
          exact ⟨rfl, _, rfl, Below.refl _ _, a27, n27, c27, h27, rfl, s27⟩
        · intro o ho a' w' hb hfr hdep
          obtain rfl := Option.some.inj ho
          obtain ⟨a23, n23, c23, h23, g23, s23⟩ := hdep 4 _ rfl (by kernel_rfl)
          simp at g23
          clear ho hfr hdep
          go_wp2_with fail
          exact ⟨rfl, _, rfl, Below.refl _ _, a23, n23, c23, h23, rfl, s23⟩
        · intro o ho a' w' hb hfr hdep
          obtain rfl := Option.some.inj ho
          obtain ⟨a23, n23, c23, h23, g23, s23⟩ := hdep 4 _ rfl (by kernel_rfl)
          simp at g23
          clear ho hfr hdep
          go_wp2_with fail
          exact ⟨rfl, _, rfl, Below.refl _ _, rfl⟩
        · intro o ho a' w' hb hfr hdep
          obtain rfl := Option.some.inj ho
          obtain ⟨a28, n28, c28, h28, g28, s28⟩ := hdep 5 _ rfl (by kernel_rfl)
          simp at g28
          clear ho hfr hdep
          go_wp2_with fail
          exact ⟨rfl, _, rfl, Below.refl _ _, a28, n28, c28, h28, rfl, s28⟩
      · intro gg w9 hb9 hp'
        obtain ⟨aw, nw, cw, hsw, e6, hWd⟩ := hp' 7 _ rfl
        have p29 := hp' 6 _ rfl
        clear hp'
        simp at e6 p29
        simp only [List.drop_succ_cons, List.drop_zero, List.map_cons, List.map_nil, putAll, Act.put, List.setIfInBounds_toArray, List.set_cons_succ, List.set_cons_zero, List.cons_append, List.nil_append, e6, p29]
        clear e6 p29
        have HXn := HX.under hb9
        have HTn := HT.below hb9
        have hbn := hbw.trans (hb9.mono hbw.size)
        have HCn := HC.under hb9
        have HS1n := HS1.below hb9
        have HS2n := HS2.below hb9
        have HS3n := HS3.below hb9
        have hPln := hPl.below hb9
        clear HX HT hbw hb9 HC HS1 HS2 HS3 hPl
        have HX := HXn
        have HT := HTn
        have hbw := hbn
        have HC := HCn
        have HS1 := HS1n
        have HS2 := HS2n
        have HS3 := HS3n
        have hPl := hPln
        clear HXn HTn hbn HCn HS1n HS2n HS3n hPln
        clear W0
        obtain ⟨W0, rfl⟩ : ∃ w' : World, w' = w9 := ⟨_, rfl⟩
        obtain rfl : nw = 2 := hWd.n_eq
        go_wp2_with fail
        refine wp_region_chain4 8 (KeepsX 39) (GTr 39 W0 (trC exD abL) (trK exD abL) (trA exD abL)) [⟨6, 8, [], fun _ _ => True⟩, ⟨7, 85, [0], fun _ _ => True⟩] [⟨0, 31, [31], fun vs _ => vs = [H.v]⟩, ⟨1, 32, [32], SyF 39 abL⟩, ⟨2, 33, [33], TuF 39 6 (trC exD abL) (trK exD abL) (trA exD abL)⟩, ⟨3, 30, [30], TuF 39 6 (trC exD abL) (trK exD abL) (trA exD abL)⟩, ⟨4, 34, [34], VaF 39 (trC exD abL) (trK exD abL) (trA exD abL)⟩, ⟨5, 35, [35], fun vs _ => vs = [.int .i64 6]⟩] (by kernel_rfl) (by kernel_rfl) ?_ (fun _ _ h => KeepsX.of h) GTr.mono ?_ ?_ ?_ ?_
        · exact (Still.below 1 : Below W0.heap.size W0 (W0.drewN 1))
        · simp only [All]
          refine ⟨(fun _ _ _ _ h => h), (fun _ _ _ hk h => h.keep hk), (fun _ _ _ hk h => h.keep hk), (fun _ _ _ hk h => h.keep hk), (fun _ _ _ hk h => h.keep hk), (fun _ _ _ _ h => h), trivial⟩
        · intro m c hc o ho a w' hG hfr hdep
          rcases m with _ | _ | m
          · cases hc
            obtain rfl := Option.some.inj ho
            have hB : Below W0.heap.size W0 w' := hG
            clear hfr hdep hG
            go_wp2_with fail
            exact ⟨rfl, _, rfl, KeepsX.of (blo _ _), w'.heap.size, rfl, hB.size, [.slice none 0 0, .slice none 0 0, .slice none 0 0], rfl, Box.new _ _ _, hB.alloc hB.size _⟩
          · cases hc
            obtain rfl := Option.some.inj ho
            obtain ⟨b9, e9, hlo9, cs9, hl9, hbx9, hB⟩ := hG
            obtain ⟨v9, g9, c9⟩ := hdep 4 _ rfl (by kernel_rfl)
            replace e9 : a.tmps.getD 8 undef = .pointer (some ⟨b9, 0, none⟩) := e9
            replace g9 : a.tmps.getD 34 undef = v9 := by simpa using g9
            obtain ⟨a1, n1, c1, a2, n2, c2, a3, n3, c3, hs9, hv9, -⟩ := c9.ce
            subst hv9
            clear ho hfr hdep
            refine store_all 39 _ _ 39 b9 cs9 [.slice a1 n1 c1, .slice a2 n2 c2, .slice a3 n3 c3] _ size_cert hbx9 e9 g9 rfl (by rw [hl9]; rfl) (by simp [Value.oneCell']) ?_
            intro w10 hx10 hg10 hs10
            have hK := KeepsX.put hbx9 hg10
            have hb10 := hB.grown hg10 hB.size (fun k hk => by cases hk; exact hlo9)
            have E9 := hide e9
            clear e9 g9 hl9 hs10
            go_wp2_with fail
            exact ⟨rfl, undef, rfl, hK, b9, by first | rfl | exact E9.out | simpa using E9.out, hlo9, _, _, _, hx10, c9.keep hK, hb10⟩
          · cases hc
        · simp only [All]
          refine ⟨?_, ?_, ?_, ?_, ?_, ?_, trivial⟩
          · intro o ho a' w' hfr hdep hst
            obtain rfl := Option.some.inj ho
            have hb : Below W0.heap.size W0 w' := by obtain ⟨j, _, _, hG⟩ := hst; exact hG.bel
            have g1 : a'.tmps[1]?.getD undef = .pointer (some ⟨gT, 0, none⟩) := by have h := hfr 1 (by kernel_rfl); simpa using h
            clear ho hfr hdep hst
            refine load_struct 31 29 _ 7 size_tables _ Try.underlying29 ⟨gT, 0, none⟩ (by show a'.tmps.getD 1 undef = _; simpa using g1) (tcells H) rfl (fun j u hj => by rw [Addr.add_lit, Nat.zero_add]; exact (HX.under hb).at_ hj) ?_
            exact ⟨rfl, _, rfl, Below.refl _ _, rfl⟩
          · intro o ho a' w' hfr hdep hst
            obtain rfl := Option.some.inj ho
            have hb : Below W0.heap.size W0 w' := by obtain ⟨j, _, _, hG⟩ := hst; exact hG.bel
            clear ho hfr hdep hst
            have hwd := hide (word_at symsOf_ab (by decide) 39 (by decide) w')
            go_wp2_with (go_at_call 46; refine hwd.out.mono ?_; rintro e w3 ⟨v, rfl, hsy, h3⟩)
            exact ⟨rfl, _, rfl, h3, hsy⟩
          · intro o ho a' w' hfr hdep hst
            obtain rfl := Option.some.inj ho
            have hb : Below W0.heap.size W0 w' := by obtain ⟨j, _, _, hG⟩ := hst; exact hG.bel
            have g31 : a'.tmps[31]?.getD undef = H.v := by have h := hdep 0 _ rfl (by kernel_rfl); simpa using h
            obtain ⟨a32, n32, c32, g32, s32⟩ := hdep 1 _ rfl (by kernel_rfl)
            simp at g32
            clear ho hfr hdep hst
            have htr := hide (tr_at H exD abL a32 n32 c32 w' (HT.below hb) (s32 w' (KeepsX.refl _ _)) ex_ab rfl rfl rfl)
            go_wp2_with (go_at_call 13; refine htr.out.mono ?_; rintro e w3 ⟨⟨v, rfl, hce⟩, h3⟩)
            exact ⟨rfl, _, rfl, h3, _, rfl, hce⟩
          · intro o ho a' w' hfr hdep hst
            obtain rfl := Option.some.inj ho
            obtain ⟨v33, g33, c33⟩ := hdep 2 _ rfl (by kernel_rfl)
            simp at g33
            clear ho hfr hdep hst
            go_wp2_with fail
            exact ⟨rfl, _, rfl, Below.refl _ _, _, rfl, c33⟩
          · intro o ho a' w' hfr hdep hst
            obtain rfl := Option.some.inj ho
            obtain ⟨v30, g30, c30⟩ := hdep 3 _ rfl (by kernel_rfl)
            simp at g30
            clear ho hfr hdep hst
            go_wp2_with fail
            exact ⟨rfl, _, rfl, Below.refl _ _, _, rfl, c30⟩
          · intro o ho a' w' hfr hdep hst
            obtain rfl := Option.some.inj ho
            obtain ⟨v30, g30, c30⟩ := hdep 3 _ rfl (by kernel_rfl)
            simp at g30
            clear ho hfr hdep hst
            go_wp2_with fail
            exact ⟨rfl, _, rfl, Below.refl _ _, rfl⟩
        · intro g w9 hG hp
          obtain ⟨b9, e9, hlo9, s1, s2, s3, hx9, hc9, hb9⟩ := hG
          have p9 := hp 5 _ rfl
          replace e9 : g 8 = .pointer (some ⟨b9, 0, none⟩) := e9
          clear hp
          replace p9 : g 35 = .int .i64 6 := by simpa using p9
          simp only [List.drop_succ_cons, List.drop_zero, List.map_cons, List.map_nil, putAll, Act.put, List.setIfInBounds_toArray, List.set_cons_succ, List.set_cons_zero, List.set_nil, List.cons_append, List.nil_append, e9, p9]
          clear e9 p9
          clear hx9 hc9 hlo9
          have HXn := HX.under hb9
          have HTn := HT.below hb9
          have hbn := hbw.trans (hb9.mono hbw.size)
          have HCn := HC.under hb9
          have HS1n := HS1.below hb9
          have HS2n := HS2.below hb9
          have HS3n := HS3.below hb9
          have hPln := hPl.below hb9
          have hWdn := hWd.below hb9
          clear HX HT hbw hb9 HC HS1 HS2 HS3 hPl hWd
          have HX := HXn
          have HT := HTn
          have hbw := hbn
          have HC := HCn
          have HS1 := HS1n
          have HS2 := HS2n
          have HS3 := HS3n
          have hPl := hPln
          have hWd := hWdn
          clear HXn HTn hbn HCn HS1n HS2n HS3n hPln hWdn
          clear W0
          obtain ⟨W0, rfl⟩ : ∃ w' : World, w' = w9 := ⟨_, rfl⟩
          go_wp2_with fail
          refine wp_region_free 25 [⟨0, 36, [36], fun vs _ => vs = [.int .i64 0]⟩, ⟨1, 37, [37], fun vs _ => vs = [.bool false]⟩, ⟨2, 38, [38], fun vs _ => vs = [.bool false]⟩, ⟨3, 39, [39], fun vs _ => vs = [.int .i64 0]⟩, ⟨4, 40, [40], fun vs _ => vs = [.bool false]⟩, ⟨5, 41, [41], fun vs _ => vs = [.bool false]⟩, ⟨6, 42, [42], fun vs _ => vs = [.bool false]⟩, ⟨7, 43, [43], fun vs _ => vs = [.int .i64 0]⟩, ⟨8, 44, [44], fun vs _ => vs = [.bool false]⟩, ⟨9, 45, [45], fun vs _ => vs = [.bool false]⟩, ⟨10, 46, [46], fun vs _ => vs = [.bool false]⟩, ⟨11, 47, [47], fun vs _ => vs = [.int .i64 6]⟩, ⟨12, 48, [48], fun vs _ => vs = [.bool false]⟩, ⟨13, 49, [49], fun vs _ => vs = [.bool false]⟩, ⟨14, 50, [50], fun vs _ => vs = [.bool false]⟩, ⟨15, 51, [51], fun vs _ => vs = [.slice aw 2 cw]⟩, ⟨16, 52, [52], fun vs _ => vs = [.int .i64 2]⟩, ⟨17, 53, [53], fun vs _ => vs = [.bool false]⟩, ⟨18, 54, [54], fun vs _ => vs = [.bool false]⟩, ⟨19, 55, [55], fun vs _ => vs = [.bool false]⟩, ⟨20, 56, [56], fun vs _ => vs = [H.v]⟩, ⟨21, 57, [57], SyF 39 handL⟩, ⟨22, 58, [58], fun vs _ => vs = [.agg #[.slice a1 n1 c1, .slice a2 n2 c2, .slice a3 n3 c3]]⟩, ⟨23, 59, [59], fun vs _ => vs = [.int .i64 0]⟩, ⟨24, 60, [60], fun vs _ => vs = [.bool false]⟩] (by kernel_rfl) (by kernel_rfl) ?_ ?_ ?_
          · simp only [All]
            refine ⟨fun _ _ _ _ h => h, fun _ _ _ _ h => h, fun _ _ _ _ h => h, fun _ _ _ _ h => h, fun _ _ _ _ h => h, fun _ _ _ _ h => h, fun _ _ _ _ h => h, fun _ _ _ _ h => h, fun _ _ _ _ h => h, fun _ _ _ _ h => h, fun _ _ _ _ h => h, fun _ _ _ _ h => h, fun _ _ _ _ h => h, fun _ _ _ _ h => h, fun _ _ _ _ h => h, fun _ _ _ _ h => h, fun _ _ _ _ h => h, fun _ _ _ _ h => h, fun _ _ _ _ h => h, fun _ _ _ _ h => h, fun _ _ _ _ h => h, ?_, fun _ _ _ _ h => h, fun _ _ _ _ h => h, fun _ _ _ _ h => h, trivial⟩
            · exact fun vs w1 w2 hb h => h.below hb
          · simp only [All]
            refine ⟨?_, ?_, ?_, ?_, ?_, ?_, ?_, ?_, ?_, ?_, ?_, ?_, ?_, ?_, ?_, ?_, ?_, ?_, ?_, ?_, ?_, ?_, ?_, ?_, ?_, trivial⟩
            · intro o ho a' w' hb hfr hdep
              obtain rfl := Option.some.inj ho
              have g3 : a'.tmps[3]?.getD undef = .int .i64 0 := by have h := hfr 3 (by kernel_rfl); simpa using h
              clear ho hfr hdep
              go_wp2_with fail
              exact ⟨rfl, _, rfl, Below.refl _ _, rfl⟩
            · intro o ho a' w' hb hfr hdep
              obtain rfl := Option.some.inj ho
              have g36 : a'.tmps[36]?.getD undef = .int .i64 0 := by have h := hdep 0 _ rfl (by kernel_rfl); simpa using h
              clear ho hfr hdep
              go_wp2_with fail
              exact ⟨rfl, _, rfl, Below.refl _ _, rfl⟩
            · intro o ho a' w' hb hfr hdep
              obtain rfl := Option.some.inj ho
              have g37 : a'.tmps[37]?.getD undef = .bool false := by have h := hdep 1 _ rfl (by kernel_rfl); simpa using h
              clear ho hfr hdep
              go_wp2_with fail
              exact ⟨rfl, _, rfl, Below.refl _ _, rfl⟩
            · intro o ho a' w' hb hfr hdep
              obtain rfl := Option.some.inj ho
              have g5 : a'.tmps[5]?.getD undef = .int .i64 0 := by have h := hfr 5 (by kernel_rfl); simpa using h
              have g38 : a'.tmps[38]?.getD undef = .bool false := by have h := hdep 2 _ rfl (by kernel_rfl); simpa using h
              have q38 := opt_bool g38
              clear ho hfr hdep
              refine unguard_any (by simp [Region.wanted, yielded, q38]) ?_
              go_wp2_with fail
              exact ⟨rfl, _, rfl, Below.refl _ _, rfl⟩
            · intro o ho a' w' hb hfr hdep
              obtain rfl := Option.some.inj ho
              have g39 : a'.tmps[39]?.getD undef = .int .i64 0 := by have h := hdep 3 _ rfl (by kernel_rfl); simpa using h
              have g38 : a'.tmps[38]?.getD undef = .bool false := by have h := hdep 2 _ rfl (by kernel_rfl); simpa using h
              have q38 := opt_bool g38
              clear ho hfr hdep
              refine unguard_any (by simp [Region.wanted, yielded, q38]) ?_
              go_wp2_with fail
              exact ⟨rfl, _, rfl, Below.refl _ _, rfl⟩
            · intro o ho a' w' hb hfr hdep
              obtain rfl := Option.some.inj ho
              have g38 : a'.tmps[38]?.getD undef = .bool false := by have h := hdep 2 _ rfl (by kernel_rfl); simpa using h
              have g40 : a'.tmps[40]?.getD undef = .bool false := by have h := hdep 4 _ rfl (by kernel_rfl); simpa using h
              clear ho hfr hdep
              go_wp2_with fail
              exact ⟨rfl, _, rfl, Below.refl _ _, rfl⟩
            · intro o ho a' w' hb hfr hdep
              obtain rfl := Option.some.inj ho
              have g41 : a'.tmps[41]?.getD undef = .bool false := by have h := hdep 5 _ rfl (by kernel_rfl); simpa using h
              clear ho hfr hdep
              go_wp2_with fail
              exact ⟨rfl, _, rfl, Below.refl _ _, rfl⟩
            · intro o ho a' w' hb hfr hdep
              obtain rfl := Option.some.inj ho
              have g7 : a'.tmps[7]?.getD undef = .int .i64 0 := by have h := hfr 7 (by kernel_rfl); simpa using h
              have g42 : a'.tmps[42]?.getD undef = .bool false := by have h := hdep 6 _ rfl (by kernel_rfl); simpa using h
              have q42 := opt_bool g42
              clear ho hfr hdep
              refine unguard_any (by simp [Region.wanted, yielded, q42]) ?_
              go_wp2_with fail
              exact ⟨rfl, _, rfl, Below.refl _ _, rfl⟩
            · intro o ho a' w' hb hfr hdep
              obtain rfl := Option.some.inj ho
              have g43 : a'.tmps[43]?.getD undef = .int .i64 0 := by have h := hdep 7 _ rfl (by kernel_rfl); simpa using h
              have g42 : a'.tmps[42]?.getD undef = .bool false := by have h := hdep 6 _ rfl (by kernel_rfl); simpa using h
              have q42 := opt_bool g42
              clear ho hfr hdep
              refine unguard_any (by simp [Region.wanted, yielded, q42]) ?_
              go_wp2_with fail
              exact ⟨rfl, _, rfl, Below.refl _ _, rfl⟩
            · intro o ho a' w' hb hfr hdep
              obtain rfl := Option.some.inj ho
              have g42 : a'.tmps[42]?.getD undef = .bool false := by have h := hdep 6 _ rfl (by kernel_rfl); simpa using h
              have g44 : a'.tmps[44]?.getD undef = .bool false := by have h := hdep 8 _ rfl (by kernel_rfl); simpa using h
              clear ho hfr hdep
              go_wp2_with fail
              exact ⟨rfl, _, rfl, Below.refl _ _, rfl⟩
            · intro o ho a' w' hb hfr hdep
              obtain rfl := Option.some.inj ho
              have g45 : a'.tmps[45]?.getD undef = .bool false := by have h := hdep 9 _ rfl (by kernel_rfl); simpa using h
              clear ho hfr hdep
              go_wp2_with fail
              exact ⟨rfl, _, rfl, Below.refl _ _, rfl⟩
            · intro o ho a' w' hb hfr hdep
              obtain rfl := Option.some.inj ho
              have g9 : a'.tmps[9]?.getD undef = .int .i64 6 := by have h := hfr 9 (by kernel_rfl); simpa using h
              have g46 : a'.tmps[46]?.getD undef = .bool false := by have h := hdep 10 _ rfl (by kernel_rfl); simpa using h
              have q46 := opt_bool g46
              clear ho hfr hdep
              refine unguard_any (by simp [Region.wanted, yielded, q46]) ?_
              go_wp2_with fail
              exact ⟨rfl, _, rfl, Below.refl _ _, rfl⟩
            · intro o ho a' w' hb hfr hdep
              obtain rfl := Option.some.inj ho
              have g47 : a'.tmps[47]?.getD undef = .int .i64 6 := by have h := hdep 11 _ rfl (by kernel_rfl); simpa using h
              have g46 : a'.tmps[46]?.getD undef = .bool false := by have h := hdep 10 _ rfl (by kernel_rfl); simpa using h
              have q46 := opt_bool g46
              clear ho hfr hdep
              refine unguard_any (by simp [Region.wanted, yielded, q46]) ?_
              go_wp2_with fail
              exact ⟨rfl, _, rfl, Below.refl _ _, rfl⟩
            · intro o ho a' w' hb hfr hdep
              obtain rfl := Option.some.inj ho
              have g46 : a'.tmps[46]?.getD undef = .bool false := by have h := hdep 10 _ rfl (by kernel_rfl); simpa using h
              have g48 : a'.tmps[48]?.getD undef = .bool false := by have h := hdep 12 _ rfl (by kernel_rfl); simpa using h
              clear ho hfr hdep
              go_wp2_with fail
              exact ⟨rfl, _, rfl, Below.refl _ _, rfl⟩
            · intro o ho a' w' hb hfr hdep
              obtain rfl := Option.some.inj ho
              have g49 : a'.tmps[49]?.getD undef = .bool false := by have h := hdep 13 _ rfl (by kernel_rfl); simpa using h
              clear ho hfr hdep
              go_wp2_with fail
              exact ⟨rfl, _, rfl, Below.refl _ _, rfl⟩
            · intro o ho a' w' hb hfr hdep
              obtain rfl := Option.some.inj ho
              have g6 : a'.tmps[6]?.getD undef = .slice aw 2 cw := by have h := hfr 6 (by kernel_rfl); simpa using h
              have g50 : a'.tmps[50]?.getD undef = .bool false := by have h := hdep 14 _ rfl (by kernel_rfl); simpa using h
              have q50 := opt_bool g50
              clear ho hfr hdep
              refine unguard_any (by simp [Region.wanted, yielded, q50]) ?_
              go_wp2_with fail
              exact ⟨rfl, _, rfl, Below.refl _ _, rfl⟩
            · intro o ho a' w' hb hfr hdep
              obtain rfl := Option.some.inj ho
              have g51 : a'.tmps[51]?.getD undef = .slice aw 2 cw := by have h := hdep 15 _ rfl (by kernel_rfl); simpa using h
              have g50 : a'.tmps[50]?.getD undef = .bool false := by have h := hdep 14 _ rfl (by kernel_rfl); simpa using h
              have q50 := opt_bool g50
              clear ho hfr hdep
              refine unguard_any (by simp [Region.wanted, yielded, q50]) ?_
              go_wp2_with fail
              exact ⟨rfl, _, rfl, Below.refl _ _, rfl⟩
            · intro o ho a' w' hb hfr hdep
              obtain rfl := Option.some.inj ho
              have g52 : a'.tmps[52]?.getD undef = .int .i64 2 := by have h := hdep 16 _ rfl (by kernel_rfl); simpa using h
              have g50 : a'.tmps[50]?.getD undef = .bool false := by have h := hdep 14 _ rfl (by kernel_rfl); simpa using h
              have q50 := opt_bool g50
              clear ho hfr hdep
              refine unguard_any (by simp [Region.wanted, yielded, q50]) ?_
              go_wp2_with fail
              exact ⟨rfl, _, rfl, Below.refl _ _, rfl⟩
            · intro o ho a' w' hb hfr hdep
              obtain rfl := Option.some.inj ho
              have g50 : a'.tmps[50]?.getD undef = .bool false := by have h := hdep 14 _ rfl (by kernel_rfl); simpa using h
              have g53 : a'.tmps[53]?.getD undef = .bool false := by have h := hdep 17 _ rfl (by kernel_rfl); simpa using h
              clear ho hfr hdep
              go_wp2_with fail
              exact ⟨rfl, _, rfl, Below.refl _ _, rfl⟩
            · intro o ho a' w' hb hfr hdep
              obtain rfl := Option.some.inj ho
              have g54 : a'.tmps[54]?.getD undef = .bool false := by have h := hdep 18 _ rfl (by kernel_rfl); simpa using h
              clear ho hfr hdep
              go_wp2_with fail
              exact ⟨rfl, _, rfl, Below.refl _ _, rfl⟩
            · intro o ho a' w' hb hfr hdep
              obtain rfl := Option.some.inj ho
              have g1 : a'.tmps[1]?.getD undef = .pointer (some ⟨gT, 0, none⟩) := by have h := hfr 1 (by kernel_rfl); simpa using h
              have g55 : a'.tmps[55]?.getD undef = .bool false := by have h := hdep 19 _ rfl (by kernel_rfl); simpa using h
              have q55 := opt_bool g55
              clear ho hfr hdep
              refine unguard_any (by simp [Region.wanted, yielded, q55]) ?_
              refine load_struct 56 29 _ 7 size_tables _ Try.underlying29 ⟨gT, 0, none⟩ (by show a'.tmps.getD 1 undef = _; simpa using g1) (tcells H) rfl (fun j u hj => by rw [Addr.add_lit, Nat.zero_add]; exact (HX.under hb).at_ hj) ?_
              exact ⟨rfl, _, rfl, Below.refl _ _, rfl⟩
            · intro o ho a' w' hb hfr hdep
              obtain rfl := Option.some.inj ho
              have g55 : a'.tmps[55]?.getD undef = .bool false := by have h := hdep 19 _ rfl (by kernel_rfl); simpa using h
              have q55 := opt_bool g55
              clear ho hfr hdep
              refine unguard_any (by simp [Region.wanted, yielded, q55]) ?_
              have hwd := hide (word_at symsOf_hand (by decide) 39 (by decide) w')
              go_wp2_with (go_at_call 46; refine hwd.out.mono ?_; rintro e w3 ⟨v, rfl, hsy, h3⟩)
              exact ⟨rfl, _, rfl, h3, hsy⟩
            · intro o ho a' w' hb hfr hdep
              obtain rfl := Option.some.inj ho
              have g2 : a'.tmps[2]?.getD undef = .pointer (some ⟨bC, 0, none⟩) := by have h := hfr 2 (by kernel_rfl); simpa using h
              have g55 : a'.tmps[55]?.getD undef = .bool false := by have h := hdep 19 _ rfl (by kernel_rfl); simpa using h
              have q55 := opt_bool g55
              clear ho hfr hdep
              refine unguard_any (by simp [Region.wanted, yielded, q55]) ?_
              refine load_struct 58 39 _ 3 size_cert _ Try.underlying39 ⟨bC, 0, none⟩ (by show a'.tmps.getD 2 undef = _; simpa using g2) [.slice a1 n1 c1, .slice a2 n2 c2, .slice a3 n3 c3] rfl (fun j u hj => by rw [Addr.add_lit, Nat.zero_add]; exact (HC.under hb).at_ hj) ?_
              exact ⟨rfl, _, rfl, Below.refl _ _, rfl⟩
            · intro o ho a' w' hb hfr hdep
              obtain rfl := Option.some.inj ho
              have g56 : a'.tmps[56]?.getD undef = H.v := by have h := hdep 20 _ rfl (by kernel_rfl); simpa using h
              obtain ⟨a57, n57, c57, g57, s57⟩ := hdep 21 _ rfl (by kernel_rfl)
              simp at g57
              have g58 : a'.tmps[58]?.getD undef = .agg #[.slice a1 n1 c1, .slice a2 n2 c2, .slice a3 n3 c3] := by have h := hdep 22 _ rfl (by kernel_rfl); simpa using h
              have g55 : a'.tmps[55]?.getD undef = .bool false := by have h := hdep 19 _ rfl (by kernel_rfl); simpa using h
              have q55 := opt_bool g55
              clear ho hfr hdep
              refine unguard_any (by simp [Region.wanted, yielded, q55]) ?_
              have hck := hide (con_Check H exD handL a57 n57 c57 (trC exD handL) (trK exD handL) (trA exD handL) hs3 a1 a2 a3 n1 c1 n2 c2 n3 c3 w' (HT.below hb) (s57 w' (KeepsX.refl _ _)) (HS1.below hb) (HS2.below hb) (HS3.below hb) ex_few ex_bd)
              rw [ex_ck] at hck
              go_wp2_with (go_at_call 27; refine hck.out.mono ?_; rintro e w3 ⟨rfl, h3⟩)
              exact ⟨rfl, _, rfl, h3, rfl⟩
            · intro o ho a' w' hb hfr hdep
              obtain rfl := Option.some.inj ho
              have g59 : a'.tmps[59]?.getD undef = .int .i64 0 := by have h := hdep 23 _ rfl (by kernel_rfl); simpa using h
              have g55 : a'.tmps[55]?.getD undef = .bool false := by have h := hdep 19 _ rfl (by kernel_rfl); simpa using h
              have q55 := opt_bool g55
              clear ho hfr hdep
              refine unguard_any (by simp [Region.wanted, yielded, q55]) ?_
              go_wp2_with fail
              exact ⟨rfl, _, rfl, Below.refl _ _, rfl⟩
          · intro gg w9 hb9 hp'
            have p55 := hp' 19 _ rfl
            have p60 := hp' 24 _ rfl
            clear hp'
            simp at p55 p60
            simp only [List.drop_succ_cons, List.drop_zero, List.map_cons, List.map_nil, putAll, Act.put, List.setIfInBounds_toArray, List.set_cons_succ, List.set_cons_zero, List.cons_append, List.nil_append, p55, p60]
            clear p55 p60
            have HXn := HX.under hb9
            have HTn := HT.below hb9
            have hbn := hbw.trans (hb9.mono hbw.size)
            have HCn := HC.under hb9
            have HS1n := HS1.below hb9
            have HS2n := HS2.below hb9
            have HS3n := HS3.below hb9
            have hPln := hPl.below hb9
            have hWdn := hWd.below hb9
            clear HX HT hbw hb9 HC HS1 HS2 HS3 hPl hWd
            have HX := HXn
            have HT := HTn
            have hbw := hbn
            have HC := HCn
            have HS1 := HS1n
            have HS2 := HS2n
            have HS3 := HS3n
            have hPl := hPln
            have hWd := hWdn
            clear HXn HTn hbn HCn HS1n HS2n HS3n hPln hWdn
            clear W0
            obtain ⟨W0, rfl⟩ : ∃ w' : World, w' = w9 := ⟨_, rfl⟩

            clear HX HT HS2 HS3
            have cC : W0.cell? ⟨bC, 0, none⟩ = some (.slice a1 n1 c1) := HC.at_ rfl
            have HS1' := HS1
            rw [ex_trC] at HS1'
            rw [ex_plC] at hPl
            have al1 := blo W0 (.cells #[.int .u8 8, .int .u8 28] 5)
            have hsm1 := hide (same_at (x := [8, 28]) (y := [8, 28]) rfl (HS1'.below al1) (Sl.fresh W0 5 1 2 (([8, 28] : List UInt8).map B8) rfl (by decide)))
            clear HC HS1 HS1'
            go_wp2_with (go_at_call 20; refine hsm1.out.mono ?_; rintro e W1 ⟨rfl, hb1⟩; refine hold ?_)
            refine hide ?_
            have hq := al1.trans (hb1.mono al1.size)
            have hPl1 := hPl.below hq
            have hWd1 := hWd.below hq
            have hbw1 := hbw.trans (hq.mono hbw.size)
            clear hsm1 al1 hb1 hq hPl hWd hbw cC
            have al1 := blo W1 (.cells #[.int .u8 8, .int .u8 1, .int .u8 14, .int .u8 4] 5)
            have hsm1 := hide (same_at (x := [8, 1, 14, 4]) (y := [8, 1, 14, 4]) rfl (hPl1.below al1) (Sl.fresh W1 5 1 4 (([8, 1, 14, 4] : List UInt8).map B8) rfl (by decide)))
            go_wp2_with (first
              | (go_at_call 20; refine hsm1.out.mono ?_; rintro e W2 ⟨rfl, hb1⟩; refine hold ?_)
              | (refine unguard_any (by first | rfl | (simp [Region.wanted, yielded, Act.put]; done)) ?_; go_at_call 20; refine hsm1.out.mono ?_; rintro e W2 ⟨rfl, hb1⟩; refine hold ?_))
            refine hide ?_
            have hq := al1.trans (hb1.mono al1.size)
            have hWd2 := hWd1.below hq
            have hbw2 := hbw1.trans (hq.mono hbw1.size)
            clear hsm1 al1 hb1 hq hPl1 hWd1 hbw1
            obtain ⟨⟨x0, y0, z0⟩, hx0⟩ : ∃ h, hsw[0]? = some h := ⟨_, List.getElem?_eq_getElem (by rw [hWd2.len]; decide)⟩
            obtain ⟨⟨x1, y1, z1⟩, hx1⟩ : ∃ h, hsw[1]? = some h := ⟨_, List.getElem?_eq_getElem (by rw [hWd2.len]; decide)⟩
            have hr0 := hWd2.row 0 _ _ hx0 rfl
            have hr1 := hWd2.row 1 _ _ hx1 rfl
            have hu0 : (hsw.map hdv)[0]? = some (.slice x0 y0 z0) := by rw [List.getElem?_map, hx0]; rfl
            have hu1 : (hsw.map hdv)[1]? = some (.slice x1 y1 z1) := by rw [List.getElem?_map, hx1]; rfl
            have htop := hWd2.top
            clear hx0 hx1 hWd2
            have al1 := blo W2 (.cells #[.int .i64 2, .int .i64 2] 3)
            have hsm1 := hide (ints_at (x := [2, 2]) (y := [2, 2]) rfl (hr0.below al1) (Sl.fresh W2 3 1 2 (([2, 2] : List Int).map I64) rfl (by decide)))
            go_wp2_with (first
              | (refine unguard_any (by first | rfl | (simp [Region.wanted, yielded, Act.put]; done)) ?_; with_reducible refine idx_ii 73 _ _ aw 2 cw _ rfl htop _ _ 0 rfl rfl _ hu0 ?_; intro bI oI hcI hbI)
              | (go_at_call 26; refine hsm1.out.mono ?_; rintro e W3 ⟨rfl, hb1⟩; refine hold ?_))
            refine hide ?_
            have hq := al1.trans (hb1.mono al1.size)
            have hr3 := hr1.below hq
            have htop3 := htop.below hq
            have hbw3 := hbw2.trans (hq.mono hbw2.size)
            clear hsm1 al1 hb1 hq hr0 hr1 htop hbw2 hcI hbI
            have al1 := blo W3 (.cells #[.int .i64 2] 3)
            have hsm1 := hide (ints_at (x := [2]) (y := [2]) rfl (hr3.below al1) (Sl.fresh W3 3 1 1 (([2] : List Int).map I64) rfl (by decide)))
            go_wp2_with (first
              | (refine unguard_any (by first | rfl | (simp [Region.wanted, yielded, Act.put]; done)) ?_; with_reducible refine idx_ii 80 _ _ aw 2 cw _ rfl htop3 _ _ 1 rfl rfl _ hu1 ?_; intro bI oI hcI hbI)
              | (go_at_call 26; refine hsm1.out.mono ?_; rintro e W4 ⟨rfl, hb1⟩; refine hold ?_))
            refine hide ?_
            have hq := al1.trans (hb1.mono al1.size)
            have hbw4 := hbw3.trans (hq.mono hbw3.size)
            clear hsm1 al1 hb1 hq hr3 htop3 hbw3 hcI hbI
            go_wp2_with fail
            go_ret
            exact ⟨rfl, hbw4⟩
end Go.Proofs.Ytlpkicjijlcbfaa
end

/- the text DL1 -/
section
/- Chapter 08: the walk of ContractFewest. -/
set_option linter.unusedVariables false
namespace Go.Dx
open Go.RowKit
end Go.Dx
namespace Go.Proofs.Ytlpkicjijlcbfaa
open Go.RowKit Go.Dx Go.Al
end Go.Proofs.Ytlpkicjijlcbfaa
end

/- the text E5 -/
section
/- Chapter 08: odd texts; certificates of both kinds; are they equal. -/
set_option linter.unusedVariables false
namespace Go.Proofs.Ytlpkicjijlcbfaa
open Go.RowKit Go.Dx Go.Al
section
variable {w : World} {ops : Array Oper} {rest : List Oper} {o : Oper} {act : Act} {Q : Exit → Act → World → Prop}
/-- 'append(out, l...)' on []Sym -/
theorem app_ysl (hg : o.guard = none) (s x : Operand) (hop : o.op = Op.call { callee := Callee.builtin Builtin.append, args := #[s, x], argTypes := #[31, 31] })
    (w0 : World) (B : Nat) (a : Option Addr) (n c : Nat) (xs : List Value) (hs : act.eval s = .slice a n c) (hown : Go.Dx.Own w B 88 2 a n c xs)
    (a2 : Option Addr) (m c2 : Nat) (ys : List Sy) (hx : act.eval x = .slice a2 m c2) (hy : Sl w 2 a2 m c2 (ys.flatMap sc))
    (hn : n + m ≤ 1000000) (hB : B ≤ w.heap.size) (hbel : Below B w0 w)
    (hK : ∀ a' c' w', Go.Dx.Own w' B 88 2 a' (n + m) c' (xs ++ ys.flatMap sc) → w.grownBy w' (a.map (·.block)) → Below B w0 w' → wpList Try.prog ops Q rest (act.put o.dst (.slice a' (n + m) c')) w') :
    wpList Try.prog ops Q (o :: rest) act w :=
  append_own hg s x 31 hop 88 zeroSym 2 16 Try.underlying31 info_sym rfl w0 B a n c xs hs hown a2 m c2 (ys.flatMap sc) hx hy (one_flat sc_one ys) (by omega) (by unfold maxLen; omega) hB hbel hK
end
/-- the symbol that odd adds -/
def oddS (by_ : Int) : Sy := ⟨(aroundF by_ 5 : Int) - 1, ([97, 31, 127, 126, 49] : List UInt8).getD (aroundF (by_.tdiv 5) 5) 0⟩
set_option maxRecDepth 100000 in
set_option maxHeartbeats 4000000 in
theorem law8_odd (l : List Sy) (a : Option Addr) (n c : Nat) (by_ : Int) (w : World) (hs : Sl w 2 a n c (l.flatMap sc)) (hn : n ≤ 10000) (hby : -9223372036854775808 ≤ by_ ∧ by_ ≤ 9223372036854775807) :
    Calls Try.prog 11 #[.slice a n c, .int .i64 by_] w fun e w' => ∃ a' c', e = .returned (.slice a' (n + 1) c') ∧ Go.Dx.Own w' w.heap.size 88 2 a' (n + 1) c' ((l ++ [oddS by_]).flatMap sc) ∧ Below w.heap.size w w' := by
  obtain ⟨r1, hr1⟩ : ∃ r, Hid (aroundF by_ 5 = r) := ⟨_, hide rfl⟩
  obtain ⟨r2, hr2⟩ : ∃ r, Hid (aroundF (by_.tdiv 5) 5 = r) := ⟨_, hide rfl⟩
  have hl1 : r1 < 5 := by rw [← hr1.out]; exact aroundF_lt (by decide)
  have hl2 : r2 < 5 := by rw [← hr2.out]; exact aroundF_lt (by decide)
  obtain ⟨hd0, hd1⟩ := tdiv_in hby.1 hby.2 (d := 5) (by decide)
  have hA1 := hide (fun w' => ref_Around by_ 5 5 w' rfl hby.1 hby.2 (by decide) (by decide))
  have hA2 := hide (fun w' => ref_Around (by_.tdiv 5) 5 5 w' rfl hd0 hd1 (by decide) (by decide))
  rw [hr1.out] at hA1
  rw [hr2.out] at hA2
  obtain ⟨cc, hcc⟩ : ∃ c, Hid (([97, 31, 127, 126, 49] : List UInt8)[r2]? = some c) := ⟨_, hide (List.getElem?_eq_getElem (by simpa using hl2))⟩
  have hS : Hid (oddS by_ = ⟨(r1 : Int) - 1, cc⟩) := hide (by unfold oddS; rw [hr1.out, hr2.out, List.getD_eq_getElem?_getD, hcc.out]; rfl)
  rw [hS.out]
  have ho := Go.Dx.Own.built w w.heap.size 88 2 0 #[] (Nat.le_refl _) rfl (by decide)
  have hal := blo w (.cells #[] 88)
  have hsz : w.heap.size ≤ (w.alloc (.cells #[] 88)).heap.size := hal.size
  have hs6 := hs.below hal
  clear hs
  go_enter Try.func11, Try.ntmps11
  go_wp2_with (at_builtin; refine app_ysl rfl _ _ rfl w w.heap.size _ 0 0 _ rfl ho a n c l rfl hs6 (by omega) hsz hal ?_; intro aP cP w7 hO7 gb7 hb7; refine hold ?_)
  refine hide ?_
  rw [Nat.zero_add] at hO7
  clear ho hal hsz hs6 gb7
  have hl3 : r2 < 5 := hl2
  have hlit : (w7.alloc (.cells #[.int .u8 97, .int .u8 31, .int .u8 127, .int .u8 126, .int .u8 49] 5)).cell? ⟨w7.heap.size, r2, none⟩ = some (.int .u8 (cc.toNat : Int)) := by
    have h := Box.new w7 5 (([97, 31, 127, 126, 49] : List UInt8).map B8).toArray
    exact h.at_ (j := r2) (by rw [List.toList_toArray, List.getElem?_map, hcc.out]; rfl)
  have hal7 := blo w7 (.cells #[.int .u8 97, .int .u8 31, .int .u8 127, .int .u8 126, .int .u8 49] 5)
  have hO8 := hO7.below hal7
  have hb8 := hb7.trans (hal7.mono hb7.size)
  go_wp2_with (first
    | (go_at_call 23; refine (hA1.out _).mono ?_; rintro e w8 ⟨rfl, rfl⟩; refine hold ?_))
  refine hide ?_
  go_wp2_with (first
    | (go_at_call 23; refine (hA2.out _).mono ?_; rintro e w8 ⟨rfl, rfl⟩; refine hold ?_))
  refine hide ?_
  generalize w7.alloc (.cells #[.int .u8 97, .int .u8 31, .int .u8 127, .int .u8 126, .int .u8 49] 5) = w8 at *
  obtain ⟨g7, hg7⟩ : ∃ g, Hid (w7.heap.size = g) := ⟨_, hide rfl⟩
  rw [hg7.out] at hlit ⊢
  clear hal7 hO7 hb7
  go_wp2_with (first
    | (at_builtin; refine app_sy rfl _ _ rfl w w.heap.size aP n cP _ rfl hO8 ⟨(r1 : Int) - 1, cc⟩ rfl (by omega) hb8.size hb8 ?_; intro a' c' w9 ho9 _ hb9; refine hold ?_))
  refine hide ?_
  go_wp2_with fail
  go_ret
  exact ⟨a', c', rfl, by rw [List.flatMap_append, List.flatMap_singleton]; exact ho9, hb9⟩
end Go.Proofs.Ytlpkicjijlcbfaa
end

/- the text E6 -/
section
/- Chapter 08: what the laws against the reference share. -/
set_option linter.unusedVariables false
namespace Go.Proofs.Ytlpkicjijlcbfaa
open Go.RowKit Go.Dx Go.Al
theorem rtr_at (H : TH) (t : Ta) (l : List Sy) (a : Option Addr) (n c : Nat) (w : World) (hT : TaIs w H t) (hs : Sl w 2 a n c (l.flatMap sc)) {X : Int} {C : List UInt8} {K : List Int} {A : Nums} (hX : trE t l = X) (hC : trC t l = C) (hK : trK t l = K) (hA : trA t l = A) :
    Calls Try.prog 14 #[H.v, .slice a n c] w fun e w' => (∃ v, e = .returned (.tuple #[v, .int .i64 X]) ∧ CeT 43 w' v C K A) ∧ Below w.heap.size w w' := by
  subst hX hC hK hA
  exact ref8_Translate H t l a n c w hT hs
end Go.Proofs.Ytlpkicjijlcbfaa
end

/- the text E7 -/
section
/- Chapter 08: the reference's Plain. -/
set_option linter.unusedVariables false
set_option linter.unusedSimpArgs false
namespace Go.Dx
end Go.Dx
namespace Go.Proofs.Ytlpkicjijlcbfaa
open Go.RowKit Go.Dx Go.Al
end Go.Proofs.Ytlpkicjijlcbfaa
end

/- the text E8 -/
section
/- Chapter 08: the reference's Width. -/
set_option linter.unusedVariables false
set_option linter.unusedSimpArgs false
namespace Go.Dx
open Go.RowKit
theorem WdI.belowI {w w' : World} {i64 : TypeId} {B : Nat} {hs : List (Option Addr × Nat × Nat)} {X : List (List Int)} (h : WdI w i64 B hs X) (hb : Below w.heap.size w w') : WdI w' i64 B hs X := ⟨h.len, fun j x r hx hr => (h.row j x r hx hr).below hb⟩
theorem WdI.keptO {w w' : World} {i64 tt : TypeId} {B B2 n c sz : Nat} {oa : Option Addr} {cs : List Value} {hs : List (Option Addr × Nat × Nat)} {X : List (List Int)} (h : WdI w i64 B hs X) (hO : Own w B2 tt sz oa n c cs) (hne : i64 ≠ tt) (hg : w.grownBy w' (oa.map (·.block))) : WdI w' i64 B hs X :=
  ⟨h.len, fun j x r hx hr => (h.row j x r hx hr).kept hg (fun p hp => by
    have h1 := h.row j x r hx hr
    rw [hp] at h1
    exact far_map h1 hO hne)⟩
end Go.Dx
namespace Go.Proofs.Ytlpkicjijlcbfaa
open Go.RowKit Go.Dx Go.Al
set_option maxRecDepth 100000 in
set_option maxHeartbeats 16000000 in
theorem ref8_Width (H : TH) (t : Ta) (l : List Sy) (a : Option Addr) (n c : Nat) (pts : List Int) (pa : Option Addr) (pn pc : Nat) (w : World) (hT : TaIs w H t) (hs : Sl w 2 a n c (l.flatMap sc)) (hP : Sl w 1 pa pn pc (pts.map I64)) (hpl : pts.length ≤ 10000) :
    Calls Try.prog 25 #[H.v, .slice a n c, .slice pa pn pc] w fun e w' => GivesWd t l pts e w' ∧ Below w.heap.size w w' := by
  obtain ⟨WE, hWE⟩ : ∃ WE, Hid (wdR t l pts = WE) := ⟨_, hide rfl⟩
  obtain ⟨ER, RW⟩ := WE
  have HPL := hide hpl
  clear hpl
  have Hm := hide hT
  have Hs := hide hs
  have Hp := hide hP
  clear hT hs hP
  obtain ⟨⟨a0, n0, c0⟩, ⟨a1, n1, c1⟩, ps0, ps1, ⟨ad, nd, cd⟩, ⟨ac, nc, cc⟩, ⟨an, nn, cn⟩, ⟨af, nf, cf⟩, ⟨aw, nw, cw⟩⟩ := H
  unfold TH.v GivesWd
  rw [hWE.out]
  simp only [hdv]
  have Y1 := Box.new w 29 #[.slice a0 n0 c0, .slice a1 n1 c1, .slice ad nd cd, .slice ac nc cc, .slice an nn cn, .slice af nf cf, .slice aw nw cw]
  have hba := blo w (.cells #[.slice a0 n0 c0, .slice a1 n1 c1, .slice ad nd cd, .slice ac nc cc, .slice an nn cn, .slice af nf cf, .slice aw nw cw] 29)
  go_enter Try.func25, Try.ntmps25
  go_upto_region 1 with fail
  generalize w.alloc (.cells _ 29) = wa at *
  obtain ⟨H, hH⟩ : ∃ H : TH, H = ⟨(a0, n0, c0), (a1, n1, c1), ps0, ps1, (ad, nd, cd), (ac, nc, cc), (an, nn, cn), (af, nf, cf), (aw, nw, cw)⟩ := ⟨_, rfl⟩
  have HXa : Box wa w.heap.size 29 (tcells H) := by rw [hH]; exact Y1
  have HTa : TaIs wa H t := by rw [hH]; exact Hm.out.below hba
  have HSa := Hs.out.below hba
  have HPa := Hp.out.below hba
  clear hH Hm Hs Hp Y1
  obtain ⟨gT, hgT⟩ : ∃ gT, Hid (w.heap.size = gT) := ⟨_, hide rfl⟩
  rw [hgT.out] at HXa ⊢
  have hfit := hide (ref8_Fits H t l a n c wa HTa HSa)
  obtain ⟨FE, hFE⟩ : ∃ FE, Hid (fitsE t l = FE) := ⟨_, hide rfl⟩
  rw [hFE.out] at hfit
  go_wp2_with (first
    | (with_reducible refine load_struct 17 29 _ 7 size_tables _ Try.underlying29 ⟨gT, 0, none⟩ rfl (tcells H) rfl (fun j u hj => by rw [Addr.add_lit, Nat.zero_add]; exact HXa.at_ hj) ?_)
    | (go_at_call 41; refine hfit.out.mono ?_; rintro e w2 ⟨rfl, hb2⟩; refine hold ?_))
  refine hide ?_
  have HX2 := HXa.under hb2
  have HT2 := HTa.below hb2
  have HS2 := HSa.below hb2
  have HP2 := HPa.below hb2
  have hbl2 := hba.trans (hb2.mono hba.size)
  clear HXa HTa HSa HPa hba hb2 hfit
  by_cases hfe : FE = 0
  · subst hfe
    have hnl : n = l.length := HS2.nf sc_len (by decide)
    have hpn : pn = pts.length := HP2.n_eq
    have HNL := hide hnl
    have HPN := hide hpn
    have hn20 : n ≤ 2048 := by obtain ⟨-, -, h⟩ := fitsE_ok hFE.out; omega
    have hpn4 : pn ≤ 10000 := by have := HPL.out; omega
    clear hnl hpn
    by_cases hz : n = 0 ∧ pn = 0
    · have he : (ER, RW) = (0, []) := by
        rw [← hWE.out]
        exact wdR_nil hFE.out (List.length_eq_zero_iff.1 (by have := HNL.out; omega)) (List.length_eq_zero_iff.1 (by have := HPN.out; omega))
      obtain ⟨rfl, rfl⟩ := Prod.mk.inj he
      obtain ⟨rfl, rfl⟩ := hz
      clear he
      go_wp2_with fail
      go_ret2
      exact ⟨⟨none, 0, 0, [], rfl, Ng.nil _⟩, hbl2⟩
    · have HNZ : Hid (¬ (l = [] ∧ pts = [])) := hide (fun h => hz ⟨by rw [HNL.out, h.1]; rfl, by rw [HPN.out, h.2]; rfl⟩)
      go_upto_region 4 with fail
      go_cut [30] (fun v w' => v = .bool false ∧ w2 = w')
      case first =>
        by_cases h0 : n = 0
        · have h1 : pn ≠ 0 := fun h => hz ⟨h0, h⟩
          have d2 : ((n : Int) == 0) = true := by simp [h0]
          have d3 : ((pn : Int) == 0) = false := by simp [h1]
          clear h0 h1 hz
          go_wp2_with fail
          go_meet
          exact ⟨rfl, rfl⟩
        · have d2 : ((n : Int) == 0) = false := by simp [h0]
          clear h0 hz
          go_wp2_with fail
          go_meet
          exact ⟨rfl, rfl⟩
      case rest =>
        obtain ⟨rfl, rfl⟩ := hcut
        clear hz
        go_upto_region 6 with fail
        have hN1 := Go.Dx.Own.built w2 w2.heap.size 3 1 1 #[.int .i64 0] (Nat.le_refl _) rfl (by decide)
        have hb21 := blo w2 (.cells #[.int .i64 0] 3)
        have HP3 := HP2.below hb21
        have hs21 : w2.heap.size ≤ (w2.alloc (.cells #[.int .i64 0] 3)).heap.size := hb21.size
        go_wp2_with (at_builtin; refine app_is rfl _ _ rfl w2 w2.heap.size (some ⟨w2.heap.size, 0, none⟩) 1 1 _ rfl hN1 pa pn pc pts rfl HP3 (by omega) hs21 hb21 ?_; intro a5 c5 w5 hO5 gb5 hb5; refine hold ?_)
        refine hide ?_
        have hs5 := hb5.size
        clear hN1 hb21 HP3 hs21 gb5 HP2
        go_wp2_with (at_builtin; refine app_i rfl _ _ rfl w5 w2.heap.size a5 (1 + pn) c5 _ rfl hO5 (n : Int) rfl (by omega) hs5 (Below.refl _ _) ?_; intro a6 c6 w7 hO6 gb6 hb6; refine hold ?_)
        refine hide ?_
        have hE0 : ([[0], pts, [(n : Int)]] : List (List Int)).flatten[0]? = some 0 := rfl
        have hEn : ([[0], pts, [(n : Int)]] : List (List Int)).flatten[pn + 1]? = some (n : Int) := by
          rw [HPN.out]
          simp
        have hEl : ([[0], pts, [(n : Int)]] : List (List Int)).flatten.length = pn + 2 := by rw [HPN.out]; simp
        have hE7 : Sl w7 1 a6 (1 + pn + 1) c6 (([[0], pts, [(n : Int)]] : List (List Int)).flatten.map I64) := by
          have h := hO6.sl
          simpa using h
        obtain ⟨E, hE⟩ : ∃ E, Hid (([[0], pts, [(n : Int)]] : List (List Int)).flatten = E) := ⟨_, hide rfl⟩
        rw [hE.out] at hE7 hE0 hEn hEl
        obtain ⟨en, hen⟩ : ∃ en, Hid (E.length = en) := ⟨_, hide rfl⟩
        rw [hen.out] at hEl
        have hen2 : 1 + pn + 1 = en := by omega
        rw [hen2] at hE7 ⊢
        obtain ⟨m, hm⟩ : ∃ m, Hid (m + 1 = en) := ⟨pn + 1, hide (by omega)⟩
        have hm4 : m ≤ 10001 := by have := hm.out; omega
        have hm1 : 1 ≤ m := by have := hm.out; omega
        have HE0' := hide hE0
        have HEn : Hid (E[m]? = some (n : Int)) := hide (by rw [show m = pn + 1 by have := hm.out; omega]; exact hEn)
        have hen1 : 1 ≤ en := by have := hm.out; omega
        have hb27 := hb5.trans hb6
        have HX7 := HX2.under hb27
        have HT7 := HT2.below hb27
        have HS7 := HS2.below hb27
        have hbl7 := hbl2.trans (hb27.mono hbl2.size)
        clear hO5 hO6 gb6 hb6 hb5 hb27 hE0 hEn hEl hen2 HX2 HT2 HS2 hbl2 hs5
        obtain ⟨gb, go, hab, hgb, hcE⟩ := hE7.ex (by rw [List.length_map, hen.out]; omega)
        subst hab
        clear hcE
        go_wp2_with fail
        go_loopg [10] m (fun gh v w' => ∃ j J : Nat, j ≤ m ∧ gh = m - j ∧ v = .int .i64 (J : Int) ∧ Hid (J = j + 1) ∧ Below w7.heap.size w7 w' ∧ (∀ i x y, i < j → E[i]? = some x → E[i + 1]? = some y → x < y))
        case atStart => exact ⟨0, 1, Nat.zero_le _, rfl, rfl, hide rfl, Below.refl _ _, fun i x y h => absurd h (Nat.not_lt_zero _)⟩
        case round =>
          obtain ⟨j, J, hj, rfl, rfl, hJj, hb, hJ⟩ := hrel
          have HJ := hide hJ
          clear hJ
          by_cases hjm : j < m
          · have d3 : decide ((J : Int) < (en : Int)) = true := decide_eq_true (by have := hm.out; have := hJj.out; omega)
            have d3n : decide (J < en) = true := decide_eq_true (by have := hm.out; have := hJj.out; omega)
            have hJ1 : (J : Int) - 1 = (j : Int) := by have := hJj.out; omega
            have hJen : J < en := by have := hm.out; have := hJj.out; omega
            have hEr := hE7.below hb
            obtain ⟨e0, he0⟩ : ∃ e0, E[j]? = some e0 := ⟨_, List.getElem?_eq_getElem (by have := hm.out; have := hen.out; omega)⟩
            obtain ⟨e1, he1⟩ : ∃ e1, E[j + 1]? = some e1 := ⟨_, List.getElem?_eq_getElem (by have := hm.out; have := hen.out; omega)⟩
            have HE0 := hide he0
            have HE1 := hide he1
            obtain ⟨b, o, hab, hbb, hcc⟩ := hEr.ex (by rw [List.length_map, hen.out]; omega)
            injection hab with hab
            injection hab with h1 h2
            subst h1; subst h2
            obtain ⟨q0, hq0⟩ : ∃ q, Hid (go + j = q) := ⟨_, hide rfl⟩
            obtain ⟨q1, hq1⟩ : ∃ q, Hid (go + J = q) := ⟨_, hide rfl⟩
            have ce0 : wr.cell? ⟨gb, q0, none⟩ = some (.int .i64 e0) := by rw [← hq0.out]; exact hcc j _ (by rw [List.getElem?_map, he0]; rfl)
            have ce1 : wr.cell? ⟨gb, q1, none⟩ = some (.int .i64 e1) := by rw [← hq1.out]; rw [hJj.out]; exact hcc (j + 1) _ (by rw [List.getElem?_map, he1]; rfl)
            have hj0 : j < en := by have := hm.out; omega
            have hJ12 : J ≤ 20000 := by have := hm.out; have := hJj.out; omega
            clear he0 he1 hcc hbb
            go_wp2_with fail
            refine wp_region_free 9 [⟨0, 44, [44], fun vs _ => vs = [.slice (some ⟨gb, go, none⟩) en c6]⟩, ⟨1, 45, [45], fun vs _ => vs = [.int .i64 (J : Int)]⟩, ⟨2, 46, [46], fun vs _ => vs = [.pointer (some ⟨gb, q1, none⟩)]⟩, ⟨3, 47, [47], fun vs _ => vs = [.int .i64 e1]⟩, ⟨4, 48, [48], fun vs _ => vs = [.slice (some ⟨gb, go, none⟩) en c6]⟩, ⟨5, 49, [49], fun vs _ => vs = [.int .i64 (J : Int)]⟩, ⟨6, 50, [50], fun vs _ => vs = [.int .i64 (j : Int)]⟩, ⟨7, 51, [51], fun vs _ => vs = [.pointer (some ⟨gb, q0, none⟩)]⟩, ⟨8, 52, [52], fun vs _ => vs = [.int .i64 e0]⟩] (by kernel_rfl) (by kernel_rfl) ?_ ?_ ?_
            · simp only [All]
              refine ⟨fun _ _ _ _ h => h, fun _ _ _ _ h => h, fun _ _ _ _ h => h, fun _ _ _ _ h => h, fun _ _ _ _ h => h, fun _ _ _ _ h => h, fun _ _ _ _ h => h, fun _ _ _ _ h => h, fun _ _ _ _ h => h, trivial⟩
            · simp only [All]
              refine ⟨?_, ?_, ?_, ?_, ?_, ?_, ?_, ?_, ?_, trivial⟩
              · intro o ho a' w' hb hfr hdep
                obtain rfl := Option.some.inj ho
                have g9 : a'.tmps[9]?.getD undef = .slice (some ⟨gb, go, none⟩) en c6 := by have h := hfr 9 (by kernel_rfl); simpa using h
                clear ho hfr hdep
                go_wp2_with fail
                exact ⟨rfl, _, rfl, Below.refl _ _, rfl⟩
              · intro o ho a' w' hb hfr hdep
                obtain rfl := Option.some.inj ho
                have g10 : a'.tmps[10]?.getD undef = .int .i64 (J : Int) := by have h := hfr 10 (by kernel_rfl); simpa using h
                clear ho hfr hdep
                go_wp2_with fail
                exact ⟨rfl, _, rfl, Below.refl _ _, rfl⟩
              · intro o ho a' w' hb hfr hdep
                obtain rfl := Option.some.inj ho
                have g44 : a'.tmps[44]?.getD undef = .slice (some ⟨gb, go, none⟩) en c6 := by have h := hdep 0 _ rfl (by kernel_rfl); simpa using h
                have g45 : a'.tmps[45]?.getD undef = .int .i64 (J : Int) := by have h := hdep 1 _ rfl (by kernel_rfl); simpa using h
                clear ho hfr hdep
                refine index_rowk 46 22 _ _ 3 Try.underlying22 1 size_int gb go en c6 (by show a'.tmps.getD 44 undef = _; simpa using g44) _ _ J (by show a'.tmps.getD 45 undef = _; simpa using g45) rfl hJen ?_
                rw [Nat.mul_one, hq1.out]
                exact ⟨rfl, _, rfl, Below.refl _ _, rfl⟩
              · intro o ho a' w' hb hfr hdep
                obtain rfl := Option.some.inj ho
                have g46 : a'.tmps[46]?.getD undef = .pointer (some ⟨gb, q1, none⟩) := by have h := hdep 2 _ rfl (by kernel_rfl); simpa using h
                clear ho hfr hdep
                have hcl := cell_below ce1 hb
                go_wp2_with fail
                exact ⟨rfl, _, rfl, Below.refl _ _, rfl⟩
              · intro o ho a' w' hb hfr hdep
                obtain rfl := Option.some.inj ho
                have g9 : a'.tmps[9]?.getD undef = .slice (some ⟨gb, go, none⟩) en c6 := by have h := hfr 9 (by kernel_rfl); simpa using h
                clear ho hfr hdep
                go_wp2_with fail
                exact ⟨rfl, _, rfl, Below.refl _ _, rfl⟩
              · intro o ho a' w' hb hfr hdep
                obtain rfl := Option.some.inj ho
                have g10 : a'.tmps[10]?.getD undef = .int .i64 (J : Int) := by have h := hfr 10 (by kernel_rfl); simpa using h
                clear ho hfr hdep
                go_wp2_with fail
                exact ⟨rfl, _, rfl, Below.refl _ _, rfl⟩
              · intro o ho a' w' hb hfr hdep
                obtain rfl := Option.some.inj ho
                have g49 : a'.tmps[49]?.getD undef = .int .i64 (J : Int) := by have h := hdep 5 _ rfl (by kernel_rfl); simpa using h
                clear ho hfr hdep
                go_wp2_with fail
                exact ⟨rfl, _, rfl, Below.refl _ _, rfl⟩
              · intro o ho a' w' hb hfr hdep
                obtain rfl := Option.some.inj ho
                have g48 : a'.tmps[48]?.getD undef = .slice (some ⟨gb, go, none⟩) en c6 := by have h := hdep 4 _ rfl (by kernel_rfl); simpa using h
                have g50 : a'.tmps[50]?.getD undef = .int .i64 (j : Int) := by have h := hdep 6 _ rfl (by kernel_rfl); simpa using h
                clear ho hfr hdep
                refine index_rowk 51 22 _ _ 3 Try.underlying22 1 size_int gb go en c6 (by show a'.tmps.getD 48 undef = _; simpa using g48) _ _ j (by show a'.tmps.getD 50 undef = _; simpa using g50) rfl hj0 ?_
                rw [Nat.mul_one, hq0.out]
                exact ⟨rfl, _, rfl, Below.refl _ _, rfl⟩
              · intro o ho a' w' hb hfr hdep
                obtain rfl := Option.some.inj ho
                have g51 : a'.tmps[51]?.getD undef = .pointer (some ⟨gb, q0, none⟩) := by have h := hdep 7 _ rfl (by kernel_rfl); simpa using h
                clear ho hfr hdep
                have hcl := cell_below ce0 hb
                go_wp2_with fail
                exact ⟨rfl, _, rfl, Below.refl _ _, rfl⟩
            · intro gg w9 hbl hp'
              have p47 := hp' 3 _ rfl
              have p52 := hp' 8 _ rfl
              clear hp'
              simp at p47 p52
              simp only [List.drop_succ_cons, List.drop_zero, List.map_cons, List.map_nil, putAll, Act.put, List.setIfInBounds_toArray, List.set_cons_succ, List.set_cons_zero, List.cons_append, List.nil_append, p47, p52]
              clear p47 p52
              have hb9 := hb.trans (hbl.mono hb.size)
              clear hEr hb hbl ce0 ce1
              by_cases hle : e1 ≤ e0
              · have d4 : decide (e1 ≤ e0) = true := decide_eq_true hle
                have he : (ER, RW) = (1, []) := by
                  rw [← hWE.out]
                  exact wdR_arg hFE.out HNZ.out (by rw [← HNL.out]; exact hE.out) (inc_not HE0.out HE1.out hle)
                obtain ⟨rfl, rfl⟩ := Prod.mk.inj he
                clear he
                go_wp2_with fail
                go_ret2
                exact ⟨⟨none, 0, 0, [], rfl, Ng.nil _⟩, hbl7.trans (hb9.mono hbl7.size)⟩
              · have d4 : decide (e1 ≤ e0) = false := decide_eq_false hle
                have HJ2 : Hid (∀ i x y, i < j + 1 → E[i]? = some x → E[i + 1]? = some y → x < y) := hide (fun i x y hi hx hy => by
                  by_cases h : i = j
                  · subst h
                    rw [HE0.out] at hx
                    rw [HE1.out] at hy
                    injection hx with hx
                    injection hy with hy
                    omega
                  · exact HJ.out i x y (by omega) hx hy)
                go_wp2_with fail
                go_roundg (m - (j + 1))
                case measure => omega
                case rel => exact ⟨j + 1, J + 1, by omega, rfl, by go_num, hide (by have := hJj.out; omega), hb9, HJ2.out⟩
          · obtain rfl : j = m := by omega
            have d3 : decide ((J : Int) < (en : Int)) = false := decide_eq_false (by have := hm.out; have := hJj.out; omega)
            have d3n : decide (J < en) = false := decide_eq_false (by have := hm.out; have := hJj.out; omega)
            have hInc : IncE E := fun i x y hx hy => HJ.out i x y (by have h := (List.getElem?_eq_some_iff.1 hy).1; have := hm.out; have := hen.out; omega) hx hy
            have HI := hide hInc
            clear hInc HJ
            have HX8 := HX7.under hb
            have HT8 := HT7.below hb
            have HS8 := HS7.below hb
            have hE8 := hE7.below hb
            have hbl8 := hbl7.trans (hb.mono hbl7.size)
            have hgb8 : gb < wr.heap.size := Nat.lt_of_lt_of_le hgb hb.size
            obtain ⟨w8, rfl⟩ : ∃ w' : World, w' = wr := ⟨_, rfl⟩
            clear HX7 HT7 HS7 hE7 hbl7 hb hgb
            obtain ⟨m, rfl⟩ : ∃ z : Nat, z = j := ⟨_, rfl⟩
            obtain ⟨bO, hbO⟩ : ∃ bO, Hid (w8.heap.size = bO) := ⟨_, hide rfl⟩
            have hgbO : gb < bO := by rw [← hbO.out]; exact hgb8
            have hgTO : gT < bO := by rw [← hbO.out]; exact HX8.lt
            have hgwO : w.heap.size ≤ bO := by rw [← hbO.out]; exact hbl8.size
            have hbO0 : Below bO w8 w8 := Below.refl _ _
            have hbOw : bO ≤ w8.heap.size := by rw [← hbO.out]; exact Nat.le_refl _
            have hEl : Hid ((E.map Int.toNat).length = m + 1) := hide (by rw [List.length_map, hen.out]; exact hm.out.symm)
            go_wp2_with fail
            go_loopg [11, 12] m (fun gh v11 v12 w' => ∃ (i : Nat) (hs : List (Option Addr × Nat × Nat)) (X : List (List Int)) (oa : Option Addr) (oc : Nat), i ≤ m ∧ gh = m - i ∧ v12 = .int .i64 (i : Int) ∧ v11 = .slice oa i oc ∧ hs.length = i ∧ WdI w' 3 bO hs X ∧ Go.Dx.Own w' bO 22 1 oa i oc (hs.map hdv) ∧ Below bO w8 w' ∧ bO ≤ w'.heap.size ∧ widW t l (E.map Int.toNat) = (widW t l ((E.map Int.toNat).drop i)).map (X ++ ·))
            case atStart => exact ⟨0, [], [], none, 0, Nat.zero_le _, rfl, rfl, rfl, rfl, WdI.nil _ _ _, Go.Dx.Own.nil _ _ _ _, hbO0, hbOw, by simp⟩
            case round =>
              clear hbO0 hbOw
              obtain ⟨i, hs, X, oa, oc, hi, rfl, rfl, rfl, hsl, hW, hO, hb, hBw, hwid⟩ := hrel
              have HWD := hide hwid
              have HSL := hide hsl
              clear hwid hsl
              by_cases him : i < m
              · have d5 : decide ((i : Int) + 1 < (en : Int)) = true := decide_eq_true (by have := hm.out; omega)
                have d5n : decide (i + 1 < en) = true := decide_eq_true (by have := hm.out; omega)
                obtain ⟨ex, hex⟩ : ∃ x, E[i]? = some x := ⟨_, List.getElem?_eq_getElem (by have := hm.out; have := hen.out; omega)⟩
                obtain ⟨hx0, hxn⟩ := inc_in HI.out HE0'.out (by have := hm.out; have := hen.out; omega : m + 1 = E.length) HEn.out hex
                obtain ⟨x, rfl⟩ : ∃ x : Nat, ex = (x : Int) := ⟨ex.toNat, by omega⟩
                have HEX := hide hex
                have hdrop : (E.map Int.toNat).drop i = x :: (E.map Int.toNat).drop (i + 1) := by
                  rw [List.drop_eq_getElem_cons (by rw [hEl.out]; omega)]
                  congr 1
                  rw [List.getElem_map, (List.getElem?_eq_some_iff.1 hex).2]
                  rfl
                have hdne : (E.map Int.toNat).drop (i + 1) ≠ [] := fun e => by
                  have := congrArg List.length e
                  rw [List.length_drop, hEl.out] at this
                  simp at this
                  omega
                have HDR := hide hdrop
                have HDN := hide hdne
                clear hex hdrop hdne
                obtain ⟨wi, rfl⟩ : ∃ w' : World, w' = wr := ⟨_, rfl⟩
                obtain ⟨S, hS⟩ : ∃ S, Hid (wi.heap.size = S) := ⟨_, hide rfl⟩
                have hbOS : bO ≤ S := by rw [← hS.out]; exact hBw
                go_wp2_with fail
                go_loopg [13, 14] (m - i) (fun gh v13 v14 w' => ∃ (k Z : Nat) (R : List Int) (ra : Option Addr) (rn rc : Nat), k ≤ m - i ∧ gh = m - i - k ∧ v14 = .int .i64 (Z : Int) ∧ Hid (Z = i + 1 + k) ∧ v13 = .slice ra rn rc ∧ rn = k ∧ Go.Dx.Own w' S 3 1 ra rn rc (R.map I64) ∧ Below S wi w' ∧ rowW t l x ((E.map Int.toNat).drop (i + 1)) = (rowW t l x ((E.map Int.toNat).drop (i + 1 + k))).map (R ++ ·))
                case atStart => exact ⟨0, i + 1, [], none, 0, 0, Nat.zero_le _, rfl, by go_num, hide rfl, rfl, rfl, Go.Dx.Own.nil _ _ _ _, Below.refl _ _, by simp⟩
                case round =>
                  obtain ⟨k, Z, R, ra, rn, rc, hk, rfl, rfl, hZ, rfl, hrn, hR, hbi, hrow⟩ := hrel
                  have HRW := hide hrow
                  have HRN := hide hrn
                  have hrn4 : rn ≤ 20000 := by omega
                  clear hrow hrn
                  have hbi' : Below wi.heap.size wi wr := by rw [hS.out]; exact hbi
                  have hbk : Below bO w8 wr := hb.trans (hbi.mono hbOS)
                  have hbk' : Below w8.heap.size w8 wr := by rw [hbO.out]; exact hbk
                  have hSw : S ≤ wr.heap.size := by rw [← hS.out]; exact hbi'.size
                  by_cases hkm : k < m - i
                  · have d6 : decide ((Z : Int) < (en : Int)) = true := decide_eq_true (by have := hm.out; have := hZ.out; omega)
                    have d6n : decide (Z < en) = true := decide_eq_true (by have := hm.out; have := hZ.out; omega)
                    have hZen : Z < en := by have := hm.out; have := hZ.out; omega
                    have hZ4 : Z ≤ 20000 := by have := hm.out; omega
                    obtain ⟨ez, hez⟩ : ∃ z, E[i + 1 + k]? = some z := ⟨_, List.getElem?_eq_getElem (by have := hm.out; have := hen.out; omega)⟩
                    obtain ⟨hz0, hzn⟩ := inc_in HI.out HE0'.out (by have := hm.out; have := hen.out; omega : m + 1 = E.length) HEn.out hez
                    have hxz := inc_lt HI.out k i _ _ HEX.out (by rw [show i + k + 1 = i + 1 + k by omega]; exact hez)
                    obtain ⟨z, rfl⟩ : ∃ z : Nat, ez = (z : Int) := ⟨ez.toNat, by omega⟩
                    have hdrop : (E.map Int.toNat).drop (i + 1 + k) = z :: (E.map Int.toNat).drop (i + 1 + (k + 1)) := by
                      rw [List.drop_eq_getElem_cons (by rw [hEl.out]; omega)]
                      congr 1
                      rw [List.getElem_map, (List.getElem?_eq_some_iff.1 hez).2]
                      rfl
                    have HDZ := hide hdrop
                    have hEr := hE8.below hbk'
                    have HXr := HX8.below hbk hgTO
                    have HTr := HT8.below hbk'
                    have HSr := HS8.below hbk'
                    have hxn' : x ≤ n := by omega
                    have hzn' : z ≤ n := by omega
                    have hxz' : x ≤ z := by omega
                    have hin : i < en := by have := hm.out; omega
                    obtain ⟨qx, hqx⟩ : ∃ q, Hid (go + i = q) := ⟨_, hide rfl⟩
                    obtain ⟨qz, hqz⟩ : ∃ q, Hid (go + Z = q) := ⟨_, hide rfl⟩
                    have cxz : wr.cell? ⟨gb, qx, none⟩ = some (.int .i64 (x : Int)) ∧ wr.cell? ⟨gb, qz, none⟩ = some (.int .i64 (z : Int)) := by
                      obtain ⟨b, o, hab, hbb, hc⟩ := hEr.ex (by rw [List.length_map, hen.out]; omega)
                      injection hab with hab
                      injection hab with h1 h2
                      subst h1; subst h2
                      rw [← hqx.out, ← hqz.out, hZ.out]
                      exact ⟨hc i _ (by rw [List.getElem?_map, HEX.out]; rfl), hc (i + 1 + k) _ (by rw [List.getElem?_map, hez]; rfl)⟩
                    have cx := cxz.1
                    have cz := cxz.2
                    have hlr : ∀ q, a = some q → q.block < wr.heap.size := fun q hq => by
                      obtain ⟨b, o, hab, hbb, hc⟩ := HSr.ex (by rw [flat_len sc_len]; have := HNL.out; omega)
                      rw [hq] at hab
                      injection hab with hab
                      subst hab
                      exact hbb
                    clear hez hdrop cxz
                    obtain ⟨LP, hLP⟩ : ∃ LP, Hid ((l.drop x).take (z - x) = LP) := ⟨_, hide rfl⟩
                    obtain ⟨TX, hX⟩ : ∃ X, Hid (trE t LP = X) := ⟨_, hide rfl⟩
                    obtain ⟨TC, hC⟩ : ∃ X, Hid (trC t LP = X) := ⟨_, hide rfl⟩
                    obtain ⟨TK, hK⟩ : ∃ X, Hid (trK t LP = X) := ⟨_, hide rfl⟩
                    obtain ⟨TA, hA⟩ : ∃ X, Hid (trA t LP = X) := ⟨_, hide rfl⟩
                    go_wp2_with fail
                    refine wp_region_chain4 17 (KeepsX 43) (GTr 43 wr (TC) (TK) (TA)) [⟨15, 15, [], fun _ _ => True⟩, ⟨16, 103, [0], fun _ _ => True⟩] [⟨0, 70, [70], fun vs _ => vs = [H.v]⟩, ⟨1, 71, [71], fun vs _ => vs = [.slice a n c]⟩, ⟨2, 72, [72], fun vs _ => vs = [.slice (some ⟨gb, go, none⟩) en c6]⟩, ⟨3, 73, [73], fun vs _ => vs = [.int .i64 (i : Int)]⟩, ⟨4, 74, [74], fun vs _ => vs = [.pointer (some ⟨gb, qx, none⟩)]⟩, ⟨5, 75, [75], fun vs _ => vs = [.int .i64 (x : Int)]⟩, ⟨6, 76, [76], fun vs _ => vs = [.slice (some ⟨gb, go, none⟩) en c6]⟩, ⟨7, 77, [77], fun vs _ => vs = [.int .i64 (Z : Int)]⟩, ⟨8, 78, [78], fun vs _ => vs = [.pointer (some ⟨gb, qz, none⟩)]⟩, ⟨9, 79, [79], fun vs _ => vs = [.int .i64 (z : Int)]⟩, ⟨10, 80, [80], fun vs _ => ∃ a', vs = [.slice a' (z - x) (c - x)] ∧ Sl wr 2 a' (z - x) (c - x) (LP.flatMap sc)⟩, ⟨11, 81, [81], TuF 43 TX (TC) (TK) (TA)⟩, ⟨12, 69, [69], TuF 43 TX (TC) (TK) (TA)⟩, ⟨13, 82, [82], VaF 43 (TC) (TK) (TA)⟩, ⟨14, 83, [83], fun vs _ => vs = [.int .i64 TX]⟩] (by kernel_rfl) (by kernel_rfl) ?_ (fun _ _ h => KeepsX.of h) GTr.mono ?_ ?_ ?_ ?_
                    · exact (Still.below 1 : Below wr.heap.size wr (wr.drewN 1))
                    · simp only [All]
                      refine ⟨(fun _ _ _ _ h => h), (fun _ _ _ _ h => h), (fun _ _ _ _ h => h), (fun _ _ _ _ h => h), (fun _ _ _ _ h => h), (fun _ _ _ _ h => h), (fun _ _ _ _ h => h), (fun _ _ _ _ h => h), (fun _ _ _ _ h => h), (fun _ _ _ _ h => h), (fun _ _ _ _ h => h), (fun _ _ _ hk h => h.keep hk), (fun _ _ _ hk h => h.keep hk), (fun _ _ _ hk h => h.keep hk), (fun _ _ _ _ h => h), trivial⟩
                    · intro m c hc o ho a w' hG hfr hdep
                      rcases m with _ | _ | m
                      · cases hc
                        obtain rfl := Option.some.inj ho
                        have hB : Below wr.heap.size wr w' := hG
                        clear hfr hdep hG
                        go_wp2_with fail
                        exact ⟨rfl, _, rfl, KeepsX.of (blo _ _), w'.heap.size, rfl, hB.size, [.slice none 0 0, .slice none 0 0, .slice none 0 0], rfl, Box.new _ _ _, hB.alloc hB.size _⟩
                      · cases hc
                        obtain rfl := Option.some.inj ho
                        obtain ⟨b9, e9, hlo9, cs9, hl9, hbx9, hB⟩ := hG
                        obtain ⟨v9, g9, c9⟩ := hdep 13 _ rfl (by kernel_rfl)
                        replace e9 : a.tmps.getD 15 undef = .pointer (some ⟨b9, 0, none⟩) := e9
                        replace g9 : a.tmps.getD 82 undef = v9 := by simpa using g9
                        obtain ⟨a1, n1, c1, a2, n2, c2, a3, n3, c3, hs9, hv9, -⟩ := c9.ce
                        subst hv9
                        clear ho hfr hdep
                        refine store_all 43 _ _ 43 b9 cs9 [.slice a1 n1 c1, .slice a2 n2 c2, .slice a3 n3 c3] _ size_rcert hbx9 e9 g9 rfl (by rw [hl9]; rfl) (by simp [Value.oneCell']) ?_
                        intro w10 hx10 hg10 hs10
                        have hK := KeepsX.put hbx9 hg10
                        have hb10 := hB.grown hg10 hB.size (fun k hk => by cases hk; exact hlo9)
                        have E9 := hide e9
                        clear e9 g9 hl9 hs10
                        go_wp2_with fail
                        exact ⟨rfl, undef, rfl, hK, b9, by first | rfl | exact E9.out | simpa using E9.out, hlo9, _, _, _, hx10, c9.keep hK, hb10⟩
                      · cases hc
                    · simp only [All]
                      refine ⟨?_, ?_, ?_, ?_, ?_, ?_, ?_, ?_, ?_, ?_, ?_, ?_, ?_, ?_, ?_, trivial⟩
                      · intro o ho a' w' hfr hdep hst
                        obtain rfl := Option.some.inj ho
                        have hb : Below wr.heap.size wr w' := by obtain ⟨j, _, _, hG⟩ := hst; exact hG.bel
                        have g3 : a'.tmps[3]?.getD undef = .pointer (some ⟨gT, 0, none⟩) := by have h := hfr 3 (by kernel_rfl); simpa using h
                        clear ho hfr hdep hst
                        refine load_struct 70 29 _ 7 size_tables _ Try.underlying29 ⟨gT, 0, none⟩ (by show a'.tmps.getD 3 undef = _; simpa using g3) (tcells H) rfl (fun j u hj => by rw [Addr.add_lit, Nat.zero_add]; exact (HXr.under hb).at_ hj) ?_
                        exact ⟨rfl, _, rfl, Below.refl _ _, rfl⟩
                      · intro o ho a' w' hfr hdep hst
                        obtain rfl := Option.some.inj ho
                        have hb : Below wr.heap.size wr w' := by obtain ⟨j, _, _, hG⟩ := hst; exact hG.bel
                        have g1 : a'.tmps[1]?.getD undef = .slice a n c := by have h := hfr 1 (by kernel_rfl); simpa using h
                        clear ho hfr hdep hst
                        go_wp2_with fail
                        exact ⟨rfl, _, rfl, Below.refl _ _, rfl⟩
                      · intro o ho a' w' hfr hdep hst
                        obtain rfl := Option.some.inj ho
                        have hb : Below wr.heap.size wr w' := by obtain ⟨j, _, _, hG⟩ := hst; exact hG.bel
                        have g9 : a'.tmps[9]?.getD undef = .slice (some ⟨gb, go, none⟩) en c6 := by have h := hfr 9 (by kernel_rfl); simpa using h
                        clear ho hfr hdep hst
                        go_wp2_with fail
                        exact ⟨rfl, _, rfl, Below.refl _ _, rfl⟩
                      · intro o ho a' w' hfr hdep hst
                        obtain rfl := Option.some.inj ho
                        have hb : Below wr.heap.size wr w' := by obtain ⟨j, _, _, hG⟩ := hst; exact hG.bel
                        have g12 : a'.tmps[12]?.getD undef = .int .i64 (i : Int) := by have h := hfr 12 (by kernel_rfl); simpa using h
                        clear ho hfr hdep hst
                        go_wp2_with fail
                        exact ⟨rfl, _, rfl, Below.refl _ _, rfl⟩
                      · intro o ho a' w' hfr hdep hst
                        obtain rfl := Option.some.inj ho
                        have hb : Below wr.heap.size wr w' := by obtain ⟨j, _, _, hG⟩ := hst; exact hG.bel
                        have g72 : a'.tmps[72]?.getD undef = .slice (some ⟨gb, go, none⟩) en c6 := by have h := hdep 2 _ rfl (by kernel_rfl); simpa using h
                        have g73 : a'.tmps[73]?.getD undef = .int .i64 (i : Int) := by have h := hdep 3 _ rfl (by kernel_rfl); simpa using h
                        clear ho hfr hdep hst
                        refine index_rowk 74 22 _ _ 3 Try.underlying22 1 size_int gb go en c6 (by show a'.tmps.getD 72 undef = _; simpa using g72) _ _ i (by show a'.tmps.getD 73 undef = _; simpa using g73) rfl hin ?_
                        rw [Nat.mul_one, hqx.out]
                        exact ⟨rfl, _, rfl, Below.refl _ _, rfl⟩
                      · intro o ho a' w' hfr hdep hst
                        obtain rfl := Option.some.inj ho
                        have hb : Below wr.heap.size wr w' := by obtain ⟨j, _, _, hG⟩ := hst; exact hG.bel
                        have g74 : a'.tmps[74]?.getD undef = .pointer (some ⟨gb, qx, none⟩) := by have h := hdep 4 _ rfl (by kernel_rfl); simpa using h
                        clear ho hfr hdep hst
                        have hcl := cell_below cx hb
                        go_wp2_with fail
                        exact ⟨rfl, _, rfl, Below.refl _ _, rfl⟩
                      · intro o ho a' w' hfr hdep hst
                        obtain rfl := Option.some.inj ho
                        have hb : Below wr.heap.size wr w' := by obtain ⟨j, _, _, hG⟩ := hst; exact hG.bel
                        have g9 : a'.tmps[9]?.getD undef = .slice (some ⟨gb, go, none⟩) en c6 := by have h := hfr 9 (by kernel_rfl); simpa using h
                        clear ho hfr hdep hst
                        go_wp2_with fail
                        exact ⟨rfl, _, rfl, Below.refl _ _, rfl⟩
                      · intro o ho a' w' hfr hdep hst
                        obtain rfl := Option.some.inj ho
                        have hb : Below wr.heap.size wr w' := by obtain ⟨j, _, _, hG⟩ := hst; exact hG.bel
                        have g14 : a'.tmps[14]?.getD undef = .int .i64 (Z : Int) := by have h := hfr 14 (by kernel_rfl); simpa using h
                        clear ho hfr hdep hst
                        go_wp2_with fail
                        exact ⟨rfl, _, rfl, Below.refl _ _, rfl⟩
                      · intro o ho a' w' hfr hdep hst
                        obtain rfl := Option.some.inj ho
                        have hb : Below wr.heap.size wr w' := by obtain ⟨j, _, _, hG⟩ := hst; exact hG.bel
                        have g76 : a'.tmps[76]?.getD undef = .slice (some ⟨gb, go, none⟩) en c6 := by have h := hdep 6 _ rfl (by kernel_rfl); simpa using h
                        have g77 : a'.tmps[77]?.getD undef = .int .i64 (Z : Int) := by have h := hdep 7 _ rfl (by kernel_rfl); simpa using h
                        clear ho hfr hdep hst
                        refine index_rowk 78 22 _ _ 3 Try.underlying22 1 size_int gb go en c6 (by show a'.tmps.getD 76 undef = _; simpa using g76) _ _ Z (by show a'.tmps.getD 77 undef = _; simpa using g77) rfl hZen ?_
                        rw [Nat.mul_one, hqz.out]
                        exact ⟨rfl, _, rfl, Below.refl _ _, rfl⟩
                      · intro o ho a' w' hfr hdep hst
                        obtain rfl := Option.some.inj ho
                        have hb : Below wr.heap.size wr w' := by obtain ⟨j, _, _, hG⟩ := hst; exact hG.bel
                        have g78 : a'.tmps[78]?.getD undef = .pointer (some ⟨gb, qz, none⟩) := by have h := hdep 8 _ rfl (by kernel_rfl); simpa using h
                        clear ho hfr hdep hst
                        have hcl := cell_below cz hb
                        go_wp2_with fail
                        exact ⟨rfl, _, rfl, Below.refl _ _, rfl⟩
                      · intro o ho a' w' hfr hdep hst
                        obtain rfl := Option.some.inj ho
                        have hb : Below wr.heap.size wr w' := by obtain ⟨j, _, _, hG⟩ := hst; exact hG.bel
                        have g71 : a'.tmps[71]?.getD undef = .slice a n c := by have h := hdep 1 _ rfl (by kernel_rfl); simpa using h
                        have g75 : a'.tmps[75]?.getD undef = .int .i64 (x : Int) := by have h := hdep 5 _ rfl (by kernel_rfl); simpa using h
                        have g79 : a'.tmps[79]?.getD undef = .int .i64 (z : Int) := by have h := hdep 9 _ rfl (by kernel_rfl); simpa using h
                        clear ho hfr hdep hst
                        refine cut_sl 80 31 _ _ _ 88 Try.underlying31 2 size_sym a n c _ (by show a'.tmps.getD 71 undef = _; simpa using g71) (HSr.below hb) .i64 .i64 _ _ x z (by show a'.tmps.getD 75 undef = _; simpa using g75) (by show a'.tmps.getD 79 undef = _; simpa using g79) rfl rfl hxz' hzn' ?_
                        intro a9 hs9 hr9
                        rw [flat_drop sc_len, flat_take sc_len, hLP.out] at hs9
                        exact ⟨rfl, _, rfl, Below.refl _ _, a9, rfl, hs9.back hb (fun p hp h0 => by
                          obtain ⟨q, h1, h2⟩ := hr9 p hp
                          rw [← h2]
                          exact hlr q h1)⟩
                      · intro o ho a' w' hfr hdep hst
                        obtain rfl := Option.some.inj ho
                        have hb : Below wr.heap.size wr w' := by obtain ⟨j, _, _, hG⟩ := hst; exact hG.bel
                        have g70 : a'.tmps[70]?.getD undef = H.v := by have h := hdep 0 _ rfl (by kernel_rfl); simpa using h
                        obtain ⟨a80, g80, s80⟩ := hdep 10 _ rfl (by kernel_rfl)
                        simp at g80
                        clear ho hfr hdep hst
                        have htr := hide (rtr_at H t LP a80 (z - x) (c - x) w' (HTr.below hb) (s80.below hb) hX.out hC.out hK.out hA.out)
                        go_wp2_with (go_at_call 14; refine htr.out.mono ?_; rintro e w3 ⟨⟨v, rfl, hce⟩, h3⟩)
                        exact ⟨rfl, _, rfl, h3, _, rfl, hce⟩
                      · intro o ho a' w' hfr hdep hst
                        obtain rfl := Option.some.inj ho
                        obtain ⟨v81, g81, c81⟩ := hdep 11 _ rfl (by kernel_rfl)
                        simp at g81
                        clear ho hfr hdep hst
                        go_wp2_with fail
                        exact ⟨rfl, _, rfl, Below.refl _ _, _, rfl, c81⟩
                      · intro o ho a' w' hfr hdep hst
                        obtain rfl := Option.some.inj ho
                        obtain ⟨v69, g69, c69⟩ := hdep 12 _ rfl (by kernel_rfl)
                        simp at g69
                        clear ho hfr hdep hst
                        go_wp2_with fail
                        exact ⟨rfl, _, rfl, Below.refl _ _, _, rfl, c69⟩
                      · intro o ho a' w' hfr hdep hst
                        obtain rfl := Option.some.inj ho
                        obtain ⟨v69, g69, c69⟩ := hdep 12 _ rfl (by kernel_rfl)
                        simp at g69
                        clear ho hfr hdep hst
                        go_wp2_with fail
                        exact ⟨rfl, _, rfl, Below.refl _ _, rfl⟩
                    · intro g w9 hG hp
                      obtain ⟨b9, e9, hlo9, s1, s2, s3, hx9, hc9, hb9⟩ := hG
                      have p9 := hp 14 _ rfl
                      replace e9 : g 15 = .pointer (some ⟨b9, 0, none⟩) := e9
                      clear hp
                      replace p9 : g 83 = .int .i64 TX := by simpa using p9
                      simp only [List.drop_succ_cons, List.drop_zero, List.map_cons, List.map_nil, putAll, Act.put, List.setIfInBounds_toArray, List.set_cons_succ, List.set_cons_zero, List.set_nil, List.cons_append, List.nil_append, e9, p9]
                      clear e9 p9
                      have HR9 := hR.below hb9
                      have hbi9 := hbi.trans (hb9.mono hSw)
                      have hbk9 := hbk.trans (hb9.mono (by omega))
                      clear hEr HXr HTr HSr cx cz hlr hbk hbk' hR hbi hbi'
                      by_cases htx : TX = 0
                      · subst htx
                        obtain ⟨a1, n1, c1, a2, n2, c2, a3, n3, c3, hs3, rfl, rfl, rfl, hC1, -, -⟩ := hc9.parts
                        have hn1 : n1 = TC.length := hC1.n_eq
                        have hv1 : Hid ((n1 : Int) = numV t LP) := hide (by
                          have h1 := hC.out
                          unfold trC at h1
                          rw [if_pos hX.out] at h1
                          have h2 := piece_num hFE.out x (z - x) (by rw [hLP.out]; exact hX.out)
                          rw [hLP.out, h1] at h2
                          rw [hn1]
                          exact h2)
                        have hr1 : Hid (rowW t l x ((E.map Int.toNat).drop (i + 1)) = (rowW t l x ((E.map Int.toNat).drop (i + 1 + (k + 1)))).map ((R ++ [(n1 : Int)]) ++ ·)) := hide (by
                          rw [HRW.out, HDZ.out, rowW_ok (by rw [hLP.out]; exact hX.out), hLP.out, ← hv1.out, Option.map_map]
                          congr 1
                          funext y
                          simp)
                        have cC : w9.cell? ⟨b9, 0, none⟩ = some (.slice a1 n1 c1) := hx9.at_ rfl
                        have hS9 : S ≤ w9.heap.size := Nat.le_trans hSw hb9.size
                        clear hc9 hC1 hn1 HRW HDZ
                        go_wp2_with (at_builtin; refine app_i rfl _ _ rfl w9 S ra rn rc _ rfl HR9 (n1 : Int) rfl (by omega) hS9 (Below.refl _ _) ?_; intro a98 c98 w98 hO98 gb98 hb98; refine hold ?_)
                        refine hide ?_
                        have hbi98 := hbi9.trans hb98
                        have hO98 : Go.Dx.Own w98 S 3 1 a98 (rn + 1) c98 ((R ++ [(n1 : Int)]).map I64) := by rw [List.map_append]; exact hO98
                        clear HR9 hbi9 hbk9 hb98 gb98 hx9 cC
                        go_wp2_with fail
                        go_roundg (m - i - (k + 1))
                        case measure => omega
                        case rel => exact ⟨k + 1, Z + 1, R ++ [(n1 : Int)], a98, rn + 1, c98, by omega, rfl, by go_num, hide (by have := hZ.out; omega), rfl, by have := HRN.out; omega, hO98, hbi98, hr1.out⟩
                      · have d7 : (TX == 0) = false := by simp [htx]
                        have hTX : TX = 6 := by
                          have := piece_err hFE.out x (z - x) (by rw [hLP.out, hX.out]; exact htx)
                          rw [hLP.out, hX.out] at this
                          exact this
                        have e1 : rowW t l x ((E.map Int.toNat).drop (i + 1)) = none := by
                          rw [HRW.out, HDZ.out, rowW_bad (by rw [hLP.out, hX.out]; exact htx)]
                          rfl
                        have e2 : widW t l (E.map Int.toNat) = none := by
                          rw [HWD.out, HDR.out, widW_none HDN.out e1]
                          rfl
                        have he : (ER, RW) = (6, []) := by rw [← hWE.out]; exact wdR_none hFE.out HNZ.out (by rw [← HNL.out]; exact hE.out) (inc_of HI.out) e2
                        obtain ⟨rfl, rfl⟩ := Prod.mk.inj he
                        subst hTX
                        clear e1 e2 he htx d7
                        go_wp2_with fail
                        go_ret2
                        exact ⟨⟨none, 0, 0, [], rfl, Ng.nil _⟩, hbl8.trans (hbk9.mono hgwO)⟩
                  · obtain rfl : k = m - i := by omega
                    have d6 : decide ((Z : Int) < (en : Int)) = false := decide_eq_false (by have := hm.out; have := hZ.out; omega)
                    have d6n : decide (Z < en) = false := decide_eq_false (by have := hm.out; have := hZ.out; omega)
                    have e1 := HRW.out
                    have e0 : (E.map Int.toNat).drop (i + 1 + (m - i)) = [] := List.drop_eq_nil_of_le (by rw [hEl.out]; omega)
                    rw [e0] at e1
                    simp only [rowW, Option.map_some, List.append_nil] at e1
                    have e2 := widW_some HDN.out e1
                    have HE2 : Hid (widW t l (E.map Int.toNat) = (widW t l ((E.map Int.toNat).drop (i + 1))).map ((X ++ [R]) ++ ·)) := hide (by
                      rw [HWD.out, HDR.out, e2, Option.map_map]
                      congr 1
                      funext y
                      simp)
                    have al := blo wr (.cells #[.slice ra rn rc] 22)
                    have hbwa := hbi'.trans (al.mono hbi'.size)
                    have hOa := hO.below hbwa
                    have hWa := hW.belowI hbwa
                    have hRa := hR.below al
                    have hl := Sl.fresh wr 22 1 1 [.slice ra rn rc] rfl (by decide)
                    have hBa : bO ≤ (wr.alloc (.cells #[.slice ra rn rc] 22)).heap.size := Nat.le_trans (by omega) al.size
                    have hbA := hbk.trans (al.mono (by omega))
                    clear e0 e1 e2 hW hO hR HRW hbk hbk' hbi hbi' hbwa al
                    go_wp2_with (at_builtin; refine app_row rfl _ _ rfl w8 bO oa i oc _ rfl hOa (.slice ra rn rc) rfl (some ⟨wr.heap.size, 0, none⟩) 1 rfl hl (by omega) hBa hbA ?_; intro a9 c9 w9 hO9 gb9 hb9; refine hold ?_)
                    refine hide ?_
                    have hW9 := (hWa.keptO hOa (by decide) gb9).push (x := (ra, rn, rc)) (r := R) ((hRa.mono hbOS).kept gb9 (fun p hp => by subst hp; exact far_map (hRa.mono hbOS) hOa (by decide)))
                    have hB9 : bO ≤ w9.heap.size := Nat.le_trans hBa gb9.size
                    have hO9 : Go.Dx.Own w9 bO 22 1 a9 (i + 1) c9 ((hs ++ [(ra, rn, rc)]).map hdv) := by rw [List.map_append]; exact hO9
                    have hsl2 : (hs ++ [(ra, rn, rc)]).length = i + 1 := by rw [List.length_append, HSL.out]; rfl
                    have HSL2 := hide hsl2
                    clear hsl2 hOa hWa hRa hl hBa hbA gb9
                    go_wp2_with fail
                    go_roundg (m - (i + 1))
                    case measure => omega
                    case rel => exact ⟨i + 1, hs ++ [(ra, rn, rc)], X ++ [R], a9, c9, by omega, rfl, by go_num, rfl, HSL2.out, hW9, hO9, hb9, hB9, HE2.out⟩
              · obtain rfl : i = m := by omega
                have d5 : decide ((i : Int) + 1 < (en : Int)) = false := decide_eq_false (by have := hm.out; omega)
                have d5n : decide (i + 1 < en) = false := decide_eq_false (by have := hm.out; omega)
                have e1 := HWD.out
                have e2 : ∃ y, (E.map Int.toNat).drop i = [y] := by
                  rw [List.drop_eq_getElem_cons (by rw [hEl.out]; omega), List.drop_eq_nil_of_le (by rw [hEl.out]; exact Nat.le_refl _)]
                  exact ⟨_, rfl⟩
                obtain ⟨y, e2⟩ := e2
                rw [e2, widW_last] at e1
                simp only [Option.map_some, List.append_nil] at e1
                have he : (ER, RW) = (0, X) := by rw [← hWE.out]; exact wdR_some hFE.out HNZ.out (by rw [← HNL.out]; exact hE.out) (inc_of HI.out) e1
                obtain ⟨rfl, rfl⟩ := Prod.mk.inj he
                have hng : Ng wr oa i oc hs _ := ⟨hO.sl, hW.len, fun j x r hx hr => (hW.row j x r hx hr).sl⟩
                clear e1 e2 he hO hW
                go_wp2_with fail
                go_ret2
                exact ⟨⟨_, _, _, hs, rfl, hng⟩, hbl8.trans (hb.mono hgwO)⟩
  · have d1 : (FE == 0) = false := by simp [hfe]
    have he : (ER, RW) = (FE, []) := by rw [← hWE.out, ← hFE.out]; exact wdR_fits (by rw [hFE.out]; exact hfe)
    obtain ⟨rfl, rfl⟩ := Prod.mk.inj he
    clear he
    go_wp2_with fail
    go_ret2
    exact ⟨⟨none, 0, 0, [], rfl, Ng.nil _⟩, hbl2⟩
end Go.Proofs.Ytlpkicjijlcbfaa
end

/- the text E9 -/
section
/- Chapter 08: the first integers (Take). -/
set_option linter.unusedVariables false
namespace Go.Proofs.Ytlpkicjijlcbfaa
open Go.RowKit Go.Dx Go.Al
set_option maxRecDepth 20000 in
set_option maxHeartbeats 2000000 in
theorem ref_TakeI (l : List Int) (m : Nat) (a : Option Addr) (n c : Nat) (w : World) (hs : Sl w 1 a n c (l.map I64)) (hm : m ≤ 1000000) :
    Calls Try.prog 22 #[.slice a n c, .int .i64 m] w fun e w' => ∃ a' c', e = .returned (.slice a' (l.take m).length c') ∧ Go.Dx.Own w' w.heap.size 3 1 a' (l.take m).length c' ((l.take m).map I64) ∧ Below w.heap.size w w' := by
  obtain rfl := hs.n_eq
  have hcap := Nat.le_trans hs.le hs.cap
  unfold maxLen at hcap
  obtain ⟨u, hu⟩ : ∃ u, u = min l.length m := ⟨_, rfl⟩
  have hun : u ≤ l.length := by omega
  have HL : Hid ((l.take m).length = u) := hide (by rw [List.length_take, Nat.min_comm]; exact hu.symm)
  have HE : Hid ((l.map I64).take (u * 1) = (l.take m).map I64) := hide (by
    rw [Nat.mul_one, ← List.map_take, hu]
    congr 1
    rcases Nat.le_total l.length m with h | h
    · rw [Nat.min_eq_left h, List.take_length, List.take_of_length_le h]
    · rw [Nat.min_eq_right h])
  rw [HL.out]
  by_cases h : l.length ≤ m
  · obtain rfl : u = l.length := by omega
    clear hu
    go_enter Try.func22, Try.ntmps22
    go_wp2_with (first
      | (with_reducible refine cut_hi 12 22 _ _ 3 Try.underlying22 1 size_int a l.length c _ rfl hs _ _ l.length rfl rfl (Nat.le_refl _) ?_; intro hcut)
      | (at_builtin; refine app_is rfl _ _ rfl w w.heap.size _ _ _ _ rfl (Go.Dx.Own.nil _ _ _ _) _ _ _ (l.take m) rfl (HE.out ▸ hcut) (by omega) (Nat.le_refl _) (Below.refl _ _) ?_; intro a' c' w' ho' hgr' hb'))
    go_ret
    exact ⟨a', c', by simp, by simpa using ho', hb'⟩
  · obtain rfl : u = m := by omega
    clear hu
    go_enter Try.func22, Try.ntmps22
    go_wp2_with (first
      | (with_reducible refine cut_hi 12 22 _ _ 3 Try.underlying22 1 size_int a l.length c _ rfl hs _ _ u rfl rfl hun ?_; intro hcut)
      | (at_builtin; refine app_is rfl _ _ rfl w w.heap.size _ _ _ _ rfl (Go.Dx.Own.nil _ _ _ _) _ _ _ (l.take u) rfl (HE.out ▸ hcut) (by omega) (Nat.le_refl _) (Below.refl _ _) ?_; intro a' c' w' ho' hgr' hb'))
    go_ret
    exact ⟨a', c', by simp, by simpa using ho', hb'⟩
end Go.Proofs.Ytlpkicjijlcbfaa
end
