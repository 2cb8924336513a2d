/- The contracts of the functions that the law reaches, joined into one text. -/
import Derived.Test.YtkjcbneanaeleaaLawBL5a
import Derived.IntWalk
import Derived.Deep.CutBlock
set_option linter.unusedVariables false
set_option linter.unusedSimpArgs false

/- the text B44 -/
section
/- Chapter 06: equal texts; Short; the pieces that the law makes. -/
namespace Go.Dx
open Go.RowKit
theorem two_cells {α : Type} {f : α → List Value} (hf : ∀ x, (f x).length = 2) {w : World} {a : Option Addr} {n c : Nat} {l : List α} (hs : Sl w 2 a n c (l.flatMap f)) {k : Nat} {x : α} (hx : l[k]? = some x) :
    ∃ b o, a = some ⟨b, o, none⟩ ∧ b < w.heap.size ∧ w.cell? ⟨b, o + k * 2, none⟩ = (f x)[0]? ∧ w.cell? ⟨b, o + k * 2 + 1, none⟩ = (f x)[1]? := by
  have hk := (List.getElem?_eq_some_iff.1 hx).1
  obtain ⟨b, o, hab, hb, hc⟩ := hs.ex (by rw [flat_len hf]; omega)
  have h0 : (f x)[0]? = some ((f x)[0]'(by rw [hf]; decide)) := List.getElem?_eq_getElem _
  have h1 : (f x)[1]? = some ((f x)[1]'(by rw [hf]; decide)) := List.getElem?_eq_getElem _
  refine ⟨b, o, hab, hb, ?_, ?_⟩
  · rw [h0]
    exact hc (k * 2) _ (by have := flat_get hf hx (j := 0) (by decide); rw [Nat.add_zero] at this; rw [this, h0])
  · rw [h1]
    exact hc (k * 2 + 1) _ (by rw [flat_get hf hx (j := 1) (by decide), h1])
def shortB (s : ByteArray) (n : Nat) : ByteArray := if n < s.size then s.extract 0 n else s
theorem shortB_le {s : ByteArray} {n : Nat} : (shortB s n).size ≤ n := by
  unfold shortB
  split
  · simp; omega
  · omega
end Go.Dx
namespace Go.Proofs.Ytkjcbneanaeleaa
open Go.RowKit Go.Dx
theorem size_run : (Try.prog.info? 100).map (·.size) = some 2 := by kernel_rfl
def zeroRun : Value := .agg #[.int .i64 0, .string ⟨#[]⟩]
theorem info_run : (Try.prog.info? 100).map (fun i => (i.zero, i.size, i.bytes)) = some (some zeroRun, 2, 24) := by kernel_rfl
section
variable {w : World} {ops : Array Oper} {rest : List Oper} {o : Oper} {act : Act} {Q : Exit → Act → World → Prop}
theorem app_rn (hg : o.guard = none) (s x : Operand) (hop : o.op = Op.call { callee := Callee.builtin Builtin.append, args := #[s, x], argTypes := #[60, 60] })
    (w0 : World) (B : Nat) (a : Option Addr) (n c : Nat) (xs : List Value) (hs : act.eval s = .slice a n c) (hown : Own w B 100 2 a n c xs)
    (a2 : Option Addr) (c2 : Nat) (r : Rn) (hx : act.eval x = .slice a2 1 c2) (hy : Sl w 2 a2 1 c2 (rnc r))
    (hn : n ≤ 1000000) (hB : B ≤ w.heap.size) (hbel : Below B w0 w)
    (hK : ∀ a' c' w', Own w' B 100 2 a' (n + 1) c' (xs ++ rnc r) → w.grownBy w' (a.map (·.block)) → Below B w0 w' → wpList Try.prog ops Q rest (act.put o.dst (.slice a' (n + 1) c')) w') :
    wpList Try.prog ops Q (o :: rest) act w :=
  append_own hg s x 60 hop 100 zeroRun 2 24 Try.underlying60 info_run rfl w0 B a n c xs hs hown a2 1 c2 (rnc r) hx hy (rnc_one r) (by omega) (by unfold maxLen; omega) hB hbel hK
end
set_option maxRecDepth 100000 in
set_option maxHeartbeats 2000000 in
theorem ref_SameSyms (L : List Sy) (a a2 : Option Addr) (n c c2 : Nat) (w : World) (hs : Sl w 2 a n c (L.flatMap sc)) (hs2 : Sl w 2 a2 n c2 (L.flatMap sc)) :
    Calls Try.prog 28 #[.slice a n c, .slice a2 n c2] w fun e w' => e = .returned (.bool true) ∧ Below w.heap.size w w' := by
  have hnl := hs.nf sc_len (by decide)
  have hm1 := Nat.le_trans hs.le hs.cap
  unfold maxLen at hm1
  have HNL := hide hnl
  clear hnl
  have dn : ((n : Int) != (n : Int)) = false := by simp
  go_enter Try.func28, Try.ntmps28
  go_wp2_with fail
  go_loopg [5] n (fun gh v w' => ∃ k : Nat, k ≤ n ∧ gh = n - k ∧ v = .int .i64 (k : Int) ∧ Below w.heap.size w w')
  case atStart => exact ⟨0, by omega, by omega, rfl, Below.refl _ _⟩
  case round =>
    obtain ⟨k, hk, hg, rfl, hb0⟩ := hrel
    have HG := hide hg
    clear hg
    by_cases hkl : k < n
    · obtain ⟨x, hx⟩ : ∃ x, L[k]? = some x := ⟨_, List.getElem?_eq_getElem (by rw [← HNL.out]; exact hkl)⟩
      obtain ⟨b1, o1, hab, _, e0, e1⟩ := two_cells sc_len (hs.below hb0) hx
      obtain ⟨b2, o2, hab2, _, q0, q1⟩ := two_cells sc_len (hs2.below hb0) hx
      subst hab hab2
      have d0 : decide (k < n) = true := decide_eq_true hkl
      have d0' : decide ((k : Int) < (n : Int)) = true := decide_eq_true (by omega)
      have HC1 : Hid (∀ (j : Nat) (u : Value), ([.int .i64 x.lang, .int .u8 (x.c.toNat : Int)] : List Value)[j]? = some u → wr.cell? ⟨b1, o1 + k * 2 + j, none⟩ = some u) := hide (by
        intro j u hj
        rcases j with _ | _ | j
        · cases hj; exact e0
        · cases hj; exact e1
        · cases hj)
      have HC2 : Hid (∀ (j : Nat) (u : Value), ([.int .i64 x.lang, .int .u8 (x.c.toNat : Int)] : List Value)[j]? = some u → wr.cell? ⟨b2, o2 + k * 2 + j, none⟩ = some u) := hide (by
        intro j u hj
        rcases j with _ | _ | j
        · cases hj; exact q0
        · cases hj; exact q1
        · cases hj)
      clear hx e0 e1 q0 q1
      go_wp2_with fail
      refine wp_region_free 8 [⟨0, 17, [17], fun vs _ => vs = [.slice (some ⟨b1, o1, none⟩) n c]⟩, ⟨1, 18, [18], fun vs _ => vs = [.int .i64 (k : Int)]⟩, ⟨2, 19, [19], fun vs _ => vs = [.pointer (some ⟨b1, o1 + k * 2, none⟩)]⟩, ⟨3, 20, [20], fun vs _ => vs = [.agg #[.int .i64 x.lang, .int .u8 (x.c.toNat : Int)]]⟩, ⟨4, 21, [21], fun vs _ => vs = [.slice (some ⟨b2, o2, none⟩) n c2]⟩, ⟨5, 22, [22], fun vs _ => vs = [.int .i64 (k : Int)]⟩, ⟨6, 23, [23], fun vs _ => vs = [.pointer (some ⟨b2, o2 + k * 2, none⟩)]⟩, ⟨7, 24, [24], fun vs _ => vs = [.agg #[.int .i64 x.lang, .int .u8 (x.c.toNat : Int)]]⟩] (by kernel_rfl) (by kernel_rfl) ?_ ?_ ?_
      · simp only [All]
        refine ⟨fun _ _ _ _ h => h, fun _ _ _ _ h => h, fun _ _ _ _ h => h, fun _ _ _ _ h => h, fun _ _ _ _ h => h, fun _ _ _ _ h => h, fun _ _ _ _ h => h, fun _ _ _ _ h => h, trivial⟩
      · simp only [All]
        refine ⟨?_, ?_, ?_, ?_, ?_, ?_, ?_, ?_, trivial⟩
        · intro o ho a' w' hb hfr hdep
          obtain rfl := Option.some.inj ho
          have g0 : a'.tmps[0]?.getD undef = .slice (some ⟨b1, o1, none⟩) n c := by have h := hfr 0 (by kernel_rfl); simpa using h
          clear ho hfr hdep
          go_wp2_with fail
          exact ⟨rfl, _, rfl, Below.refl _ _, rfl⟩
        · intro o ho a' w' hb hfr hdep
          obtain rfl := Option.some.inj ho
          have g5 : a'.tmps[5]?.getD undef = .int .i64 (k : Int) := by have h := hfr 5 (by kernel_rfl); simpa using h
          clear ho hfr hdep
          go_wp2_with fail
          exact ⟨rfl, _, rfl, Below.refl _ _, rfl⟩
        · intro o ho a' w' hb hfr hdep
          obtain rfl := Option.some.inj ho
          have g17 : a'.tmps[17]?.getD undef = .slice (some ⟨b1, o1, none⟩) n c := by have h := hdep 0 _ rfl (by kernel_rfl); simpa using h
          have g18 : a'.tmps[18]?.getD undef = .int .i64 (k : Int) := by have h := hdep 1 _ rfl (by kernel_rfl); simpa using h
          clear ho hfr hdep
          go_wp2_with fail
          exact ⟨rfl, _, rfl, Below.refl _ _, rfl⟩
        · intro o ho a' w' hb hfr hdep
          obtain rfl := Option.some.inj ho
          have g19 : a'.tmps[19]?.getD undef = .pointer (some ⟨b1, o1 + k * 2, none⟩) := by have h := hdep 2 _ rfl (by kernel_rfl); simpa using h
          clear ho hfr hdep
          refine load_struct 20 55 _ 2 size_sym _ Try.underlying55 ⟨b1, o1 + k * 2, none⟩ (by show a'.tmps.getD 19 undef = _; simpa using g19) [.int .i64 x.lang, .int .u8 (x.c.toNat : Int)] rfl (fun j u hj => by rw [Addr.add_lit]; exact cell_below (HC1.out j u hj) hb) ?_
          exact ⟨rfl, _, rfl, Below.refl _ _, rfl⟩
        · intro o ho a' w' hb hfr hdep
          obtain rfl := Option.some.inj ho
          have g1 : a'.tmps[1]?.getD undef = .slice (some ⟨b2, o2, none⟩) n c2 := by have h := hfr 1 (by kernel_rfl); simpa using h
          clear ho hfr hdep
          go_wp2_with fail
          exact ⟨rfl, _, rfl, Below.refl _ _, rfl⟩
        · intro o ho a' w' hb hfr hdep
          obtain rfl := Option.some.inj ho
          have g5 : a'.tmps[5]?.getD undef = .int .i64 (k : Int) := by have h := hfr 5 (by kernel_rfl); simpa using h
          clear ho hfr hdep
          go_wp2_with fail
          exact ⟨rfl, _, rfl, Below.refl _ _, rfl⟩
        · intro o ho a' w' hb hfr hdep
          obtain rfl := Option.some.inj ho
          have g21 : a'.tmps[21]?.getD undef = .slice (some ⟨b2, o2, none⟩) n c2 := by have h := hdep 4 _ rfl (by kernel_rfl); simpa using h
          have g22 : a'.tmps[22]?.getD undef = .int .i64 (k : Int) := by have h := hdep 5 _ rfl (by kernel_rfl); simpa using h
          clear ho hfr hdep
          go_wp2_with fail
          exact ⟨rfl, _, rfl, Below.refl _ _, rfl⟩
        · intro o ho a' w' hb hfr hdep
          obtain rfl := Option.some.inj ho
          have g23 : a'.tmps[23]?.getD undef = .pointer (some ⟨b2, o2 + k * 2, none⟩) := by have h := hdep 6 _ rfl (by kernel_rfl); simpa using h
          clear ho hfr hdep
          refine load_struct 24 55 _ 2 size_sym _ Try.underlying55 ⟨b2, o2 + k * 2, none⟩ (by show a'.tmps.getD 23 undef = _; simpa using g23) [.int .i64 x.lang, .int .u8 (x.c.toNat : Int)] rfl (fun j u hj => by rw [Addr.add_lit]; exact cell_below (HC2.out j u hj) hb) ?_
          exact ⟨rfl, _, rfl, Below.refl _ _, rfl⟩
      · intro gg w3 hb3 hp3
        have p20 := hp3 3 _ rfl
        have p24 := hp3 7 _ rfl
        clear hp3
        simp at p20 p24
        simp only [List.drop_succ_cons, List.drop_zero, List.map_cons, List.map_nil, putAll, Act.put, List.setIfInBounds_toArray, List.set_cons_succ, List.set_cons_zero, List.cons_append, List.nil_append, p20, p24]
        clear p20 p24
        have hbz := hb0.trans (hb3.mono hb0.size)
        go_wp2_with fail
        go_roundg (n - (k + 1))
        case measure => have := HG.out; omega
        case rel => exact ⟨k + 1, by omega, rfl, by go_num, hbz⟩
    · obtain rfl : k = n := by omega
      go_wp2_with fail
      go_ret
      exact ⟨rfl, hb0⟩
set_option maxRecDepth 100000 in
set_option maxHeartbeats 2000000 in
theorem law_sameRuns (L : List Rn) (a a2 : Option Addr) (n c c2 : Nat) (w : World) (hs : Sl w 2 a n c (L.flatMap rnc)) (hs2 : Sl w 2 a2 n c2 (L.flatMap rnc)) :
    Calls Try.prog 32 #[.slice a n c, .slice a2 n c2] w fun e w' => e = .returned (.bool true) ∧ Below w.heap.size w w' := by
  have hnl := hs.nf rnc_len (by decide)
  have hm1 := Nat.le_trans hs.le hs.cap
  unfold maxLen at hm1
  have HNL := hide hnl
  clear hnl
  have dn : ((n : Int) != (n : Int)) = false := by simp
  go_enter Try.func32, Try.ntmps32
  go_wp2_with fail
  go_loopg [5] n (fun gh v w' => ∃ k : Nat, k ≤ n ∧ gh = n - k ∧ v = .int .i64 (k : Int) ∧ Below w.heap.size w w')
  case atStart => exact ⟨0, by omega, by omega, rfl, Below.refl _ _⟩
  case round =>
    obtain ⟨k, hk, hg, rfl, hb0⟩ := hrel
    have HG := hide hg
    clear hg
    by_cases hkl : k < n
    · obtain ⟨x, hx⟩ : ∃ x, L[k]? = some x := ⟨_, List.getElem?_eq_getElem (by rw [← HNL.out]; exact hkl)⟩
      obtain ⟨b1, o1, hab, _, e0, e1⟩ := two_cells rnc_len (hs.below hb0) hx
      obtain ⟨b2, o2, hab2, _, q0, q1⟩ := two_cells rnc_len (hs2.below hb0) hx
      subst hab hab2
      have d0 : decide (k < n) = true := decide_eq_true hkl
      have d0' : decide ((k : Int) < (n : Int)) = true := decide_eq_true (by omega)
      have HC1 : Hid (∀ (j : Nat) (u : Value), ([.int .i64 x.lang, .string x.text] : List Value)[j]? = some u → wr.cell? ⟨b1, o1 + k * 2 + j, none⟩ = some u) := hide (by
        intro j u hj
        rcases j with _ | _ | j
        · cases hj; exact e0
        · cases hj; exact e1
        · cases hj)
      have HC2 : Hid (∀ (j : Nat) (u : Value), ([.int .i64 x.lang, .string x.text] : List Value)[j]? = some u → wr.cell? ⟨b2, o2 + k * 2 + j, none⟩ = some u) := hide (by
        intro j u hj
        rcases j with _ | _ | j
        · cases hj; exact q0
        · cases hj; exact q1
        · cases hj)
      clear hx e0 e1 q0 q1
      go_wp2_with fail
      refine wp_region_free 8 [⟨0, 17, [17], fun vs _ => vs = [.slice (some ⟨b1, o1, none⟩) n c]⟩, ⟨1, 18, [18], fun vs _ => vs = [.int .i64 (k : Int)]⟩, ⟨2, 19, [19], fun vs _ => vs = [.pointer (some ⟨b1, o1 + k * 2, none⟩)]⟩, ⟨3, 20, [20], fun vs _ => vs = [.agg #[.int .i64 x.lang, .string x.text]]⟩, ⟨4, 21, [21], fun vs _ => vs = [.slice (some ⟨b2, o2, none⟩) n c2]⟩, ⟨5, 22, [22], fun vs _ => vs = [.int .i64 (k : Int)]⟩, ⟨6, 23, [23], fun vs _ => vs = [.pointer (some ⟨b2, o2 + k * 2, none⟩)]⟩, ⟨7, 24, [24], fun vs _ => vs = [.agg #[.int .i64 x.lang, .string x.text]]⟩] (by kernel_rfl) (by kernel_rfl) ?_ ?_ ?_
      · simp only [All]
        refine ⟨fun _ _ _ _ h => h, fun _ _ _ _ h => h, fun _ _ _ _ h => h, fun _ _ _ _ h => h, fun _ _ _ _ h => h, fun _ _ _ _ h => h, fun _ _ _ _ h => h, fun _ _ _ _ h => h, trivial⟩
      · simp only [All]
        refine ⟨?_, ?_, ?_, ?_, ?_, ?_, ?_, ?_, trivial⟩
        · intro o ho a' w' hb hfr hdep
          obtain rfl := Option.some.inj ho
          have g0 : a'.tmps[0]?.getD undef = .slice (some ⟨b1, o1, none⟩) n c := by have h := hfr 0 (by kernel_rfl); simpa using h
          clear ho hfr hdep
          go_wp2_with fail
          exact ⟨rfl, _, rfl, Below.refl _ _, rfl⟩
        · intro o ho a' w' hb hfr hdep
          obtain rfl := Option.some.inj ho
          have g5 : a'.tmps[5]?.getD undef = .int .i64 (k : Int) := by have h := hfr 5 (by kernel_rfl); simpa using h
          clear ho hfr hdep
          go_wp2_with fail
          exact ⟨rfl, _, rfl, Below.refl _ _, rfl⟩
        · intro o ho a' w' hb hfr hdep
          obtain rfl := Option.some.inj ho
          have g17 : a'.tmps[17]?.getD undef = .slice (some ⟨b1, o1, none⟩) n c := by have h := hdep 0 _ rfl (by kernel_rfl); simpa using h
          have g18 : a'.tmps[18]?.getD undef = .int .i64 (k : Int) := by have h := hdep 1 _ rfl (by kernel_rfl); simpa using h
          clear ho hfr hdep
          go_wp2_with fail
          exact ⟨rfl, _, rfl, Below.refl _ _, rfl⟩
        · intro o ho a' w' hb hfr hdep
          obtain rfl := Option.some.inj ho
          have g19 : a'.tmps[19]?.getD undef = .pointer (some ⟨b1, o1 + k * 2, none⟩) := by have h := hdep 2 _ rfl (by kernel_rfl); simpa using h
          clear ho hfr hdep
          refine load_struct 20 100 _ 2 size_run _ Try.underlying100 ⟨b1, o1 + k * 2, none⟩ (by show a'.tmps.getD 19 undef = _; simpa using g19) [.int .i64 x.lang, .string x.text] rfl (fun j u hj => by rw [Addr.add_lit]; exact cell_below (HC1.out j u hj) hb) ?_
          exact ⟨rfl, _, rfl, Below.refl _ _, rfl⟩
        · intro o ho a' w' hb hfr hdep
          obtain rfl := Option.some.inj ho
          have g1 : a'.tmps[1]?.getD undef = .slice (some ⟨b2, o2, none⟩) n c2 := by have h := hfr 1 (by kernel_rfl); simpa using h
          clear ho hfr hdep
          go_wp2_with fail
          exact ⟨rfl, _, rfl, Below.refl _ _, rfl⟩
        · intro o ho a' w' hb hfr hdep
          obtain rfl := Option.some.inj ho
          have g5 : a'.tmps[5]?.getD undef = .int .i64 (k : Int) := by have h := hfr 5 (by kernel_rfl); simpa using h
          clear ho hfr hdep
          go_wp2_with fail
          exact ⟨rfl, _, rfl, Below.refl _ _, rfl⟩
        · intro o ho a' w' hb hfr hdep
          obtain rfl := Option.some.inj ho
          have g21 : a'.tmps[21]?.getD undef = .slice (some ⟨b2, o2, none⟩) n c2 := by have h := hdep 4 _ rfl (by kernel_rfl); simpa using h
          have g22 : a'.tmps[22]?.getD undef = .int .i64 (k : Int) := by have h := hdep 5 _ rfl (by kernel_rfl); simpa using h
          clear ho hfr hdep
          go_wp2_with fail
          exact ⟨rfl, _, rfl, Below.refl _ _, rfl⟩
        · intro o ho a' w' hb hfr hdep
          obtain rfl := Option.some.inj ho
          have g23 : a'.tmps[23]?.getD undef = .pointer (some ⟨b2, o2 + k * 2, none⟩) := by have h := hdep 6 _ rfl (by kernel_rfl); simpa using h
          clear ho hfr hdep
          refine load_struct 24 100 _ 2 size_run _ Try.underlying100 ⟨b2, o2 + k * 2, none⟩ (by show a'.tmps.getD 23 undef = _; simpa using g23) [.int .i64 x.lang, .string x.text] rfl (fun j u hj => by rw [Addr.add_lit]; exact cell_below (HC2.out j u hj) hb) ?_
          exact ⟨rfl, _, rfl, Below.refl _ _, rfl⟩
      · intro gg w3 hb3 hp3
        have p20 := hp3 3 _ rfl
        have p24 := hp3 7 _ rfl
        clear hp3
        simp at p20 p24
        simp only [List.drop_succ_cons, List.drop_zero, List.map_cons, List.map_nil, putAll, Act.put, List.setIfInBounds_toArray, List.set_cons_succ, List.set_cons_zero, List.cons_append, List.nil_append, p20, p24]
        clear p20 p24
        have hbz := hb0.trans (hb3.mono hb0.size)
        go_wp2_with fail
        go_roundg (n - (k + 1))
        case measure => have := HG.out; omega
        case rel => exact ⟨k + 1, by omega, rfl, by go_num, hbz⟩
    · obtain rfl : k = n := by omega
      go_wp2_with fail
      go_ret
      exact ⟨rfl, hb0⟩

set_option maxHeartbeats 1000000 in
theorem ref_Short (s : ByteArray) (n : Nat) (v : Int) (hv : (n : Int) = v) (hn : n ≤ 1000000) (hs : s.size ≤ reachBytes) (w : World) : Calls Try.prog 56 #[.string s, .int .i64 v] w fun e w' => e = .returned (.string (shortB s n)) ∧ w = w' := by
  subst hv
  unfold shortB
  unfold reachBytes at hs
  by_cases h : n < s.size
  · rw [if_pos h]
    have d0 : decide ((n : Int) < (s.size : Int)) = true := decide_eq_true (by omega)
    have d0' : decide (n < s.size) = true := decide_eq_true h
    go_enter Try.func56, Try.ntmps56
    go_wp2_with fail
    go_ret
    exact ⟨rfl, rfl⟩
  · rw [if_neg h]
    have d0 : decide ((n : Int) < (s.size : Int)) = false := decide_eq_false (by omega)
    have d0' : decide (n < s.size) = false := decide_eq_false h
    go_enter Try.func56, Try.ntmps56
    go_wp2_with fail
    go_ret
    exact ⟨rfl, rfl⟩
set_option maxRecDepth 100000 in
set_option maxHeartbeats 2000000 in
theorem law_runs (l : List Rn) (a : Option Addr) (n c : Nat) (w : World) (hs : Sl w 2 a n c (l.flatMap rnc)) (hz : ∀ r ∈ l, r.text.size ≤ reachBytes) :
    Calls Try.prog 23 #[.slice a n c] w fun e w' => ∃ (rs : List Rn) (a' : Option Addr) (c' : Nat), e = .returned (.slice a' rs.length c') ∧ Sl w' 2 a' rs.length c' (rs.flatMap rnc) ∧ rs.length ≤ 8 ∧ (∀ r ∈ rs, r.text.size ≤ 30) ∧ Below w.heap.size w w' := by
  obtain rfl := hs.nf rnc_len (by decide)
  have hm1 := Nat.le_trans hs.le hs.cap
  unfold maxLen at hm1
  have HZ := hide hz
  clear hz
  go_enter Try.func23, Try.ntmps23
  go_wp2_with fail
  go_loopg [3, 4] 8 (fun gh o v w' => ∃ (k : Nat) (rs : List Rn) (ao : Option Addr) (co : Nat), k ≤ 8 ∧ rs.length ≤ k ∧ gh = 8 - k ∧ o = .slice ao rs.length co ∧ v = .int .i64 (k : Int) ∧ Hid (∀ r ∈ rs, r.text.size ≤ 30) ∧ Own w' w.heap.size 100 2 ao rs.length co (rs.flatMap rnc) ∧ Below w.heap.size w w')
  case atStart => exact ⟨0, [], none, 0, by omega, by simp, rfl, rfl, rfl, hide (fun r hr => by simp at hr), Own.nil _ _ _ _, Below.refl _ _⟩
  case round =>
    obtain ⟨k, rs, ao, co, hk, hrk, hg, rfl, rfl, HB, hO, hb0⟩ := hrel
    have HG := hide hg
    clear hg
    by_cases hkl : k < l.length
    · have d0 : decide ((k : Int) < (l.length : Int)) = true := decide_eq_true (by omega)
      have d0' : decide (k < l.length) = true := decide_eq_true hkl
      by_cases hk8 : k < 8
      · have d1 : decide ((k : Int) < 8) = true := decide_eq_true (by omega)
        have d1' : decide (k < 8) = true := decide_eq_true hk8
        obtain ⟨x, hx⟩ : ∃ x, l[k]? = some x := ⟨_, List.getElem?_eq_getElem hkl⟩
        obtain ⟨b1, o1, hab, _, e0, e1⟩ := two_cells rnc_len (hs.below hb0) hx
        subst hab
        have K0 : Hid (wr.cell? ⟨b1, o1 + k * 2, none⟩ = some (.int .i64 x.lang)) := hide e0
        have K1 : Hid (wr.cell? ⟨b1, o1 + k * 2 + 1, none⟩ = some (.string x.text)) := hide e1
        obtain ⟨sx, hsx⟩ : ∃ sx, shortB x.text 30 = sx := ⟨_, rfl⟩
        have HSZ : Hid (sx.size ≤ 30) := hide (by rw [← hsx]; exact shortB_le)
        have HSH : Hid (∀ w, Calls Try.prog 56 #[.string x.text, .int .i64 30] w fun e w' => e = .returned (.string sx) ∧ w = w') := hide (by
          rw [← hsx]
          exact fun w => ref_Short x.text 30 30 rfl (by decide) (HZ.out x (List.mem_of_getElem? hx)) w)
        clear hx e0 e1 hsx
        go_wp2_with fail
        refine wp_region_free 14 [⟨0, 15, [15], fun vs _ => vs = [.slice ao rs.length co]⟩, ⟨1, 16, [16], fun vs _ => vs = [.slice (some ⟨b1, o1, none⟩) l.length c]⟩, ⟨2, 17, [17], fun vs _ => vs = [.int .i64 (k : Int)]⟩, ⟨3, 18, [18], fun vs _ => vs = [.pointer (some ⟨b1, o1 + k * 2, none⟩)]⟩, ⟨4, 19, [19], fun vs _ => vs = [.pointer (some ⟨b1, o1 + k * 2, none⟩)]⟩, ⟨5, 20, [20], fun vs _ => vs = [.int .i64 x.lang]⟩, ⟨6, 21, [21], fun vs _ => vs = [.slice (some ⟨b1, o1, none⟩) l.length c]⟩, ⟨7, 22, [22], fun vs _ => vs = [.int .i64 (k : Int)]⟩, ⟨8, 23, [23], fun vs _ => vs = [.pointer (some ⟨b1, o1 + k * 2, none⟩)]⟩, ⟨9, 24, [24], fun vs _ => vs = [.pointer (some ⟨b1, o1 + k * 2 + 1, none⟩)]⟩, ⟨10, 25, [25], fun vs _ => vs = [.string x.text]⟩, ⟨11, 26, [26], fun vs _ => vs = [.string sx]⟩, ⟨12, 27, [27], fun vs _ => vs = [.agg #[.int .i64 x.lang, .string sx]]⟩, ⟨13, 28, [28], fun vs w' => ∃ b, vs = [.slice (some ⟨b, 0, none⟩) 1 1] ∧ Sl w' 2 (some ⟨b, 0, none⟩) 1 1 (rnc (⟨x.lang, sx⟩ : Rn))⟩] (by kernel_rfl) (by kernel_rfl) ?_ ?_ ?_
        · simp only [All]
          refine ⟨fun _ _ _ _ h => h, fun _ _ _ _ h => h, fun _ _ _ _ h => h, fun _ _ _ _ h => h, fun _ _ _ _ h => h, fun _ _ _ _ h => h, fun _ _ _ _ h => h, fun _ _ _ _ h => h, fun _ _ _ _ h => h, fun _ _ _ _ h => h, fun _ _ _ _ h => h, fun _ _ _ _ h => h, fun _ _ _ _ h => h, ?_, trivial⟩
          · rintro vs w w' hb ⟨b, h1, h2⟩
            exact ⟨b, h1, h2.below hb⟩
        · simp only [All]
          refine ⟨?_, ?_, ?_, ?_, ?_, ?_, ?_, ?_, ?_, ?_, ?_, ?_, ?_, ?_, trivial⟩
          · intro o ho a' w' hb hfr hdep
            obtain rfl := Option.some.inj ho
            have g3 : a'.tmps[3]?.getD undef = .slice ao rs.length co := by have h := hfr 3 (by kernel_rfl); simpa using h
            clear ho hfr hdep
            go_wp2_with fail
            exact ⟨rfl, _, rfl, Below.refl _ _, rfl⟩
          · intro o ho a' w' hb hfr hdep
            obtain rfl := Option.some.inj ho
            have g0 : a'.tmps[0]?.getD undef = .slice (some ⟨b1, o1, none⟩) l.length c := by have h := hfr 0 (by kernel_rfl); simpa using h
            clear ho hfr hdep
            go_wp2_with fail
            exact ⟨rfl, _, rfl, Below.refl _ _, rfl⟩
          · intro o ho a' w' hb hfr hdep
            obtain rfl := Option.some.inj ho
            have g4 : a'.tmps[4]?.getD undef = .int .i64 (k : Int) := by have h := hfr 4 (by kernel_rfl); simpa using h
            clear ho hfr hdep
            go_wp2_with fail
            exact ⟨rfl, _, rfl, Below.refl _ _, rfl⟩
          · intro o ho a' w' hb hfr hdep
            obtain rfl := Option.some.inj ho
            have g16 : a'.tmps[16]?.getD undef = .slice (some ⟨b1, o1, none⟩) l.length c := by have h := hdep 1 _ rfl (by kernel_rfl); simpa using h
            have g17 : a'.tmps[17]?.getD undef = .int .i64 (k : Int) := by have h := hdep 2 _ rfl (by kernel_rfl); simpa using h
            clear ho hfr hdep
            go_wp2_with fail
            exact ⟨rfl, _, rfl, Below.refl _ _, rfl⟩
          · intro o ho a' w' hb hfr hdep
            obtain rfl := Option.some.inj ho
            have g18 : a'.tmps[18]?.getD undef = .pointer (some ⟨b1, o1 + k * 2, none⟩) := by have h := hdep 3 _ rfl (by kernel_rfl); simpa using h
            clear ho hfr hdep
            go_wp2_with fail
            exact ⟨rfl, _, rfl, Below.refl _ _, rfl⟩
          · intro o ho a' w' hb hfr hdep
            obtain rfl := Option.some.inj ho
            have g19 : a'.tmps[19]?.getD undef = .pointer (some ⟨b1, o1 + k * 2, none⟩) := by have h := hdep 4 _ rfl (by kernel_rfl); simpa using h
            clear ho hfr hdep
            have hcl := cell_below K0.out hb
            go_wp2_with fail
            exact ⟨rfl, _, rfl, Below.refl _ _, rfl⟩
          · intro o ho a' w' hb hfr hdep
            obtain rfl := Option.some.inj ho
            have g0 : a'.tmps[0]?.getD undef = .slice (some ⟨b1, o1, none⟩) l.length c := by have h := hfr 0 (by kernel_rfl); simpa using h
            clear ho hfr hdep
            go_wp2_with fail
            exact ⟨rfl, _, rfl, Below.refl _ _, rfl⟩
          · intro o ho a' w' hb hfr hdep
            obtain rfl := Option.some.inj ho
            have g4 : a'.tmps[4]?.getD undef = .int .i64 (k : Int) := by have h := hfr 4 (by kernel_rfl); simpa using h
            clear ho hfr hdep
            go_wp2_with fail
            exact ⟨rfl, _, rfl, Below.refl _ _, rfl⟩
          · intro o ho a' w' hb hfr hdep
            obtain rfl := Option.some.inj ho
            have g21 : a'.tmps[21]?.getD undef = .slice (some ⟨b1, o1, none⟩) l.length c := by have h := hdep 6 _ rfl (by kernel_rfl); simpa using h
            have g22 : a'.tmps[22]?.getD undef = .int .i64 (k : Int) := by have h := hdep 7 _ rfl (by kernel_rfl); simpa using h
            clear ho hfr hdep
            go_wp2_with fail
            exact ⟨rfl, _, rfl, Below.refl _ _, rfl⟩
          · intro o ho a' w' hb hfr hdep
            obtain rfl := Option.some.inj ho
            have g23 : a'.tmps[23]?.getD undef = .pointer (some ⟨b1, o1 + k * 2, none⟩) := by have h := hdep 8 _ rfl (by kernel_rfl); simpa using h
            clear ho hfr hdep
            go_wp2_with fail
            exact ⟨rfl, _, rfl, Below.refl _ _, rfl⟩
          · intro o ho a' w' hb hfr hdep
            obtain rfl := Option.some.inj ho
            have g24 : a'.tmps[24]?.getD undef = .pointer (some ⟨b1, o1 + k * 2 + 1, none⟩) := by have h := hdep 9 _ rfl (by kernel_rfl); simpa using h
            clear ho hfr hdep
            have hcl := cell_below K1.out hb
            go_wp2_with fail
            exact ⟨rfl, _, rfl, Below.refl _ _, rfl⟩
          · intro o ho a' w' hb hfr hdep
            obtain rfl := Option.some.inj ho
            have g25 : a'.tmps[25]?.getD undef = .string x.text := by have h := hdep 10 _ rfl (by kernel_rfl); simpa using h
            clear ho hfr hdep
            go_wp2_with fail
            refine (HSH.out _).mono ?_
            rintro e w2 ⟨rfl, rfl⟩
            go_wp2_with fail
            exact ⟨rfl, _, rfl, Below.refl _ _, rfl⟩
          · intro o ho a' w' hb hfr hdep
            obtain rfl := Option.some.inj ho
            have g20 : a'.tmps[20]?.getD undef = .int .i64 x.lang := by have h := hdep 5 _ rfl (by kernel_rfl); simpa using h
            have g26 : a'.tmps[26]?.getD undef = .string sx := by have h := hdep 11 _ rfl (by kernel_rfl); simpa using h
            clear ho hfr hdep
            go_wp2_with fail
            exact ⟨rfl, _, rfl, Below.refl _ _, rfl⟩
          · intro o ho a' w' hb hfr hdep
            obtain rfl := Option.some.inj ho
            have g27 : a'.tmps[27]?.getD undef = .agg #[.int .i64 x.lang, .string sx] := by have h := hdep 12 _ rfl (by kernel_rfl); simpa using h
            clear ho hfr hdep
            go_wp2_with fail
            exact ⟨rfl, _, rfl, blo _ _, _, rfl, Sl.fresh _ _ 2 1 (rnc (⟨x.lang, sx⟩ : Rn)) rfl (by decide)⟩
        · intro gg w3 hb3 hp3
          have p15 := hp3 0 _ rfl
          obtain ⟨b9, p28, hs9⟩ := hp3 13 _ rfl
          clear hp3
          simp at p15 p28
          simp only [List.drop_succ_cons, List.drop_zero, List.map_cons, List.map_nil, putAll, Act.put, List.setIfInBounds_toArray, List.set_cons_succ, List.set_cons_zero, List.cons_append, List.nil_append, p15, p28]
          clear p15 p28
          have hbz := hb0.trans (hb3.mono hb0.size)
          have ho3 := hO.below hb3
          have hz3 := hbz.size
          go_wp2_with (at_builtin; refine app_rn rfl _ _ rfl w w.heap.size ao rs.length co _ rfl ho3 (some ⟨b9, 0, none⟩) 1 (⟨x.lang, sx⟩ : Rn) rfl hs9 (by omega) hz3 hbz ?_; intro a7 c7 w7 ho7 hg7 hb7)
          go_roundg (8 - (k + 1))
          case measure => have := HG.out; omega
          case rel => exact ⟨k + 1, rs ++ [(⟨x.lang, sx⟩ : Rn)], a7, c7, by omega, by rw [List.length_append]; show _ + 1 ≤ _; omega, rfl, by rw [List.length_append]; rfl, by go_num, hide (fun r hr => by
            rcases List.mem_append.1 hr with h | h
            · exact HB.out r h
            · rw [List.mem_singleton.1 h]; exact HSZ.out), by rw [List.length_append, List.flatMap_append, List.flatMap_singleton]; exact ho7, hb7⟩
      · have d1 : decide ((k : Int) < 8) = false := decide_eq_false (by omega)
        have d1' : decide (k < 8) = false := decide_eq_false hk8
        go_wp2_with fail
        go_ret
        exact ⟨rs, ao, co, rfl, hO.sl, by omega, HB.out, hb0⟩
    · have d0 : decide ((k : Int) < (l.length : Int)) = false := decide_eq_false (by omega)
      have d0' : decide (k < l.length) = false := decide_eq_false hkl
      go_wp2_with fail
      go_ret
      exact ⟨rs, ao, co, rfl, hO.sl, by omega, HB.out, hb0⟩
end Go.Proofs.Ytkjcbneanaeleaa
end

/- the text B37 -/
section
/- Chapter 06: what TableLocal compares, in plain Lean; appends of characters. -/
namespace Go.Dx
open Go.RowKit
/-- the places from f up to g hold the word of the place i -/
structure Win (S : List Sy) (x : Sy) (i f g : Nat) : Prop where
  fi : f ≤ i
  ig : i < g
  gl : g ≤ S.length
  word : isL x.c = true → ∀ (j : Nat) (y : Sy), f ≤ j → j < g → S[j]? = some y → y.lang = x.lang ∧ isL y.c = true
  left : isL x.c = true → ∀ y : Sy, 0 < f → S[f - 1]? = some y → noL x.lang y
  right : isL x.c = true → ∀ y : Sy, S[g]? = some y → noL x.lang y
theorem Win.next {t : Ta} (ht : validE t = 0) {s : St} (hs : s.lang = 0 ∨ s.lang = 1) {S K M : List Sy} {x : Sy} {i f g : Nat} (h : Win S x i f g) (hx : S[i]? = some x) (hS : goodS S = true) (hu : Int) {O : List Sy}
    (hO : O = ((K ++ [⟨hu, 32⟩] ++ (S.drop f).take (g - f)) ++ [⟨hu, 32⟩]) ++ M) (hg : goodS O = true) :
    stepsL t s S (i : Int) = stepsL t s O ((K.length + 1 + i - f : Nat) : Int) := by
  have hA : ((S.drop f).take (g - f))[i - f]? = some x := by
    rw [List.getElem?_take_of_lt (by have := h.fi; have := h.ig; omega), List.getElem?_drop, show f + (i - f) = i by have := h.fi; omega, hx]
  have hAl : ((S.drop f).take (g - f)).length = g - f := by
    rw [List.length_take, List.length_drop]; have := h.gl; have := h.fi; have := h.ig; omega
  have e1 : S = S.take f ++ ((S.drop f).take (g - f) ++ S.drop g) := by
    have e : S.drop g = (S.drop f).drop (g - f) := by rw [List.drop_drop]; congr 1; have := h.fi; have := h.ig; omega
    rw [e, List.take_append_drop, List.take_append_drop]
  have e2 : O = (K ++ [⟨hu, 32⟩]) ++ ((S.drop f).take (g - f) ++ (⟨hu, 32⟩ :: M)) := by rw [hO]; simp
  have l1 : (S.take f).length = f := by rw [List.length_take]; have := h.fi; have := h.ig; have := h.gl; omega
  have l2 : (K ++ [(⟨hu, 32⟩ : Sy)]).length = K.length + 1 := by simp
  have hw : isL x.c = true → wordA x.lang ((S.drop f).take (g - f)) := by
    intro hl y hy
    obtain ⟨j, hj⟩ := List.mem_iff_getElem?.1 hy
    have hjl := (List.getElem?_eq_some_iff.1 hj).1
    rw [hAl] at hjl
    rw [List.getElem?_take_of_lt hjl, List.getElem?_drop] at hj
    exact h.word hl (f + j) y (by omega) (by omega) hj
  have hP : isL x.c = true → stopP x.lang (S.take f) := by
    intro hl y hy
    rw [l1] at hy
    by_cases h0 : f = 0
    · subst h0; simp at hy
    · rw [List.getElem?_take_of_lt (by omega)] at hy
      exact h.left hl y (by omega) hy
  have hB : isL x.c = true → stopB x.lang (S.drop g) := by
    intro hl y hy
    rw [List.getElem?_drop, Nat.add_zero] at hy
    exact h.right hl y hy
  have hx1 : S[i]? = some x := hx
  have hx2 : O[K.length + 1 + i - f]? = some x := by
    rw [e2, List.getElem?_append_right (by rw [l2]; have := h.fi; omega), l2, show K.length + 1 + i - f - (K.length + 1) = i - f by have := h.fi; omega, List.getElem?_append_left (by rw [hAl]; have := h.fi; have := h.ig; omega)]
    exact hA
  rw [steps_at ht hs hS hx1, steps_at ht hs hg hx2]
  have key := local_next (s := s) ht (P := S.take f) (A := (S.drop f).take (g - f)) (B := S.drop g) (P' := K ++ [⟨hu, 32⟩]) (B' := ⟨hu, 32⟩ :: M) (x := x) (j := i - f) hA (fun hl => ⟨hP hl, hw hl, hB hl⟩) (fun hl => ⟨stop_blankP _ _ _, hw hl, stop_blank _ _ _⟩)
  rw [← e1, ← e2, l1, l2, show f + (i - f) = i by have := h.fi; omega, show K.length + 1 + (i - f) = K.length + 1 + i - f by have := h.fi; omega] at key
  exact key
theorem rule_few (t : Ta) (s : St) (x : Sy) (l : List Sy) (i : Nat) : ∀ (rs : List Ru) (k : Nat), (ruleSteps t s x l i k rs).length ≤ rs.length := by
  intro rs
  induction rs with
  | nil => intro k; exact Nat.le_refl _
  | cons r rs ih =>
    intro k
    have := ih (k + 1)
    unfold ruleSteps
    rw [List.length_append, List.length_cons]
    split <;> simp <;> omega
theorem steps_few (t : Ta) (s : St) (l : List Sy) (i : Int) : (stepsL t s l i).length ≤ 1000 := by
  unfold stepsL
  split
  · rename_i h
    cases l[i.toNat]? with
    | none => simp
    | some x =>
      have key : (nextL t s l i.toNat x).length ≤ 1000 := by
        unfold nextL
        split
        · simp
        split
        · simp
        · refine Nat.le_trans (rule_few _ _ _ _ _ _ _) ?_
          have h1 := (valid_parts h.1).1
          have h2 := (valid_parts h.1).2.1
          unfold langOf
          split <;> omega
      exact key
  · simp
section
variable {P : Program} {w : World} {ops : Array Oper} {rest : List Oper} {act : Act} {Q : Exit → Act → World → Prop} {ty : TypeId} {pos : String} {after : Array Edge}
/-- 'xs[l:u]', whatever the world is -/
theorem cut_any (d : Nat) (t : TypeId) (x lo hi : Operand) (e : TypeId) (ht : P.underlying t = some (.slice e)) (sz : Nat) (hsz : (P.info? e).map (·.size) = some sz)
    (a : Option Addr) (n c : Nat) (hx : act.eval x = .slice a n c) (kl ku : IntKind) (l u : Nat) (hl : act.eval lo = .int kl (l : Int)) (hu : act.eval hi = .int ku (u : Int)) (hlu : l ≤ u) (hun : u ≤ c)
    (hK : wpList P ops Q rest (act.put (some d) (.slice (if c = l then a else a.map (·.add (l * sz))) (u - l) (c - l))) w) :
    wpList P ops Q ({ dst := some d, op := .slice t x (some lo) (some hi) none, type := ty, pos := pos, after := after, guard := none } :: rest) act w := by
  refine wpList_plain rfl fun K hK' => ?_
  obtain ⟨i0, hi0, hs0⟩ := Option.map_eq_some_iff.1 hsz
  have hrun : (Instr.sliceAt t (.slice a n c) (some (.int kl (l : Int))) (some (.int ku (u : Int))) none).run P w = .ok (.slice (if c = l then a else a.map (·.add (l * sz))) (u - l) (c - l)) w := by
    have h2 : (0 : Int) ≤ l ∧ (l : Int) ≤ u := by omega
    have h3 : (0 : Int) ≤ u ∧ (u : Int) ≤ c := by omega
    simp [Instr.sliceAt, Instr.slice, Instr.sliceBounds, Instr.sliceBound, asIntOf, run_underlying ht, sizeOf, typeInfo, hi0, hs0, h2, h3, show u ≤ c by omega, hlu]
  unfold Oper.wp
  simp only [execOp, Option.map_some, Option.map_none, hx, hl, hu, Sem.run_bind, hrun, Result.andThen, Sem.run_pure]
  exact hK' _ _ hK
end
/-- how far 'append(append(other, blank), text[from:to]...)' is -/
def GY (w0 : World) (B : Nat) (E : TypeId) (ao : Option Addr) (n co m : Nat) (xs bl ys : List Value) : Nat → List Value → World → Prop
  | 0, _, w => Own w B E 2 ao n co xs ∧ Below B w0 w ∧ B ≤ w.heap.size
  | 1, vs, w => (∃ b, vs.getD 0 undef = .slice b 1 1 ∧ Sl w 2 b 1 1 bl) ∧ Own w B E 2 ao n co xs ∧ Below B w0 w ∧ B ≤ w.heap.size
  | 2, vs, w => (∃ a c, vs.getD 1 undef = .slice a (n + 1) c ∧ Own w B E 2 a (n + 1) c (xs ++ bl)) ∧ Below B w0 w ∧ B ≤ w.heap.size
  | _ + 3, vs, w => (∃ a c, vs.getD 2 undef = .slice a (n + 1 + m) c ∧ Own w B E 2 a (n + 1 + m) c (xs ++ bl ++ ys)) ∧ Below B w0 w ∧ B ≤ w.heap.size
theorem GY.bel {w0 w : World} {B : Nat} {E : TypeId} {ao : Option Addr} {n co m : Nat} {xs bl ys : List Value} {vs : List Value} : ∀ {j}, GY w0 B E ao n co m xs bl ys j vs w → Below B w0 w ∧ B ≤ w.heap.size := by
  intro j h
  match j, h with
  | 0, h => exact h.2
  | 1, h => exact h.2.2
  | 2, h => exact h.2
  | _ + 3, h => exact h.2
theorem GY.mono {w0 : World} {B : Nat} {E : TypeId} {ao : Option Addr} {n co m : Nat} {xs bl ys : List Value} : ∀ j vs w w', Below w.heap.size w w' → GY w0 B E ao n co m xs bl ys j vs w → GY w0 B E ao n co m xs bl ys j vs w' := by
  intro j vs w w' hb h
  have hz := hb.size
  match j, h with
  | 0, ⟨h1, h2, h3⟩ => exact ⟨h1.below hb, h2.trans (hb.mono h3), Nat.le_trans h3 hz⟩
  | 1, ⟨⟨b, h1, h2⟩, h3, h4, h5⟩ => exact ⟨⟨b, h1, h2.below hb⟩, h3.below hb, h4.trans (hb.mono h5), Nat.le_trans h5 hz⟩
  | 2, ⟨⟨a, c, h1, h2⟩, h4, h5⟩ => exact ⟨⟨a, c, h1, h2.below hb⟩, h4.trans (hb.mono h5), Nat.le_trans h5 hz⟩
  | _ + 3, ⟨⟨a, c, h1, h2⟩, h4, h5⟩ => exact ⟨⟨a, c, h1, h2.below hb⟩, h4.trans (hb.mono h5), Nat.le_trans h5 hz⟩
theorem sy_ones (L : List Sy) : ∀ u ∈ L.flatMap sc, u.oneCell' = true := by
  intro u hu
  obtain ⟨x, _, hx⟩ := List.mem_flatMap.1 hu
  exact sc_one x u hx
end Go.Dx
namespace Go.Proofs.Ytkjcbneanaeleaa
open Go.RowKit Go.Dx
section
variable {w : World} {ops : Array Oper} {rest : List Oper} {o : Oper} {act : Act} {Q : Exit → Act → World → Prop}
/-- 'append(l, m...)' in []api.Sym -/
theorem app_sys (hg : o.guard = none) (s x : Operand) (hop : o.op = Op.call { callee := Callee.builtin Builtin.append, args := #[s, x], argTypes := #[37, 37] })
    (w0 : World) (B : Nat) (a : Option Addr) (n c : Nat) (xs : List Value) (hs : act.eval s = .slice a n c) (hown : Own w B 55 2 a n c xs)
    (a2 : Option Addr) (m c2 : Nat) (ys : List Value) (h1 : ∀ u ∈ ys, u.oneCell' = true) (hx : act.eval x = .slice a2 m c2) (hy : Sl w 2 a2 m c2 ys)
    (hn : n + m ≤ 1000000) (hB : B ≤ w.heap.size) (hbel : Below B w0 w)
    (hK : ∀ a' c' w', Own w' B 55 2 a' (n + m) c' (xs ++ ys) → B ≤ w'.heap.size → Below B w0 w' → wpList Try.prog ops Q rest (act.put o.dst (.slice a' (n + m) c')) w') :
    wpList Try.prog ops Q (o :: rest) act w := by
  refine append_own hg s x 37 hop 55 zeroSym 2 16 Try.underlying37 info_sym rfl w0 B a n c xs hs hown a2 m c2 ys hx hy h1 (by omega) (by unfold maxLen; omega) hB hbel ?_
  intro a' c' w' ho hgr hb
  exact hK a' c' w' ho (Nat.le_trans hB hgr.size) hb
end
end Go.Proofs.Ytkjcbneanaeleaa
end

/- the text B45 -/
section
/- Chapter 06: the law's long text; Symbols. -/
namespace Go.Dx
open Go.RowKit
theorem rowIs_box {w : World} {b : Nat} {t : TypeId} {n : Nat} {z : Value} (h : w.rowIs b t n (fun _ => z)) : Box w b t (List.replicate n z) := by
  obtain ⟨cs, h1, h2, h3⟩ := h
  have : cs = (List.replicate n z).toArray := by
    apply Array.ext_getElem?
    intro i
    by_cases hi : i < n
    · rw [h3 i hi]; simp [hi]
    · rw [Array.getElem?_eq_none (by omega)]; simp; omega
  unfold Box
  rw [h1, this]
theorem chars_step {s : ByteArray} {g : Int} {j : Nat} {ch : UInt8} (h : (chars s)[j]? = some ch) : ((chars s).take (j + 1)).map (fun c => (⟨g, c⟩ : Sy)) = ((chars s).take j).map (fun c => (⟨g, c⟩ : Sy)) ++ [⟨g, ch⟩] := by
  rw [take_succ_get h, List.map_append]; rfl
theorem okRn_lang {r : Rn} (h0 : r.lang ≠ 0) (h1 : r.lang ≠ 1) : okRn r = false := by unfold okRn; simp [h0, h1]
theorem okRn_char {r : Rn} {j : Nat} {ch : UInt8} (h : (chars r.text)[j]? = some ch) (hw : isW ch = false) : okRn r = false := by
  unfold okRn
  rw [Bool.and_eq_false_iff]
  right
  rw [List.all_eq_false]
  exact ⟨ch, List.mem_of_getElem? h, by simp [hw]⟩
theorem sym_bad {l : List Rn} {k : Nat} {x : Rn} (h : l[k]? = some x) (hx : okRn x = false) : symE l = 1 ∧ symL l = [] := by
  have h1 : symE l = 1 := by
    unfold symE
    rw [if_pos]
    rw [List.all_eq_false]
    exact ⟨x, List.mem_of_getElem? h, by simp [hx]⟩
  refine ⟨h1, ?_⟩
  unfold symL
  rw [h1, if_neg (by decide)]
theorem sym_big {l : List Rn} (h : l.all okRn = true) (hl : 2048 < (symsR l).length) : symE l = 4 ∧ symL l = [] := by
  have h1 : symE l = 4 := by
    unfold symE
    rw [if_neg (by rw [h]; simp), if_pos hl]
  refine ⟨h1, ?_⟩
  unfold symL
  rw [h1, if_neg (by decide)]
theorem sym_fine {l : List Rn} (h : l.all okRn = true) (hl : (symsR l).length ≤ 2048) : symE l = 0 ∧ symL l = symsR l := by
  have h1 : symE l = 0 := by
    unfold symE
    rw [if_neg (by rw [h]; simp), if_neg (by omega)]
  refine ⟨h1, ?_⟩
  unfold symL
  rw [h1, if_pos rfl]
theorem symsR_take (l : List Rn) (k : Nat) : (symsR (l.take k)).length ≤ (symsR l).length := by
  conv => rhs; rw [← List.take_append_drop k l]
  unfold symsR
  rw [List.flatMap_append, List.length_append]
  omega
end Go.Dx
namespace Go.Proofs.Ytkjcbneanaeleaa
open Go.RowKit Go.Dx
section
variable {w : World} {ops : Array Oper} {rest : List Oper} {o : Oper} {act : Act} {Q : Exit → Act → World → Prop}
theorem app_sys2 (hg : o.guard = none) (s x : Operand) (hop : o.op = Op.call { callee := Callee.builtin Builtin.append, args := #[s, x], argTypes := #[37, 37] })
    (w0 : World) (B : Nat) (a : Option Addr) (n c : Nat) (xs : List Value) (hs : act.eval s = .slice a n c) (hown : Own w B 55 2 a n c xs)
    (a2 : Option Addr) (m c2 : Nat) (ys : List Value) (h1 : ∀ u ∈ ys, u.oneCell' = true) (hx : act.eval x = .slice a2 m c2) (hy : Sl w 2 a2 m c2 ys)
    (hn : n + m ≤ 1000000) (hB : B ≤ w.heap.size) (hbel : Below B w0 w)
    (hK : ∀ a' c' w', Own w' B 55 2 a' (n + m) c' (xs ++ ys) → w.grownBy w' (a.map (·.block)) → Below B w0 w' → wpList Try.prog ops Q rest (act.put o.dst (.slice a' (n + m) c')) w') :
    wpList Try.prog ops Q (o :: rest) act w :=
  append_own hg s x 37 hop 55 zeroSym 2 16 Try.underlying37 info_sym rfl w0 B a n c xs hs hown a2 m c2 ys hx hy h1 (by omega) (by unfold maxLen; omega) hB hbel hK
end
set_option maxRecDepth 100000 in
set_option maxHeartbeats 2000000 in
theorem law_long (n : Int) (hn : -9223372036854775808 ≤ n ∧ n ≤ 9223372036854775807) (w : World) :
    Calls Try.prog 25 #[.int .i64 n] w fun e w' => ∃ (rs : List Rn) (a' : Option Addr) (c' : Nat), e = .returned (.slice a' rs.length c') ∧ Sl w' 2 a' rs.length c' (rs.flatMap rnc) ∧ rs.length ≤ 8 ∧ (∀ r ∈ rs, r.text.size ≤ 3000) ∧ Below w.heap.size w w' := by
  go_enter Try.func25, Try.ntmps25
  go_wp2_with fail
  refine (around_ex 5 _ _ _ rfl hn (by decide) (by decide)).mono ?_
  rintro e wa ⟨r, hr, rfl, rfl⟩
  obtain ⟨m, hm⟩ : ∃ m, m = 2046 + r := ⟨_, rfl⟩
  have HM : Hid (2046 + (r : Int) = (m : Int)) := hide (by omega)
  have hml : 2046 ≤ m ∧ m ≤ 2051 := by omega
  clear hm hn
  go_wp2_with (with_reducible refine make_row 8 _ _ _ 5 (.int .u8 0) 1 Try.underlying26 info_u8 rfl _ _ _ _ m rfl rfl HM.out HM.out (by omega) (by omega) ?_; intro w1 hrow1 hb1 hz1; refine hold ?_)
  refine hide ?_
  have hbx0 := rowIs_box hrow1
  obtain ⟨g, hg⟩ : ∃ g, g = w.heap.size := ⟨_, rfl⟩
  rw [← hg] at hbx0 ⊢
  have hgw : w.heap.size ≤ g := by omega
  clear hrow1 hg hz1
  go_wp2_with fail
  go_loopg [4] m (fun gh v w' => ∃ (k : Nat) (cs : List UInt8), k ≤ m ∧ gh = m - k ∧ v = .int .i64 (k : Int) ∧ Hid (cs.length = m) ∧ Box w' g 5 (cs.map B8) ∧ Below w.heap.size w w')
  case atStart => exact ⟨0, List.replicate m 0, by omega, by omega, rfl, hide (by simp), by rw [List.map_replicate]; exact hbx0, hb1⟩
  case round =>
    clear hbx0 hb1
    obtain ⟨k, cs, hk, hgk, rfl, HCL, hbx, hb1⟩ := hrel
    have HG := hide hgk
    clear hgk
    by_cases hkm : k < m
    · have d0 : decide ((k : Int) < (m : Int)) = true := decide_eq_true (by omega)
      have d0' : decide (k < m) = true := decide_eq_true hkm
      have hln : k < (cs.map B8).length := by rw [List.length_map, HCL.out]; exact hkm
      go_wp2_with (with_reducible refine store_cell 5 _ _ 5 g k (cs.map B8) (.int .u8 97) size_u8 hbx rfl rfl rfl rfl hln ?_; intro w8 hx8 hg8 hs8)
      have hbz := hb1.grown hg8 hb1.size (fun q hq => by cases hq; exact hgw)
      go_roundg (m - (k + 1))
      case measure => have := HG.out; omega
      case rel => exact ⟨k + 1, cs.set k 97, by omega, rfl, by go_num, hide (by rw [List.length_set]; exact HCL.out), by rw [List.map_set]; exact hx8, hbz⟩
    · obtain rfl : k = m := by omega
      have d0 : decide ((k : Int) < (k : Int)) = false := decide_eq_false (by omega)
      have h1000 : 1000 ≤ k := by omega
      have hsl : Sl wr 1 (some ⟨g, 0, none⟩) k k (cs.map B8) := hbx.sl 0 k k 1 (cs.map B8) (by rw [List.length_map, HCL.out, Nat.mul_one]) (Nat.le_refl _) (by unfold maxLen; omega) (fun j u hj => by rw [Nat.zero_add]; exact hj)
      obtain ⟨C1, hC1⟩ : ∃ C1, C1 = cs.take 1000 := ⟨_, rfl⟩
      obtain ⟨C2, hC2⟩ : ∃ C2, C2 = cs.drop 1000 := ⟨_, rfl⟩
      obtain ⟨T1, hT1⟩ : ∃ T1 : ByteArray, (⟨C1.toArray⟩ : ByteArray) = T1 := ⟨_, rfl⟩
      obtain ⟨T2, hT2⟩ : ∃ T2 : ByteArray, (⟨C2.toArray⟩ : ByteArray) = T2 := ⟨_, rfl⟩
      have HT1 := hide hT1
      have HT2 := hide hT2
      have HZ : Hid (∀ r ∈ ([⟨0, T1⟩, ⟨1, T2⟩] : List Rn), r.text.size ≤ 3000) := hide (by
        have hcl := HCL.out
        intro r hr
        simp only [List.mem_cons, List.not_mem_nil, or_false] at hr
        rcases hr with rfl | rfl
        · show T1.size ≤ 3000
          rw [← hT1]
          show C1.toArray.size ≤ 3000
          rw [List.size_toArray, hC1, List.length_take]
          omega
        · show T2.size ≤ 3000
          rw [← hT2]
          show C2.toArray.size ≤ 3000
          rw [List.size_toArray, hC2, List.length_drop]
          omega)
      have HS1 : Hid (Sl wr 1 (some ⟨g, 0, none⟩) 1000 k (C1.map B8)) := hide (by rw [hC1, List.map_take]; exact hsl.take 1000 h1000)
      have hcut := hsl.cut 1000 k h1000 (Nat.le_refl _)
      obtain ⟨aW, hAW⟩ : ∃ aW, (if k = 1000 then (some ⟨g, 0, none⟩ : Option Addr) else (some (⟨g, 0, none⟩ : Addr)).map (·.add (1000 * 1))) = aW := ⟨_, rfl⟩
      have HAW := hide hAW
      rw [hAW] at hcut
      have HS2 : Hid (Sl wr 1 aW (k - 1000) (k - 1000) (C2.map B8)) := hide (by
        rw [hC2, List.map_drop]
        rw [Nat.mul_one, Nat.mul_one] at hcut
        rw [List.take_of_length_le (by rw [List.length_drop, List.length_map, HCL.out]; exact Nat.le_refl _)] at hcut
        exact hcut)
      clear hT1 hT2 hC1 hC2 hAW hcut hsl
      go_wp2_with fail
      refine wp_region_free 8 [⟨0, 18, [18], fun vs _ => vs = [.slice (some ⟨g, 0, none⟩) k k]⟩, ⟨1, 19, [19], fun vs _ => vs = [.slice (some ⟨g, 0, none⟩) 1000 k]⟩, ⟨2, 20, [20], fun vs _ => vs = [.string T1]⟩, ⟨3, 21, [21], fun vs _ => vs = [.agg #[.int .i64 0, .string T1]]⟩, ⟨4, 22, [22], fun vs _ => vs = [.slice (some ⟨g, 0, none⟩) k k]⟩, ⟨5, 23, [23], fun vs _ => vs = [.slice aW (k - 1000) (k - 1000)]⟩, ⟨6, 24, [24], fun vs _ => vs = [.string T2]⟩, ⟨7, 25, [25], fun vs _ => vs = [.agg #[.int .i64 1, .string T2]]⟩] (by kernel_rfl) (by kernel_rfl) ?_ ?_ ?_
      · simp only [All]
        refine ⟨fun _ _ _ _ h => h, fun _ _ _ _ h => h, fun _ _ _ _ h => h, fun _ _ _ _ h => h, fun _ _ _ _ h => h, fun _ _ _ _ h => h, fun _ _ _ _ h => h, fun _ _ _ _ h => h, trivial⟩
      · simp only [All]
        refine ⟨?_, ?_, ?_, ?_, ?_, ?_, ?_, ?_, trivial⟩
        · intro o ho a' w' hb hfr hdep
          obtain rfl := Option.some.inj ho
          have g3 : a'.tmps[3]?.getD undef = .slice (some ⟨g, 0, none⟩) k k := by have h := hfr 3 (by kernel_rfl); simpa using h
          clear ho hfr hdep
          go_wp2_with fail
          exact ⟨rfl, _, rfl, Below.refl _ _, rfl⟩
        · intro o ho a' w' hb hfr hdep
          obtain rfl := Option.some.inj ho
          have g18 : a'.tmps[18]?.getD undef = .slice (some ⟨g, 0, none⟩) k k := by have h := hdep 0 _ rfl (by kernel_rfl); simpa using h
          clear ho hfr hdep
          refine cut_hi_g 19 _ _ _ _ Try.underlying26 1 size_u8 (some ⟨g, 0, none⟩) k k (by show a'.tmps.getD 18 undef = _; simpa using g18) .i64 1000 rfl h1000 ?_
          go_wp2_with fail
          exact ⟨rfl, _, rfl, Below.refl _ _, rfl⟩
        · intro o ho a' w' hb hfr hdep
          obtain rfl := Option.some.inj ho
          have g19 : a'.tmps[19]?.getD undef = .slice (some ⟨g, 0, none⟩) 1000 k := by have h := hdep 1 _ rfl (by kernel_rfl); simpa using h
          clear ho hfr hdep
          refine to_str 20 _ (some ⟨g, 0, none⟩) 1000 k C1 (by show a'.tmps.getD 19 undef = _; simpa using g19) (HS1.out.below hb) ?_
          rw [HT1.out]
          go_wp2_with fail
          exact ⟨rfl, _, rfl, Below.refl _ _, rfl⟩
        · intro o ho a' w' hb hfr hdep
          obtain rfl := Option.some.inj ho
          have g20 : a'.tmps[20]?.getD undef = .string T1 := by have h := hdep 2 _ rfl (by kernel_rfl); simpa using h
          clear ho hfr hdep
          go_wp2_with fail
          exact ⟨rfl, _, rfl, Below.refl _ _, rfl⟩
        · intro o ho a' w' hb hfr hdep
          obtain rfl := Option.some.inj ho
          have g3 : a'.tmps[3]?.getD undef = .slice (some ⟨g, 0, none⟩) k k := by have h := hfr 3 (by kernel_rfl); simpa using h
          clear ho hfr hdep
          go_wp2_with fail
          exact ⟨rfl, _, rfl, Below.refl _ _, rfl⟩
        · intro o ho a' w' hb hfr hdep
          obtain rfl := Option.some.inj ho
          have g22 : a'.tmps[22]?.getD undef = .slice (some ⟨g, 0, none⟩) k k := by have h := hdep 4 _ rfl (by kernel_rfl); simpa using h
          clear ho hfr hdep
          refine cut_lo_g 23 _ _ _ _ Try.underlying26 1 size_u8 (some ⟨g, 0, none⟩) k k (by show a'.tmps.getD 22 undef = _; simpa using g22) .i64 1000 rfl h1000 ?_
          rw [HAW.out]
          go_wp2_with fail
          exact ⟨rfl, _, rfl, Below.refl _ _, rfl⟩
        · intro o ho a' w' hb hfr hdep
          obtain rfl := Option.some.inj ho
          have g23 : a'.tmps[23]?.getD undef = .slice aW (k - 1000) (k - 1000) := by have h := hdep 5 _ rfl (by kernel_rfl); simpa using h
          clear ho hfr hdep
          refine to_str 24 _ aW (k - 1000) (k - 1000) C2 (by show a'.tmps.getD 23 undef = _; simpa using g23) (HS2.out.below hb) ?_
          rw [HT2.out]
          go_wp2_with fail
          exact ⟨rfl, _, rfl, Below.refl _ _, rfl⟩
        · intro o ho a' w' hb hfr hdep
          obtain rfl := Option.some.inj ho
          have g24 : a'.tmps[24]?.getD undef = .string T2 := by have h := hdep 6 _ rfl (by kernel_rfl); simpa using h
          clear ho hfr hdep
          go_wp2_with fail
          exact ⟨rfl, _, rfl, Below.refl _ _, rfl⟩
      · intro gg w5 hb5 hp5
        have p21 := hp5 3 _ rfl
        have p25 := hp5 7 _ rfl
        clear hp5
        simp at p21 p25
        simp only [List.drop_succ_cons, List.drop_zero, List.map_cons, List.map_nil, putAll, Act.put, List.setIfInBounds_toArray, List.set_cons_succ, List.set_cons_zero, List.cons_append, List.nil_append, p21, p25]
        clear p21 p25
        have hbz := hb1.trans (hb5.mono hb1.size)
        have hal := blo w5 (.cells (([⟨0, T1⟩, ⟨1, T2⟩] : List Rn).flatMap rnc).toArray 100)
        go_wp2_with fail
        go_ret
        exact ⟨[⟨0, T1⟩, ⟨1, T2⟩], _, 2, rfl, Sl.fresh _ _ 2 2 (([⟨0, T1⟩, ⟨1, T2⟩] : List Rn).flatMap rnc) rfl (by decide), (by simp), HZ.out, hbz.trans (hal.mono hbz.size)⟩
set_option maxRecDepth 100000 in
set_option maxHeartbeats 4000000 in
theorem tab_Symbols (l : List Rn) (a : Option Addr) (n c : Nat) (w : World) (hs : Sl w 2 a n c (l.flatMap rnc)) (hl : l.length ≤ 3000) (hz : ∀ r ∈ l, r.text.size ≤ 3000) :
    Calls Try.prog 26 #[.slice a n c] w fun e w' => ∃ (a' : Option Addr) (c' : Nat), e = .returned (.tuple #[.slice a' (symL l).length c', .int .i64 (symE l)]) ∧ Sl w' 2 a' (symL l).length c' ((symL l).flatMap sc) ∧ Below w.heap.size w w' := by
  obtain rfl := hs.nf rnc_len (by decide)
  have HZ := hide hz
  clear hz
  obtain ⟨E, HE⟩ : ∃ E, Hid (symE l = E) := ⟨_, hide rfl⟩
  obtain ⟨R, HR⟩ : ∃ R, Hid (symL l = R) := ⟨_, hide rfl⟩
  rw [HE.out, HR.out]
  go_enter Try.func26, Try.ntmps26
  have hm1 : l.length ≤ 3000 := hl
  go_wp2_with fail
  go_loopg [4, 14] l.length (fun gh o v w' => ∃ (k t : Nat), k ≤ l.length ∧ gh = l.length - k ∧ o = .int .i64 (t : Int) ∧ v = .int .i64 (k : Int) ∧ Hid ((l.take k).all okRn = true) ∧ Hid (t = (symsR (l.take k)).length) ∧ t ≤ k * 3000 ∧ Below w.heap.size w w')
  case atStart => exact ⟨0, 0, by omega, by omega, rfl, rfl, hide rfl, hide rfl, by omega, Below.refl _ _⟩
  case round =>
    obtain ⟨k, t, hk, hg, rfl, rfl, HOK, HT, htk, hb⟩ := hrel
    have HG := hide hg
    clear hg
    by_cases hkl : k < l.length
    · obtain ⟨x, hx⟩ : ∃ x, l[k]? = some x := ⟨_, List.getElem?_eq_getElem hkl⟩
      have HX := hide hx
      obtain ⟨b1, o1, hab, _, e0, e1⟩ := two_cells rnc_len (hs.below hb) hx
      have hxz := HZ.out x (List.mem_of_getElem? hx)
      subst hab
      have HC1 : Hid (∀ (j : Nat) (u : Value), ([.int .i64 x.lang, .string x.text] : List Value)[j]? = some u → wr.cell? ⟨b1, o1 + k * 2 + j, none⟩ = some u) := hide (by
        intro j u hj
        rcases j with _ | _ | j
        · cases hj; exact e0
        · cases hj; exact e1
        · cases hj)
      have hbx := Box.new wr 100 #[.int .i64 x.lang, .string x.text]
      have hal := blo wr (.cells #[.int .i64 x.lang, .string x.text] 100)
      have d0 : decide (k < l.length) = true := decide_eq_true hkl
      have d0' : decide ((k : Int) < (l.length : Int)) = true := decide_eq_true (by omega)
      clear hx e0 e1
      go_upto_region 5 with (with_reducible refine load_struct 17 100 _ 2 size_run _ Try.underlying100 ⟨b1, o1 + k * 2, none⟩ rfl [.int .i64 x.lang, .string x.text] rfl (fun j u hj => by rw [Addr.add_lit]; exact HC1.out j u hj) ?_)
      generalize wr.alloc (.cells _ 100) = w1 at *
      obtain ⟨gx, hgx⟩ : ∃ g, g = wr.heap.size := ⟨_, rfl⟩
      rw [← hgx] at hbx ⊢
      clear hgx HC1
      have hbw1 := hb.trans (hal.mono hb.size)
      have KX0 : Hid (w1.cell? ⟨gx, 0, none⟩ = some (.int .i64 x.lang)) := hide (hbx.at_ rfl)
      have KX1 : Hid (w1.cell? ⟨gx, 1, none⟩ = some (.string x.text)) := hide (hbx.at_ rfl)
      have hbxK := hbx
      have hbalx := hal
      clear hbx hal

      have k0 : w1.cell? ⟨gx, 0, none⟩ = some (.int .i64 x.lang) := KX0.out
      by_cases hbad : x.lang ≠ 0 ∧ x.lang ≠ 1
      · have d1 : (x.lang != 0) = true := by simpa using hbad.1
        have d2 : (x.lang != 1) = true := by simpa using hbad.2
        have HB : Hid (E = 1 ∧ R = []) := hide (by
          have := sym_bad HX.out (okRn_lang hbad.1 hbad.2)
          rw [HE.out, HR.out] at this
          exact this)

        clear hbad
        go_wp2_with fail
        go_ret2
        rw [HB.out.1, HB.out.2]
        exact ⟨none, 0, rfl, Sl.empty _ _, hbw1⟩
      · have hxl : x.lang = 0 ∨ x.lang = 1 := by omega
        have HXL := hide hxl
        have k1 : w1.cell? ⟨gx, 1, none⟩ = some (.string x.text) := KX1.out
        have HGO : Hid (((x.lang != 0) && (x.lang != 1)) = false) := hide (by rcases hxl with h | h <;> simp [h])
        go_cut [25] from 18 to 25 (fun v w' => v = .bool false ∧ w1 = w')
        case first =>
          rcases hxl with h | h
          · have d1 : (x.lang != 0) = false := by simp [h]
            clear h hbad HXL HGO
            go_wp2_with fail
            go_meet
            exact ⟨rfl, rfl⟩
          · have d1 : (x.lang != 0) = true := by simp [h]
            have d2 : (x.lang != 1) = false := by simp [h]
            clear h hbad HXL HGO
            go_wp2_with fail
            go_meet
            exact ⟨rfl, rfl⟩
        case rest =>
          obtain ⟨rfl, rfl⟩ := hcut
          clear hbad hxl k0 HGO
          go_wp2_with fail
          go_loopg [29] x.text.size (fun gh v w' => ∃ (j : Nat), j ≤ x.text.size ∧ gh = x.text.size - j ∧ v = .int .i64 (j : Int) ∧ Hid (((chars x.text).take j).all isW = true) ∧ w1 = w')
          case atStart => exact ⟨0, by omega, by omega, rfl, hide rfl, rfl⟩
          case round =>
            obtain ⟨j, hj, hgj, rfl, HW, rfl⟩ := hrel
            have HGJ := hide hgj
            clear hgj
            by_cases hjl : j < x.text.size
            · obtain ⟨ch, hch⟩ : ∃ ch, (chars x.text)[j]? = some ch := ⟨_, List.getElem?_eq_getElem (by rw [← size_chars]; exact hjl)⟩
              have HCH := hide hch
              have e0 : decide (j < x.text.size) = true := decide_eq_true hjl
              have e0' : decide ((j : Int) < (x.text.size : Int)) = true := decide_eq_true (by omega)
              have hWR := fun w' => tab_written ch w'
              cases hw : isW ch
              · have HWC := hide hw
                rw [hw] at hWR
                have HB : Hid (E = 1 ∧ R = []) := hide (by
                  have := sym_bad HX.out (okRn_char HCH.out HWC.out)
                  rw [HE.out, HR.out] at this
                  exact this)

                clear hw hch
                go_wp2_with (first
                  | (with_reducible refine idx_str 35 9 Try.underlying9 _ _ x.text j ch rfl rfl HCH.out ?_)
                  | (go_at_call 57; refine (hWR _).mono ?_; rintro e w2 ⟨rfl, rfl⟩))
                go_ret2
                rw [HB.out.1, HB.out.2]
                exact ⟨none, 0, rfl, Sl.empty _ _, hbw1⟩
              · have HN : Hid (((chars x.text).take (j + 1)).all isW = true) := hide (by rw [take_succ_get hch, List.all_append, HW.out]; simp [hw])
                rw [hw] at hWR
                clear hw hch
                go_wp2_with (first
                  | (with_reducible refine idx_str 35 9 Try.underlying9 _ _ x.text j ch rfl rfl HCH.out ?_)
                  | (go_at_call 57; refine (hWR _).mono ?_; rintro e w2 ⟨rfl, rfl⟩))
                go_roundg (x.text.size - (j + 1))
                case measure => have := HGJ.out; omega
                case rel => exact ⟨j + 1, by omega, rfl, by go_num, HN, rfl⟩
            · obtain rfl : j = x.text.size := by omega
              have HOK2 : Hid ((l.take (k + 1)).all okRn = true) := hide (by
                rw [take_succ_get HX.out, List.all_append, HOK.out]
                have hw := HW.out
                rw [List.take_of_length_le (by rw [← size_chars]; exact Nat.le_refl _)] at hw
                simp only [List.all_cons, List.all_nil, Bool.and_true, Bool.true_and]
                unfold okRn
                rw [hw]
                rcases HXL.out with h | h <;> simp [h])
              have HT2 : Hid (t + x.text.size = (symsR (l.take (k + 1))).length) := hide (by
                rw [take_succ_get HX.out, HT.out]
                unfold symsR
                rw [List.flatMap_append, List.length_append, List.flatMap_singleton]
                unfold charsR
                rw [List.length_map, size_chars])
              have htk2 : t + x.text.size ≤ (k + 1) * 3000 := by omega
              have htw : t + x.text.size ≤ 100000000 := by omega
              go_wp2_with fail
              go_roundg (l.length - (k + 1))
              case measure => have := HG.out; omega
              case rel => exact ⟨k + 1, t + x.text.size, by omega, rfl, by go_num, by go_num, HOK2, HT2, htk2, hbw1⟩
    · obtain rfl : k = l.length := by omega
      have d0 : decide (l.length < l.length) = false := decide_eq_false (by omega)
      have d0' : decide ((l.length : Int) < (l.length : Int)) = false := decide_eq_false (by omega)
      have htl : t = (symsR l).length := by rw [HT.out, List.take_length]
      have hokl : l.all okRn = true := by have := HOK.out; rwa [List.take_length] at this
      by_cases hbig : 2048 < t
      · have d1 : decide (2048 < t) = true := decide_eq_true hbig
        have d1' : decide (2048 < (t : Int)) = true := decide_eq_true (by omega)
        have HB : Hid (E = 4 ∧ R = []) := hide (by
          have := sym_big hokl (by rw [← htl]; exact hbig)
          rw [HE.out, HR.out] at this
          exact this)
        clear htl hokl
        go_wp2_with fail
        go_ret2
        rw [HB.out.1, HB.out.2]
        exact ⟨none, 0, rfl, Sl.empty _ _, hb⟩
      · have d1 : decide (2048 < t) = false := decide_eq_false hbig
        have d1' : decide (2048 < (t : Int)) = false := decide_eq_false (by omega)
        have HB : Hid (E = 0 ∧ R = symsR l) := hide (by
          have := sym_fine hokl (by rw [← htl]; omega)
          rw [HE.out, HR.out] at this
          exact this)
        obtain ⟨wo, rfl⟩ : ∃ wo : World, wo = wr := ⟨_, rfl⟩
        have hRl : R.length ≤ 2048 := by rw [HB.out.2, ← htl]; omega
        clear htl hokl HOK HT
        go_wp2_with fail
        go_loopg [8, 49] l.length (fun gh o v w' => ∃ (k : Nat) (O : List Sy) (ao : Option Addr) (co : Nat), k ≤ l.length ∧ gh = l.length - k ∧ o = .slice ao O.length co ∧ v = .int .i64 (k : Int) ∧ Hid (O = symsR (l.take k)) ∧ Own w' wo.heap.size 55 2 ao O.length co (O.flatMap sc) ∧ Below wo.heap.size wo w')
        case atStart => exact ⟨0, [], none, 0, by omega, by omega, rfl, rfl, hide rfl, Own.nil _ _ _ _, Below.refl _ _⟩
        case round =>
          obtain ⟨k, O, ao, co, hk, hg, rfl, rfl, HO, hO, hbo⟩ := hrel
          have HG2 := hide hg
          clear hg
          by_cases hkl : k < l.length
          · have hbr := hb.trans (hbo.mono hb.size)
            have hOl0 : O.length ≤ 2048 := by rw [HO.out]; exact Nat.le_trans (symsR_take l k) (by rw [← HB.out.2]; exact hRl)
            obtain ⟨x, hx⟩ : ∃ x, l[k]? = some x := ⟨_, List.getElem?_eq_getElem hkl⟩
            have HX := hide hx
            obtain ⟨b1, o1, hab, _, e0, e1⟩ := two_cells rnc_len (hs.below hbr) hx
            have hxz := HZ.out x (List.mem_of_getElem? hx)
            subst hab
            have HC1 : Hid (∀ (j : Nat) (u : Value), ([.int .i64 x.lang, .string x.text] : List Value)[j]? = some u → wr.cell? ⟨b1, o1 + k * 2 + j, none⟩ = some u) := hide (by
              intro j u hj
              rcases j with _ | _ | j
              · cases hj; exact e0
              · cases hj; exact e1
              · cases hj)
            have hbx := Box.new wr 100 #[.int .i64 x.lang, .string x.text]
            have hal := blo wr (.cells #[.int .i64 x.lang, .string x.text] 100)
            have d0 : decide (k < l.length) = true := decide_eq_true hkl
            have d0' : decide ((k : Int) < (l.length : Int)) = true := decide_eq_true (by omega)
            clear hx e0 e1
            go_upto_region 21 with (with_reducible refine load_struct 52 100 _ 2 size_run _ Try.underlying100 ⟨b1, o1 + k * 2, none⟩ rfl [.int .i64 x.lang, .string x.text] rfl (fun j u hj => by rw [Addr.add_lit]; exact HC1.out j u hj) ?_)
            generalize wr.alloc (.cells _ 100) = w2 at *
            obtain ⟨gx, hgx⟩ : ∃ g, g = wr.heap.size := ⟨_, rfl⟩
            rw [← hgx] at hbx ⊢
            clear hgx HC1
            have hbw2 := hbr.trans (hal.mono hbr.size)
            have KX0 : Hid (w2.cell? ⟨gx, 0, none⟩ = some (.int .i64 x.lang)) := hide (hbx.at_ rfl)
            have KX1 : Hid (w2.cell? ⟨gx, 1, none⟩ = some (.string x.text)) := hide (hbx.at_ rfl)
            have hbxK := hbx
            have hbalx := hal
            clear hbx hal

            have hO2 := hO.below hbalx
            have hbo2 := hbo.trans (hbalx.mono hbo.size)
            have k1 : w2.cell? ⟨gx, 1, none⟩ = some (.string x.text) := KX1.out
            clear hO
            go_wp2_with fail
            go_loopg [8, 56] x.text.size (fun gh o v w' => ∃ (j : Nat) (Oi : List Sy) (aj : Option Addr) (cj : Nat), j ≤ x.text.size ∧ gh = x.text.size - j ∧ o = .slice aj Oi.length cj ∧ v = .int .i64 (j : Int) ∧ Hid (Oi = symsR (l.take k) ++ ((chars x.text).take j).map fun c => (⟨x.lang, c⟩ : Sy)) ∧ Own w' wo.heap.size 55 2 aj Oi.length cj (Oi.flatMap sc) ∧ Below wo.heap.size wo w' ∧ Box w' gx 100 [.int .i64 x.lang, .string x.text])
            case atStart => exact ⟨0, O, ao, co, by omega, by omega, rfl, rfl, hide (by rw [HO.out]; simp), hO2, hbo2, hbxK⟩
            case round =>
              clear hO2 hbo2 hbxK k1 KX0 KX1
              obtain ⟨j, Oi, aj, cj, hj, hgj, rfl, rfl, HOI, hO, hbj, hbx⟩ := hrel
              have HGJ := hide hgj
              have hOil : Oi.length ≤ 10000 := by
                rw [HOI.out, List.length_append, List.length_map, List.length_take, ← HO.out]
                have := size_chars x.text
                omega
              clear hgj
              have KX0 : Hid (wr.cell? ⟨gx, 0, none⟩ = some (.int .i64 x.lang)) := hide (hbx.at_ rfl)
              have KX1 : Hid (wr.cell? ⟨gx, 1, none⟩ = some (.string x.text)) := hide (hbx.at_ rfl)
              by_cases hjl : j < x.text.size
              · obtain ⟨ch, hch⟩ : ∃ ch, (chars x.text)[j]? = some ch := ⟨_, List.getElem?_eq_getElem (by rw [← size_chars]; exact hjl)⟩
                have HCH := hide hch
                have e0 : decide (j < x.text.size) = true := decide_eq_true hjl
                have e0' : decide ((j : Int) < (x.text.size : Int)) = true := decide_eq_true (by omega)
                clear hch
                go_wp2_with fail
                refine wp_region_free 9 [⟨0, 59, [59], fun vs _ => vs = [.slice aj Oi.length cj]⟩, ⟨1, 60, [60], fun vs _ => vs = [.pointer (some ⟨gx, 0, none⟩)]⟩, ⟨2, 61, [61], fun vs _ => vs = [.int .i64 x.lang]⟩, ⟨3, 62, [62], fun vs _ => vs = [.pointer (some ⟨gx, 1, none⟩)]⟩, ⟨4, 63, [63], fun vs _ => vs = [.string x.text]⟩, ⟨5, 64, [64], fun vs _ => vs = [.int .i64 (j : Int)]⟩, ⟨6, 65, [65], fun vs _ => vs = [.int .u8 (ch.toNat : Int)]⟩, ⟨7, 66, [66], fun vs _ => vs = [.agg #[.int .i64 x.lang, .int .u8 (ch.toNat : Int)]]⟩, ⟨8, 67, [67], fun vs w' => ∃ b, vs = [.slice (some ⟨b, 0, none⟩) 1 1] ∧ Sl w' 2 (some ⟨b, 0, none⟩) 1 1 [.int .i64 x.lang, .int .u8 (ch.toNat : Int)]⟩] (by kernel_rfl) (by kernel_rfl) ?_ ?_ ?_
                · simp only [All]
                  refine ⟨fun _ _ _ _ h => h, fun _ _ _ _ h => h, fun _ _ _ _ h => h, fun _ _ _ _ h => h, fun _ _ _ _ h => h, fun _ _ _ _ h => h, fun _ _ _ _ h => h, fun _ _ _ _ h => h, ?_, trivial⟩
                  · rintro vs w w' hb ⟨b, h1, h2⟩
                    exact ⟨b, h1, h2.below hb⟩
                · simp only [All]
                  refine ⟨?_, ?_, ?_, ?_, ?_, ?_, ?_, ?_, ?_, trivial⟩
                  · intro o ho a' w' hb hfr hdep
                    obtain rfl := Option.some.inj ho
                    have g8 : a'.tmps[8]?.getD undef = .slice aj Oi.length cj := by have h := hfr 8 (by kernel_rfl); simpa using h
                    clear ho hfr hdep
                    go_wp2_with fail
                    exact ⟨rfl, _, rfl, Below.refl _ _, rfl⟩
                  · intro o ho a' w' hb hfr hdep
                    obtain rfl := Option.some.inj ho
                    have g10 : a'.tmps[10]?.getD undef = .pointer (some ⟨gx, 0, none⟩) := by have h := hfr 10 (by kernel_rfl); simpa using h
                    clear ho hfr hdep
                    go_wp2_with fail
                    exact ⟨rfl, _, rfl, Below.refl _ _, rfl⟩
                  · intro o ho a' w' hb hfr hdep
                    obtain rfl := Option.some.inj ho
                    have g60 : a'.tmps[60]?.getD undef = .pointer (some ⟨gx, 0, none⟩) := by have h := hdep 1 _ rfl (by kernel_rfl); simpa using h
                    clear ho hfr hdep
                    have hcl := cell_below KX0.out hb
                    go_wp2_with fail
                    exact ⟨rfl, _, rfl, Below.refl _ _, rfl⟩
                  · intro o ho a' w' hb hfr hdep
                    obtain rfl := Option.some.inj ho
                    have g10 : a'.tmps[10]?.getD undef = .pointer (some ⟨gx, 0, none⟩) := by have h := hfr 10 (by kernel_rfl); simpa using h
                    clear ho hfr hdep
                    go_wp2_with fail
                    exact ⟨rfl, _, rfl, Below.refl _ _, rfl⟩
                  · intro o ho a' w' hb hfr hdep
                    obtain rfl := Option.some.inj ho
                    have g62 : a'.tmps[62]?.getD undef = .pointer (some ⟨gx, 1, none⟩) := by have h := hdep 3 _ rfl (by kernel_rfl); simpa using h
                    clear ho hfr hdep
                    have hcl := cell_below KX1.out hb
                    go_wp2_with fail
                    exact ⟨rfl, _, rfl, Below.refl _ _, rfl⟩
                  · intro o ho a' w' hb hfr hdep
                    obtain rfl := Option.some.inj ho
                    have g11 : a'.tmps[11]?.getD undef = .int .i64 (j : Int) := by have h := hfr 11 (by kernel_rfl); simpa using h
                    clear ho hfr hdep
                    go_wp2_with fail
                    exact ⟨rfl, _, rfl, Below.refl _ _, rfl⟩
                  · intro o ho a' w' hb hfr hdep
                    obtain rfl := Option.some.inj ho
                    have g63 : a'.tmps[63]?.getD undef = .string x.text := by have h := hdep 4 _ rfl (by kernel_rfl); simpa using h
                    have g64 : a'.tmps[64]?.getD undef = .int .i64 (j : Int) := by have h := hdep 5 _ rfl (by kernel_rfl); simpa using h
                    clear ho hfr hdep
                    refine idx_str 65 9 Try.underlying9 _ _ x.text j ch (by show a'.tmps.getD 63 undef = _; simpa using g63) (by show a'.tmps.getD 64 undef = _; simpa using g64) HCH.out ?_
                    go_wp2_with fail
                    exact ⟨rfl, _, rfl, Below.refl _ _, rfl⟩
                  · intro o ho a' w' hb hfr hdep
                    obtain rfl := Option.some.inj ho
                    have g61 : a'.tmps[61]?.getD undef = .int .i64 x.lang := by have h := hdep 2 _ rfl (by kernel_rfl); simpa using h
                    have g65 : a'.tmps[65]?.getD undef = .int .u8 (ch.toNat : Int) := by have h := hdep 6 _ rfl (by kernel_rfl); simpa using h
                    clear ho hfr hdep
                    go_wp2_with fail
                    exact ⟨rfl, _, rfl, Below.refl _ _, rfl⟩
                  · intro o ho a' w' hb hfr hdep
                    obtain rfl := Option.some.inj ho
                    have g66 : a'.tmps[66]?.getD undef = .agg #[.int .i64 x.lang, .int .u8 (ch.toNat : Int)] := by have h := hdep 7 _ rfl (by kernel_rfl); simpa using h
                    clear ho hfr hdep
                    go_wp2_with fail
                    exact ⟨rfl, _, rfl, blo _ _, _, rfl, Sl.fresh _ _ 2 1 [.int .i64 x.lang, .int .u8 (ch.toNat : Int)] rfl (by decide)⟩
                · intro gg w3 hb3 hp3
                  have p59 := hp3 0 _ rfl
                  obtain ⟨b9, p67, hs9⟩ := hp3 8 _ rfl
                  clear hp3
                  simp at p59 p67
                  simp only [List.drop_succ_cons, List.drop_zero, List.map_cons, List.map_nil, putAll, Act.put, List.setIfInBounds_toArray, List.set_cons_succ, List.set_cons_zero, List.cons_append, List.nil_append, p59, p67]
                  clear p59 p67
                  have hbz := hbj.trans (hb3.mono hbj.size)
                  have ho3 := hO.below hb3
                  have hz3 := hbz.size
                  go_wp2_with (at_builtin; refine app_sys2 rfl _ _ rfl wo wo.heap.size aj Oi.length cj _ rfl ho3 (some ⟨b9, 0, none⟩) 1 1 [.int .i64 x.lang, .int .u8 (ch.toNat : Int)] (by simp [Value.oneCell']) rfl hs9 (by omega) hz3 hbz ?_; intro a7 c7 w7 ho7 hg7 hb7)
                  have hx7 := (hbx.under hb3).grown hg7 (box_map (hbx.under hb3) ho3 (by decide))
                  go_roundg (x.text.size - (j + 1))
                  case measure => have := HGJ.out; omega
                  case rel => exact ⟨j + 1, Oi ++ [⟨x.lang, ch⟩], a7, c7, by omega, rfl, by rw [List.length_append]; rfl, by go_num, hide (by rw [HOI.out, chars_step HCH.out, List.append_assoc]), by rw [List.length_append, List.flatMap_append, List.flatMap_singleton]; exact ho7, hb7, hx7⟩
              · obtain rfl : j = x.text.size := by omega
                have HO3 : Hid (Oi = symsR (l.take (k + 1))) := hide (by
                  rw [HOI.out, take_succ_get HX.out, List.take_of_length_le (l := chars x.text) (by rw [← size_chars]; exact Nat.le_refl _)]
                  unfold symsR
                  rw [List.flatMap_append, List.flatMap_singleton]
                  rfl)
                go_wp2_with fail
                go_roundg (l.length - (k + 1))
                case measure => have := HG2.out; omega
                case rel => exact ⟨k + 1, Oi, aj, cj, by omega, rfl, rfl, by go_num, HO3, hO, hbj⟩
          · obtain rfl : k = l.length := by omega
            have HOR : Hid (O = R) := hide (by rw [HO.out, HB.out.2, List.take_length])
            have hbz := hb.trans (hbo.mono hb.size)
            go_wp2_with fail
            go_ret2
            rw [HB.out.1, ← HOR.out]
            exact ⟨ao, co, rfl, hO.sl, hbz⟩
end Go.Proofs.Ytkjcbneanaeleaa
end

/- the text B46 -/
section
/- Chapter 06: the reference's Symbols. -/
namespace Go.Proofs.Ytkjcbneanaeleaa
open Go.RowKit Go.Dx
set_option maxRecDepth 100000 in
set_option maxHeartbeats 4000000 in
theorem ref_Symbols (l : List Rn) (a : Option Addr) (n c : Nat) (w : World) (hs : Sl w 2 a n c (l.flatMap rnc)) (hl : l.length ≤ 3000) (hz : ∀ r ∈ l, r.text.size ≤ 3000) (htt : (symsR l).length ≤ 100000) :
    Calls Try.prog 27 #[.slice a n c] w fun e w' => ∃ (a' : Option Addr) (c' : Nat), e = .returned (.tuple #[.slice a' (symL l).length c', .int .i64 (symE l)]) ∧ Sl w' 2 a' (symL l).length c' ((symL l).flatMap sc) ∧ Below w.heap.size w w' := by
  obtain rfl := hs.nf rnc_len (by decide)
  have HZ := hide hz
  have HTT := hide htt
  clear hz htt
  obtain ⟨E, HE⟩ : ∃ E, Hid (symE l = E) := ⟨_, hide rfl⟩
  obtain ⟨R, HR⟩ : ∃ R, Hid (symL l = R) := ⟨_, hide rfl⟩
  rw [HE.out, HR.out]
  go_enter Try.func27, Try.ntmps27
  have hm1 : l.length ≤ 3000 := hl
  go_wp2_with fail
  go_loopg [4, 5] l.length (fun gh o v w' => ∃ (k : Nat) (O : List Sy) (ao : Option Addr) (co : Nat), k ≤ l.length ∧ gh = l.length - k ∧ o = .slice ao O.length co ∧ v = .int .i64 (k : Int) ∧ Hid ((l.take k).all okRn = true) ∧ Hid (O = symsR (l.take k)) ∧ Own w' w.heap.size 55 2 ao O.length co (O.flatMap sc) ∧ Below w.heap.size w w')
  case atStart => exact ⟨0, [], none, 0, by omega, by omega, rfl, rfl, hide rfl, hide rfl, Own.nil _ _ _ _, Below.refl _ _⟩
  case round =>
    obtain ⟨k, O, ao, co, hk, hg, rfl, rfl, HOK, HO, hO0, hb⟩ := hrel
    have HG := hide hg
    clear hg
    by_cases hkl : k < l.length
    · obtain ⟨x, hx⟩ : ∃ x, l[k]? = some x := ⟨_, List.getElem?_eq_getElem hkl⟩
      have HX := hide hx
      obtain ⟨b1, o1, hab, _, e0, e1⟩ := two_cells rnc_len (hs.below hb) hx
      have hxz := HZ.out x (List.mem_of_getElem? hx)
      subst hab
      have KL : Hid (wr.cell? ⟨b1, o1 + k * 2, none⟩ = some (.int .i64 x.lang)) := hide e0
      have KT : Hid (wr.cell? ⟨b1, o1 + k * 2 + 1, none⟩ = some (.string x.text)) := hide e1
      have d0 : decide (k < l.length) = true := decide_eq_true hkl
      have d0' : decide ((k : Int) < (l.length : Int)) = true := decide_eq_true (by omega)
      have k0 : wr.cell? ⟨b1, o1 + k * 2, none⟩ = some (.int .i64 x.lang) := e0
      clear hx e0 e1
      by_cases h0 : x.lang < 0
      · have d1 : decide (x.lang < 0) = true := decide_eq_true h0
        have HB : Hid (E = 1 ∧ R = []) := hide (by
          have := sym_bad HX.out (okRn_lang (by omega) (by omega))
          rw [HE.out, HR.out] at this
          exact this)

        clear h0
        go_wp2_with fail
        go_ret2
        rw [HB.out.1, HB.out.2]
        exact ⟨none, 0, rfl, Sl.empty _ _, hb⟩
      have d1 : decide (x.lang < 0) = false := decide_eq_false h0
      by_cases h1 : 1 < x.lang
      · have d2 : decide (1 < x.lang) = true := decide_eq_true h1
        have HB : Hid (E = 1 ∧ R = []) := hide (by
          have := sym_bad HX.out (okRn_lang (by omega) (by omega))
          rw [HE.out, HR.out] at this
          exact this)

        clear h0 h1
        go_wp2_with fail
        go_ret2
        rw [HB.out.1, HB.out.2]
        exact ⟨none, 0, rfl, Sl.empty _ _, hb⟩
      have d2 : decide (1 < x.lang) = false := decide_eq_false h1
      have hxl : x.lang = 0 ∨ x.lang = 1 := by omega
      have HXL := hide hxl
      have k1 : wr.cell? ⟨b1, o1 + k * 2 + 1, none⟩ = some (.string x.text) := KT.out
      clear h0 h1 hxl
      obtain ⟨wo, rfl⟩ : ∃ wo : World, wo = wr := ⟨_, rfl⟩
      go_wp2_with fail
      clear k0 k1 d1 d2
      go_loopg [4, 6] x.text.size (fun gh o v w' => ∃ (j : Nat) (Oi : List Sy) (aj : Option Addr) (cj : Nat), j ≤ x.text.size ∧ gh = x.text.size - j ∧ o = .slice aj Oi.length cj ∧ v = .int .i64 (j : Int) ∧ Hid (((chars x.text).take j).all isW = true) ∧ Hid (Oi = symsR (l.take k) ++ ((chars x.text).take j).map fun c => (⟨x.lang, c⟩ : Sy)) ∧ Own w' w.heap.size 55 2 aj Oi.length cj (Oi.flatMap sc) ∧ Below w.heap.size w w')
      case atStart => exact ⟨0, O, ao, co, by omega, by omega, rfl, rfl, hide rfl, hide (by rw [HO.out]; simp), hO0, hb⟩
      case round =>
        clear hO0
        obtain ⟨j, Oi, aj, cj, hj, hgj, rfl, rfl, HW, HOI, hO, hbj⟩ := hrel
        have HGJ := hide hgj
        have hOil : Oi.length ≤ 100000 := by
          have h1 : Oi.length ≤ (symsR l).length := by
            have h2 := symsR_take l (k + 1)
            rw [take_succ_get HX.out] at h2
            unfold symsR at h2
            rw [List.flatMap_append, List.flatMap_singleton, List.length_append] at h2
            rw [HOI.out, List.length_append, List.length_map, List.length_take]
            have h3 : (charsR x).length = (chars x.text).length := by unfold charsR; rw [List.length_map]
            unfold symsR
            omega
          have := HTT.out
          omega
        clear hgj
        obtain ⟨b2, o2, hab2, _, e0, e1⟩ := two_cells rnc_len (hs.below hbj) HX.out
        cases hab2
        have KX0 : Hid (wr.cell? ⟨b1, o1 + k * 2, none⟩ = some (.int .i64 x.lang)) := hide e0
        have KX1 : Hid (wr.cell? ⟨b1, o1 + k * 2 + 1, none⟩ = some (.string x.text)) := hide e1
        have k1 : wr.cell? ⟨b1, o1 + k * 2 + 1, none⟩ = some (.string x.text) := e1
        clear e0 e1
        by_cases hjl : j < x.text.size
        · obtain ⟨ch, hch⟩ : ∃ ch, (chars x.text)[j]? = some ch := ⟨_, List.getElem?_eq_getElem (by rw [← size_chars]; exact hjl)⟩
          have HCH := hide hch
          have e0 : decide (j < x.text.size) = true := decide_eq_true hjl
          have e0' : decide ((j : Int) < (x.text.size : Int)) = true := decide_eq_true (by omega)
          have hWR := fun w' => ref_Written ch w'
          cases hw : isW ch
          · have HWC := hide hw
            rw [hw] at hWR
            have HB : Hid (E = 1 ∧ R = []) := hide (by
              have := sym_bad HX.out (okRn_char HCH.out HWC.out)
              rw [HE.out, HR.out] at this
              exact this)

            clear hw hch
            go_wp2_with (first
              | (with_reducible refine idx_str 43 9 Try.underlying9 _ _ x.text j ch rfl rfl HCH.out ?_)
              | (go_at_call 58; refine (hWR _).mono ?_; rintro e w2 ⟨rfl, rfl⟩))
            go_ret2
            rw [HB.out.1, HB.out.2]
            exact ⟨none, 0, rfl, Sl.empty _ _, hbj⟩
          · have HW2 : Hid (((chars x.text).take (j + 1)).all isW = true) := hide (by rw [take_succ_get hch, List.all_append, HW.out]; simp [hw])
            rw [hw] at hWR
            clear hw hch
            go_wp2_with (first
              | (with_reducible refine idx_str 43 9 Try.underlying9 _ _ x.text j ch rfl rfl HCH.out ?_)
              | (go_at_call 58; refine (hWR _).mono ?_; rintro e w2 ⟨rfl, rfl⟩))
            refine wp_region_free 15 [⟨0, 46, [46], fun vs _ => vs = [.slice aj Oi.length cj]⟩, ⟨1, 47, [47], fun vs _ => vs = [.slice (some ⟨b1, o1, none⟩) l.length c]⟩, ⟨2, 48, [48], fun vs _ => vs = [.int .i64 (k : Int)]⟩, ⟨3, 49, [49], fun vs _ => vs = [.pointer (some ⟨b1, o1 + k * 2, none⟩)]⟩, ⟨4, 50, [50], fun vs _ => vs = [.pointer (some ⟨b1, o1 + k * 2, none⟩)]⟩, ⟨5, 51, [51], fun vs _ => vs = [.int .i64 x.lang]⟩, ⟨6, 52, [52], fun vs _ => vs = [.slice (some ⟨b1, o1, none⟩) l.length c]⟩, ⟨7, 53, [53], fun vs _ => vs = [.int .i64 (k : Int)]⟩, ⟨8, 54, [54], fun vs _ => vs = [.pointer (some ⟨b1, o1 + k * 2, none⟩)]⟩, ⟨9, 55, [55], fun vs _ => vs = [.pointer (some ⟨b1, o1 + k * 2 + 1, none⟩)]⟩, ⟨10, 56, [56], fun vs _ => vs = [.string x.text]⟩, ⟨11, 57, [57], fun vs _ => vs = [.int .i64 (j : Int)]⟩, ⟨12, 58, [58], fun vs _ => vs = [.int .u8 (ch.toNat : Int)]⟩, ⟨13, 59, [59], fun vs _ => vs = [.agg #[.int .i64 x.lang, .int .u8 (ch.toNat : Int)]]⟩, ⟨14, 60, [60], fun vs w' => ∃ b, vs = [.slice (some ⟨b, 0, none⟩) 1 1] ∧ Sl w' 2 (some ⟨b, 0, none⟩) 1 1 [.int .i64 x.lang, .int .u8 (ch.toNat : Int)]⟩] (by kernel_rfl) (by kernel_rfl) ?_ ?_ ?_
            · simp only [All]
              refine ⟨fun _ _ _ _ h => h, fun _ _ _ _ h => h, fun _ _ _ _ h => h, fun _ _ _ _ h => h, fun _ _ _ _ h => h, fun _ _ _ _ h => h, fun _ _ _ _ h => h, fun _ _ _ _ h => h, fun _ _ _ _ h => h, fun _ _ _ _ h => h, fun _ _ _ _ h => h, fun _ _ _ _ h => h, fun _ _ _ _ h => h, fun _ _ _ _ h => h, ?_, trivial⟩
              · rintro vs w w' hb ⟨b, h1, h2⟩
                exact ⟨b, h1, h2.below hb⟩
            · simp only [All]
              refine ⟨?_, ?_, ?_, ?_, ?_, ?_, ?_, ?_, ?_, ?_, ?_, ?_, ?_, ?_, ?_, trivial⟩
              · intro o ho a' w' hb hfr hdep
                obtain rfl := Option.some.inj ho
                have g4 : a'.tmps[4]?.getD undef = .slice aj Oi.length cj := by have h := hfr 4 (by kernel_rfl); simpa using h
                clear ho hfr hdep
                go_wp2_with fail
                exact ⟨rfl, _, rfl, Below.refl _ _, rfl⟩
              · intro o ho a' w' hb hfr hdep
                obtain rfl := Option.some.inj ho
                have g0 : a'.tmps[0]?.getD undef = .slice (some ⟨b1, o1, none⟩) l.length c := by have h := hfr 0 (by kernel_rfl); simpa using h
                clear ho hfr hdep
                go_wp2_with fail
                exact ⟨rfl, _, rfl, Below.refl _ _, rfl⟩
              · intro o ho a' w' hb hfr hdep
                obtain rfl := Option.some.inj ho
                have g5 : a'.tmps[5]?.getD undef = .int .i64 (k : Int) := by have h := hfr 5 (by kernel_rfl); simpa using h
                clear ho hfr hdep
                go_wp2_with fail
                exact ⟨rfl, _, rfl, Below.refl _ _, rfl⟩
              · intro o ho a' w' hb hfr hdep
                obtain rfl := Option.some.inj ho
                have g47 : a'.tmps[47]?.getD undef = .slice (some ⟨b1, o1, none⟩) l.length c := by have h := hdep 1 _ rfl (by kernel_rfl); simpa using h
                have g48 : a'.tmps[48]?.getD undef = .int .i64 (k : Int) := by have h := hdep 2 _ rfl (by kernel_rfl); simpa using h
                clear ho hfr hdep
                go_wp2_with fail
                exact ⟨rfl, _, rfl, Below.refl _ _, rfl⟩
              · intro o ho a' w' hb hfr hdep
                obtain rfl := Option.some.inj ho
                have g49 : a'.tmps[49]?.getD undef = .pointer (some ⟨b1, o1 + k * 2, none⟩) := by have h := hdep 3 _ rfl (by kernel_rfl); simpa using h
                clear ho hfr hdep
                go_wp2_with fail
                exact ⟨rfl, _, rfl, Below.refl _ _, rfl⟩
              · intro o ho a' w' hb hfr hdep
                obtain rfl := Option.some.inj ho
                have g50 : a'.tmps[50]?.getD undef = .pointer (some ⟨b1, o1 + k * 2, none⟩) := by have h := hdep 4 _ rfl (by kernel_rfl); simpa using h
                clear ho hfr hdep
                have hcl := cell_below KX0.out hb
                go_wp2_with fail
                exact ⟨rfl, _, rfl, Below.refl _ _, rfl⟩
              · intro o ho a' w' hb hfr hdep
                obtain rfl := Option.some.inj ho
                have g0 : a'.tmps[0]?.getD undef = .slice (some ⟨b1, o1, none⟩) l.length c := by have h := hfr 0 (by kernel_rfl); simpa using h
                clear ho hfr hdep
                go_wp2_with fail
                exact ⟨rfl, _, rfl, Below.refl _ _, rfl⟩
              · intro o ho a' w' hb hfr hdep
                obtain rfl := Option.some.inj ho
                have g5 : a'.tmps[5]?.getD undef = .int .i64 (k : Int) := by have h := hfr 5 (by kernel_rfl); simpa using h
                clear ho hfr hdep
                go_wp2_with fail
                exact ⟨rfl, _, rfl, Below.refl _ _, rfl⟩
              · intro o ho a' w' hb hfr hdep
                obtain rfl := Option.some.inj ho
                have g52 : a'.tmps[52]?.getD undef = .slice (some ⟨b1, o1, none⟩) l.length c := by have h := hdep 6 _ rfl (by kernel_rfl); simpa using h
                have g53 : a'.tmps[53]?.getD undef = .int .i64 (k : Int) := by have h := hdep 7 _ rfl (by kernel_rfl); simpa using h
                clear ho hfr hdep
                go_wp2_with fail
                exact ⟨rfl, _, rfl, Below.refl _ _, rfl⟩
              · intro o ho a' w' hb hfr hdep
                obtain rfl := Option.some.inj ho
                have g54 : a'.tmps[54]?.getD undef = .pointer (some ⟨b1, o1 + k * 2, none⟩) := by have h := hdep 8 _ rfl (by kernel_rfl); simpa using h
                clear ho hfr hdep
                go_wp2_with fail
                exact ⟨rfl, _, rfl, Below.refl _ _, rfl⟩
              · intro o ho a' w' hb hfr hdep
                obtain rfl := Option.some.inj ho
                have g55 : a'.tmps[55]?.getD undef = .pointer (some ⟨b1, o1 + k * 2 + 1, none⟩) := by have h := hdep 9 _ rfl (by kernel_rfl); simpa using h
                clear ho hfr hdep
                have hcl := cell_below KX1.out hb
                go_wp2_with fail
                exact ⟨rfl, _, rfl, Below.refl _ _, rfl⟩
              · intro o ho a' w' hb hfr hdep
                obtain rfl := Option.some.inj ho
                have g6 : a'.tmps[6]?.getD undef = .int .i64 (j : Int) := by have h := hfr 6 (by kernel_rfl); simpa using h
                clear ho hfr hdep
                go_wp2_with fail
                exact ⟨rfl, _, rfl, Below.refl _ _, rfl⟩
              · intro o ho a' w' hb hfr hdep
                obtain rfl := Option.some.inj ho
                have g56 : a'.tmps[56]?.getD undef = .string x.text := by have h := hdep 10 _ rfl (by kernel_rfl); simpa using h
                have g57 : a'.tmps[57]?.getD undef = .int .i64 (j : Int) := by have h := hdep 11 _ rfl (by kernel_rfl); simpa using h
                clear ho hfr hdep
                refine idx_str 58 9 Try.underlying9 _ _ x.text j ch (by show a'.tmps.getD 56 undef = _; simpa using g56) (by show a'.tmps.getD 57 undef = _; simpa using g57) HCH.out ?_
                go_wp2_with fail
                exact ⟨rfl, _, rfl, Below.refl _ _, rfl⟩
              · intro o ho a' w' hb hfr hdep
                obtain rfl := Option.some.inj ho
                have g51 : a'.tmps[51]?.getD undef = .int .i64 x.lang := by have h := hdep 5 _ rfl (by kernel_rfl); simpa using h
                have g58 : a'.tmps[58]?.getD undef = .int .u8 (ch.toNat : Int) := by have h := hdep 12 _ rfl (by kernel_rfl); simpa using h
                clear ho hfr hdep
                go_wp2_with fail
                exact ⟨rfl, _, rfl, Below.refl _ _, rfl⟩
              · intro o ho a' w' hb hfr hdep
                obtain rfl := Option.some.inj ho
                have g59 : a'.tmps[59]?.getD undef = .agg #[.int .i64 x.lang, .int .u8 (ch.toNat : Int)] := by have h := hdep 13 _ rfl (by kernel_rfl); simpa using h
                clear ho hfr hdep
                go_wp2_with fail
                exact ⟨rfl, _, rfl, blo _ _, _, rfl, Sl.fresh _ _ 2 1 [.int .i64 x.lang, .int .u8 (ch.toNat : Int)] rfl (by decide)⟩
            · intro gg w3 hb3 hp3
              have p46 := hp3 0 _ rfl
              obtain ⟨b9, p60, hs9⟩ := hp3 14 _ rfl
              clear hp3
              simp at p46 p60
              simp only [List.drop_succ_cons, List.drop_zero, List.map_cons, List.map_nil, putAll, Act.put, List.setIfInBounds_toArray, List.set_cons_succ, List.set_cons_zero, List.cons_append, List.nil_append, p46, p60]
              clear p46 p60
              have hbz := hbj.trans (hb3.mono hbj.size)
              have ho3 := hO.below hb3
              have hz3 := hbz.size
              go_wp2_with (at_builtin; refine app_sys2 rfl _ _ rfl w w.heap.size aj Oi.length cj _ rfl ho3 (some ⟨b9, 0, none⟩) 1 1 [.int .i64 x.lang, .int .u8 (ch.toNat : Int)] (by simp [Value.oneCell']) rfl hs9 (by omega) hz3 hbz ?_; intro a7 c7 w7 ho7 hg7 hb7)
              go_roundg (x.text.size - (j + 1))
              case measure => have := HGJ.out; omega
              case rel => exact ⟨j + 1, Oi ++ [⟨x.lang, ch⟩], a7, c7, by omega, rfl, by rw [List.length_append]; rfl, by go_num, HW2, hide (by rw [HOI.out, chars_step HCH.out, List.append_assoc]), by rw [List.length_append, List.flatMap_append, List.flatMap_singleton]; exact ho7, hb7⟩
        · obtain rfl : j = x.text.size := by omega
          have e0 : decide (x.text.size < x.text.size) = false := decide_eq_false (by omega)
          have e0' : decide ((x.text.size : Int) < (x.text.size : Int)) = false := decide_eq_false (by omega)
          have HOK2 : Hid ((l.take (k + 1)).all okRn = true) := hide (by
            rw [take_succ_get HX.out, List.all_append, HOK.out]
            have hw := HW.out
            rw [List.take_of_length_le (by rw [← size_chars]; exact Nat.le_refl _)] at hw
            simp only [List.all_cons, List.all_nil, Bool.and_true, Bool.true_and]
            unfold okRn
            rw [hw]
            rcases HXL.out with h | h <;> simp [h])
          have HO3 : Hid (Oi = symsR (l.take (k + 1))) := hide (by
            rw [HOI.out, take_succ_get HX.out, List.take_of_length_le (l := chars x.text) (by rw [← size_chars]; exact Nat.le_refl _)]
            unfold symsR
            rw [List.flatMap_append, List.flatMap_singleton]
            rfl)
          go_wp2_with fail
          go_roundg (l.length - (k + 1))
          case measure => have := HG.out; omega
          case rel => exact ⟨k + 1, Oi, aj, cj, by omega, rfl, rfl, by go_num, HOK2, HO3, hO, hbj⟩
    · obtain rfl : k = l.length := by omega
      have d0 : decide (l.length < l.length) = false := decide_eq_false (by omega)
      have d0' : decide ((l.length : Int) < (l.length : Int)) = false := decide_eq_false (by omega)
      have hOl : O = symsR l := by rw [HO.out, List.take_length]
      have hokl : l.all okRn = true := by have := HOK.out; rwa [List.take_length] at this
      have HOL := hide hOl
      clear HO hOl
      by_cases hbig : 2048 < O.length
      · have d1 : decide (2048 < O.length) = true := decide_eq_true hbig
        have d1' : decide (2048 < (O.length : Int)) = true := decide_eq_true (by omega)
        have HB : Hid (E = 4 ∧ R = []) := hide (by
          have := sym_big hokl (by rw [← HOL.out]; exact hbig)
          rw [HE.out, HR.out] at this
          exact this)
        clear hokl
        go_wp2_with fail
        go_ret2
        rw [HB.out.1, HB.out.2]
        exact ⟨none, 0, rfl, Sl.empty _ _, hb⟩
      · have d1 : decide (2048 < O.length) = false := decide_eq_false hbig
        have d1' : decide (2048 < (O.length : Int)) = false := decide_eq_false (by omega)
        have HB : Hid (E = 0 ∧ R = O) := hide (by
          have := sym_fine hokl (by rw [← HOL.out]; omega)
          rw [HE.out, HR.out] at this
          exact ⟨this.1, this.2.trans HOL.out.symm⟩)
        clear hokl
        go_wp2_with fail
        go_ret2
        rw [HB.out.1, HB.out.2]
        exact ⟨ao, co, rfl, hO0.sl, hb⟩
end Go.Proofs.Ytkjcbneanaeleaa
end

/- the text B47 -/
section
/- Chapter 06: the program's Runs. -/
namespace Go.Dx
open Go.RowKit
theorem own_two {w : World} {e : TypeId} {B : Nat} {a : Option Addr} {c0 : Nat} {O : List Rn} (h : Own w B e 2 a O.length c0 (O.flatMap rnc)) {k : Nat} {r : Rn} (hx : O[k]? = some r) :
    ∃ g, a = some ⟨g, 0, none⟩ ∧ B ≤ g ∧ g < w.heap.size ∧ w.cell? ⟨g, k * 2, none⟩ = some (.int .i64 r.lang) ∧ w.cell? ⟨g, k * 2 + 1, none⟩ = some (.string r.text) := by
  obtain ⟨b, o, rfl, h1, h2, h3⟩ := two_cells rnc_len h.sl hx
  have hz := h.zero3
  have hb := h.base
  have : o = 0 := by injection hz
  subst this
  simp only [Nat.zero_add] at h2 h3
  exact ⟨b, rfl, hb.1, hb.2, h2, h3⟩
theorem addRn_len (out : List Rn) (x : Sy) : (addRn out x).length ≤ out.length + 1 := by
  unfold addRn
  split
  · split
    · rw [List.length_set]; omega
    · rw [List.length_append]; exact Nat.le_refl _
  · simp
theorem foldl_len : ∀ (l : List Sy) (out : List Rn), (l.foldl addRn out).length ≤ out.length + l.length
  | [], out => by simp
  | x :: l, out => by
    rw [List.foldl_cons]
    have h1 := foldl_len l (addRn out x)
    have h2 := addRn_len out x
    simp only [List.length_cons]
    omega
theorem runsOf_len (l : List Sy) : (runsOf l).length ≤ l.length := by
  have := foldl_len l []
  simpa [runsOf] using this
theorem runsOf_text {l : List Sy} {r : Rn} (h : r ∈ runsOf l) : r.text.size ≤ l.length := by
  have h1 := runs_syms l
  obtain ⟨A, B, hAB⟩ := List.append_of_mem h
  have h2 := congrArg List.length h1
  rw [hAB] at h2
  unfold symsR at h2
  rw [List.flatMap_append, List.flatMap_cons, List.length_append, List.length_append] at h2
  have h3 : (charsR r).length = r.text.size := by unfold charsR; rw [List.length_map, size_chars]
  omega
end Go.Dx
namespace Go.Proofs.Ytkjcbneanaeleaa
open Go.RowKit Go.Dx
set_option maxRecDepth 100000 in
set_option maxHeartbeats 4000000 in
theorem tab_Runs (l : List Sy) (a : Option Addr) (n c : Nat) (w : World) (hs : Sl w 2 a n c (l.flatMap sc)) (hl : l.length ≤ 100000) :
    Calls Try.prog 29 #[.slice a n c] w fun e w' => ∃ (a' : Option Addr) (c' : Nat), e = .returned (.slice a' (runsL l).length c') ∧ Sl w' 2 a' (runsL l).length c' ((runsL l).flatMap rnc) ∧ Below w.heap.size w w' := by
  obtain rfl := hs.nf sc_len (by decide)
  obtain ⟨R, HR⟩ : ∃ R, Hid (runsL l = R) := ⟨_, hide rfl⟩
  rw [HR.out]
  have hm1 : l.length ≤ 100000 := hl
  go_enter Try.func29, Try.ntmps29
  go_wp2_with fail
  go_loopg [3, 9] l.length (fun gh o v w' => ∃ (k : Nat) (O : List Rn) (ao : Option Addr) (co : Nat), k ≤ l.length ∧ gh = l.length - k ∧ o = .slice ao O.length co ∧ v = .int .i64 (k : Int) ∧ Hid (goodS (l.take k) = true) ∧ Hid (O = runsOf (l.take k)) ∧ Own w' w.heap.size 100 2 ao O.length co (O.flatMap rnc) ∧ Below w.heap.size w w')
  case atStart => exact ⟨0, [], none, 0, by omega, by omega, rfl, rfl, hide rfl, hide rfl, Own.nil _ _ _ _, Below.refl _ _⟩
  case round =>
    obtain ⟨k, O, ao, co, hk, hg, rfl, rfl, HOK, HO, hO, hb⟩ := hrel
    have HG := hide hg
    clear hg
    by_cases hkl : k < l.length
    · obtain ⟨x, hx⟩ : ∃ x, l[k]? = some x := ⟨_, List.getElem?_eq_getElem hkl⟩
      have HX := hide hx
      obtain ⟨b1, o1, hab, _, e0, e1⟩ := two_cells sc_len (hs.below hb) hx
      subst hab
      have HC1 : Hid (∀ (j : Nat) (u : Value), ([.int .i64 x.lang, .int .u8 (x.c.toNat : Int)] : List Value)[j]? = some u → wr.cell? ⟨b1, o1 + k * 2 + j, none⟩ = some u) := hide (by
        intro j u hj
        rcases j with _ | _ | j
        · cases hj; exact e0
        · cases hj; exact e1
        · cases hj)
      have hOl : O.length ≤ 100000 := by rw [HO.out]; exact Nat.le_trans (runsOf_len _) (by rw [List.length_take]; omega)
      have hbx := Box.new wr 55 #[.int .i64 x.lang, .int .u8 (x.c.toNat : Int)]
      have hal := blo wr (.cells #[.int .i64 x.lang, .int .u8 (x.c.toNat : Int)] 55)
      have d0 : decide (k < l.length) = true := decide_eq_true hkl
      have d0' : decide ((k : Int) < (l.length : Int)) = true := decide_eq_true (by omega)
      clear hx e0 e1
      go_upto_region 5 with (with_reducible refine load_struct 12 55 _ 2 size_sym _ Try.underlying55 ⟨b1, o1 + k * 2, none⟩ rfl [.int .i64 x.lang, .int .u8 (x.c.toNat : Int)] rfl (fun j u hj => by rw [Addr.add_lit]; exact HC1.out j u hj) ?_)
      generalize wr.alloc (.cells _ 55) = w1 at *
      obtain ⟨gx, hgx⟩ : ∃ g, g = wr.heap.size := ⟨_, rfl⟩
      rw [← hgx] at hbx ⊢
      clear hgx HC1
      have hbw1 := hb.trans (hal.mono hb.size)
      have hO1 := hO.below hal
      clear hO hal
      have hSY := fun w' => tab_sym x w'
      cases hok : symOk x
      · have HB : Hid (R = []) := hide (by
          rw [← HR.out]
          unfold runsL
          rw [if_neg]
          intro hgd
          unfold goodS at hgd
          have := List.all_eq_true.1 hgd x (List.mem_of_getElem? HX.out)
          rw [hok] at this
          cases this)
        rw [hok] at hSY
        clear hok
        go_wp2_with (first
          | (with_reducible refine load_struct 13 55 _ 2 size_sym _ Try.underlying55 ⟨gx, 0, none⟩ rfl [.int .i64 x.lang, .int .u8 (x.c.toNat : Int)] rfl (fun j u hj => by rw [Addr.add_lit, Nat.zero_add]; exact hbx.at_ hj) ?_)
          | (go_at_call 49; refine (hSY _).mono ?_; rintro e w2 ⟨rfl, hb2⟩))
        go_ret
        rw [HB.out]
        exact ⟨none, 0, rfl, Sl.empty _ _, hbw1.trans (hb2.mono hbw1.size)⟩
      · have HOK2 : Hid (goodS (l.take (k + 1)) = true) := hide (by
          unfold goodS
          rw [take_succ_get HX.out, List.all_append]
          have := HOK.out
          unfold goodS at this
          rw [this]
          simp [hok])
        have hc128 : x.c.toNat < 128 := by
          unfold symOk isW at hok
          simp only [Bool.and_eq_true, decide_eq_true_eq] at hok
          omega
        obtain ⟨S, hS⟩ : ∃ S, Utf8.encode (x.c.toNat : Int) = S := ⟨_, rfl⟩
        have HS := hide hS
        have HSB : Hid (S = byteS x.c) := hide (by rw [← hS]; exact enc_byte hc128)
        have hS1 : S.size ≤ 1 := by rw [HSB.out]; exact Nat.le_refl 1
        rw [hok] at hSY
        clear hok hS hc128
        go_upto_region 8 with (first
          | (with_reducible refine load_struct 13 55 _ 2 size_sym _ Try.underlying55 ⟨gx, 0, none⟩ rfl [.int .i64 x.lang, .int .u8 (x.c.toNat : Int)] rfl (fun j u hj => by rw [Addr.add_lit, Nat.zero_add]; exact hbx.at_ hj) ?_)
          | (go_at_call 49; refine (hSY _).mono ?_; rintro e w2 ⟨rfl, hb2⟩))
        have hbx2 := hbx.under hb2
        have hO2 := hO1.below hb2
        have hbw2 := hbw1.trans (hb2.mono hbw1.size)
        have KX0 : Hid (w2.cell? ⟨gx, 0, none⟩ = some (.int .i64 x.lang)) := hide (hbx2.at_ rfl)
        have KX1 : Hid (w2.cell? ⟨gx, 1, none⟩ = some (.int .u8 (x.c.toNat : Int))) := hide (hbx2.at_ rfl)
        clear hbx hO1 hb2 hSY hbw1 d0 d0'
        by_cases h0 : O.length = 0
        · have z0 : decide (0 < (O.length : Int)) = false := decide_eq_false (by omega)
          have z0' : decide (0 < O.length) = false := decide_eq_false (by omega)
          have HNEW : Hid (Hid (O ++ [(⟨x.lang, S⟩ : Rn)] = runsOf (l.take (k + 1)))) := hide (hide (by
            rw [take_succ_get HX.out, runsOf_snoc, ← HO.out, HSB.out]
            exact (addRn_new (fun r hr => by rw [List.eq_nil_of_length_eq_zero h0] at hr; simp at hr)).symm))
          clear h0
          go_wp2_with fail
          go_quiet (fail)
          have hS := HS.out
          have hO3 : Own (w2.drewN nq) w.heap.size 100 2 ao O.length co (O.flatMap rnc) := hO2
          have hbw3 := belowN hbw2 nq
          have k0 : (w2.drewN nq).cell? ⟨gx, 0, none⟩ = some (.int .i64 x.lang) := KX0.out
          have k1 : (w2.drewN nq).cell? ⟨gx, 1, none⟩ = some (.int .u8 (x.c.toNat : Int)) := KX1.out
          clear hO2 hbx2 hbw2
          generalize w2.drewN nq = w3 at *
          have hO4 := hO3.alloc (.cells (rnc (⟨x.lang, S⟩ : Rn)).toArray 100)
          have hs9 := Sl.fresh w3 100 2 1 (rnc (⟨x.lang, S⟩ : Rn)) rfl (by decide)
          have hb4 := blo w3 (.cells (rnc (⟨x.lang, S⟩ : Rn)).toArray 100)
          have hbw4 := hbw3.trans (hb4.mono hbw3.size)
          have hz4 := hbw4.size
          clear hO3 hb4
          go_wp2_with (at_builtin; refine app_rn rfl _ _ rfl w w.heap.size ao O.length co _ rfl hO4 (some ⟨w3.heap.size, 0, none⟩) 1 (⟨x.lang, S⟩ : Rn) rfl hs9 (by omega) hz4 hbw4 ?_; intro a7 c7 w7 ho7 hg7 hb7)
          go_roundg (l.length - (k + 1))
          case measure => have := HG.out; omega
          case rel => exact ⟨k + 1, O ++ [(⟨x.lang, S⟩ : Rn)], a7, c7, by omega, rfl, by rw [List.length_append]; rfl, by go_num, HOK2, HNEW.out, by rw [List.length_append, List.flatMap_append, List.flatMap_singleton]; exact ho7, hb7⟩
        · obtain ⟨u, hu⟩ : ∃ u, O.length = u + 1 := ⟨O.length - 1, by omega⟩
          obtain ⟨r, hr⟩ : ∃ r, O[u]? = some r := ⟨_, List.getElem?_eq_getElem (by omega)⟩
          have HR2 := hide hr
          obtain ⟨go, hao, hgo, _, c0, c1⟩ := own_two hO2 hr
          subst hao
          have HU : Hid ((O.length : Int) - 1 = (u : Int)) := hide (by omega)
          have HUL := hide hu
          have KR0 : Hid (w2.cell? ⟨go, u * 2, none⟩ = some (.int .i64 r.lang)) := hide c0
          have KR1 : Hid (w2.cell? ⟨go, u * 2 + 1, none⟩ = some (.string r.text)) := hide c1
          have hul : u < O.length := by omega
          have hrz : r.text.size ≤ 100000 := by
            have h1 : r ∈ runsOf (l.take k) := by rw [← HO.out]; exact List.mem_of_getElem? hr
            have h2 := runsOf_text h1
            rw [List.length_take] at h2
            omega
          have HAB : Hid (r.text.size + S.size ≤ 9223372036854775807) := hide (by omega)
          have z0 : decide (0 < (O.length : Int)) = true := decide_eq_true (by omega)
          have z0' : decide (0 < O.length) = true := decide_eq_true (by omega)
          have hu1 := HU.out
          have hu2 : IntKind.i64.wrap (u : Int) = (u : Int) := IntWalk.i64_in _ (by omega)
          have hu3 : (u : Int) < (O.length : Int) := by omega
          have q0 : w2.cell? ⟨go, u * 2, none⟩ = some (.int .i64 r.lang) := c0
          have q1 : w2.cell? ⟨gx, 0, none⟩ = some (.int .i64 x.lang) := KX0.out
          clear hu hr c0 c1 h0
          by_cases he : r.lang = x.lang
          · have HNEW : Hid (Hid (O.set u ⟨r.lang, r.text ++ S⟩ = runsOf (l.take (k + 1)))) := hide (hide (by
              rw [take_succ_get HX.out, runsOf_snoc, ← HO.out, HSB.out]
              unfold addRn
              rw [HUL.out, Nat.add_sub_cancel, HR2.out]
              simp only
              rw [if_pos he]))
            obtain ⟨cur, _, hxo, hcl, hput⟩ := hO2.box
            have hxo : Box w2 go 100 cur := hxo
            have HPUT : Hid (∀ (w' : World) (i : Nat) (v : Value), i < O.length * 2 → Box w' go 100 (cur.set i v) → Own w' w.heap.size 100 2 (some ⟨go, 0, none⟩) O.length co ((O.flatMap rnc).set i v)) := hide hput
            have hln : u * 2 + 1 < cur.length := by omega
            have he1 : (r.lang == x.lang) = true := by simpa using he
            have HE1 := hide he1
            clear he hput hO2
            go_wp2_with fail
            go_quiet (fail)
            clear hu1 hu2 q0 q1 z0 z0' he1
            have hxo3 : Box (w2.drewN nq) go 100 cur := hxo
            have hbw3 := belowN hbw2 nq
            have KX1 : Hid ((w2.drewN nq).cell? ⟨gx, 1, none⟩ = some (.int .u8 (x.c.toNat : Int))) := KX1
            have KR1 : Hid ((w2.drewN nq).cell? ⟨go, u * 2 + 1, none⟩ = some (.string r.text)) := KR1
            clear hbx2 hxo hbw2 KX0 KR0
            generalize w2.drewN nq = w3 at *
            go_wp2_with fail
            refine wp_region_free 10 [⟨0, 31, [31], fun vs _ => vs = [.slice (some ⟨go, 0, none⟩) O.length co]⟩, ⟨1, 32, [32], fun vs _ => vs = [.int .i64 (O.length : Int)]⟩, ⟨2, 33, [33], fun vs _ => vs = [.int .i64 (u : Int)]⟩, ⟨3, 34, [34], fun vs _ => vs = [.pointer (some ⟨go, u * 2, none⟩)]⟩, ⟨4, 35, [35], fun vs _ => vs = [.pointer (some ⟨go, u * 2 + 1, none⟩)]⟩, ⟨5, 36, [36], fun vs _ => vs = [.string r.text]⟩, ⟨6, 37, [37], fun vs _ => vs = [.pointer (some ⟨gx, 1, none⟩)]⟩, ⟨7, 38, [38], fun vs _ => vs = [.int .u8 (x.c.toNat : Int)]⟩, ⟨8, 39, [39], fun vs _ => vs = [.string S]⟩, ⟨9, 40, [40], fun vs _ => vs = [.string (r.text ++ S)]⟩] (by kernel_rfl) (by kernel_rfl) ?_ ?_ ?_
            · simp only [All]
              refine ⟨fun _ _ _ _ h => h, fun _ _ _ _ h => h, fun _ _ _ _ h => h, fun _ _ _ _ h => h, fun _ _ _ _ h => h, fun _ _ _ _ h => h, fun _ _ _ _ h => h, fun _ _ _ _ h => h, fun _ _ _ _ h => h, fun _ _ _ _ h => h, trivial⟩
            · simp only [All]
              refine ⟨?_, ?_, ?_, ?_, ?_, ?_, ?_, ?_, ?_, ?_, trivial⟩
              · intro o ho a' w' hb hfr hdep
                obtain rfl := Option.some.inj ho
                have g3 : a'.tmps[3]?.getD undef = .slice (some ⟨go, 0, none⟩) O.length co := by have h := hfr 3 (by kernel_rfl); simpa using h
                clear ho hfr hdep
                go_wp2_with fail
                exact ⟨rfl, _, rfl, Below.refl _ _, rfl⟩
              · intro o ho a' w' hb hfr hdep
                obtain rfl := Option.some.inj ho
                have g6 : a'.tmps[6]?.getD undef = .int .i64 (O.length : Int) := by have h := hfr 6 (by kernel_rfl); simpa using h
                clear ho hfr hdep
                go_wp2_with fail
                exact ⟨rfl, _, rfl, Below.refl _ _, rfl⟩
              · intro o ho a' w' hb hfr hdep
                obtain rfl := Option.some.inj ho
                have g32 : a'.tmps[32]?.getD undef = .int .i64 (O.length : Int) := by have h := hdep 1 _ rfl (by kernel_rfl); simpa using h
                clear ho hfr hdep
                have hu := HU.out
                go_wp2_with fail
                exact ⟨rfl, _, rfl, Below.refl _ _, rfl⟩
              · intro o ho a' w' hb hfr hdep
                obtain rfl := Option.some.inj ho
                have g31 : a'.tmps[31]?.getD undef = .slice (some ⟨go, 0, none⟩) O.length co := by have h := hdep 0 _ rfl (by kernel_rfl); simpa using h
                have g33 : a'.tmps[33]?.getD undef = .int .i64 (u : Int) := by have h := hdep 2 _ rfl (by kernel_rfl); simpa using h
                clear ho hfr hdep
                go_wp2_with fail
                exact ⟨rfl, _, rfl, Below.refl _ _, rfl⟩
              · intro o ho a' w' hb hfr hdep
                obtain rfl := Option.some.inj ho
                have g34 : a'.tmps[34]?.getD undef = .pointer (some ⟨go, u * 2, none⟩) := by have h := hdep 3 _ rfl (by kernel_rfl); simpa using h
                clear ho hfr hdep
                go_wp2_with fail
                exact ⟨rfl, _, rfl, Below.refl _ _, rfl⟩
              · intro o ho a' w' hb hfr hdep
                obtain rfl := Option.some.inj ho
                have g35 : a'.tmps[35]?.getD undef = .pointer (some ⟨go, u * 2 + 1, none⟩) := by have h := hdep 4 _ rfl (by kernel_rfl); simpa using h
                clear ho hfr hdep
                have hcl := cell_below KR1.out hb
                go_wp2_with fail
                exact ⟨rfl, _, rfl, Below.refl _ _, rfl⟩
              · intro o ho a' w' hb hfr hdep
                obtain rfl := Option.some.inj ho
                have g5 : a'.tmps[5]?.getD undef = .pointer (some ⟨gx, 0, none⟩) := by have h := hfr 5 (by kernel_rfl); simpa using h
                clear ho hfr hdep
                go_wp2_with fail
                exact ⟨rfl, _, rfl, Below.refl _ _, rfl⟩
              · intro o ho a' w' hb hfr hdep
                obtain rfl := Option.some.inj ho
                have g37 : a'.tmps[37]?.getD undef = .pointer (some ⟨gx, 1, none⟩) := by have h := hdep 6 _ rfl (by kernel_rfl); simpa using h
                clear ho hfr hdep
                have hcl := cell_below KX1.out hb
                go_wp2_with fail
                exact ⟨rfl, _, rfl, Below.refl _ _, rfl⟩
              · intro o ho a' w' hb hfr hdep
                obtain rfl := Option.some.inj ho
                have g38 : a'.tmps[38]?.getD undef = .int .u8 (x.c.toNat : Int) := by have h := hdep 7 _ rfl (by kernel_rfl); simpa using h
                clear ho hfr hdep
                have hS := HS.out
                go_wp2_with fail
                exact ⟨rfl, _, rfl, Below.refl _ _, rfl⟩
              · intro o ho a' w' hb hfr hdep
                obtain rfl := Option.some.inj ho
                have g36 : a'.tmps[36]?.getD undef = .string r.text := by have h := hdep 5 _ rfl (by kernel_rfl); simpa using h
                have g39 : a'.tmps[39]?.getD undef = .string S := by have h := hdep 8 _ rfl (by kernel_rfl); simpa using h
                clear ho hfr hdep
                have hab := HAB.out
                refine val_at rfl (.string (r.text ++ S)) ?_ ?_
                · have e1 : a'.eval (.tmp 36) = .string r.text := by show a'.tmps.getD 36 undef = _; simpa using g36
                  have e2 : a'.eval (.tmp 39) = .string S := by show a'.tmps.getD 39 undef = _; simpa using g39
                  simp only [execOp, e1, e2]
                  have hrun := run_string_add_sum (P := Try.prog) w' r.text S hab
                  simp [binOp, eqGuard, hrun, Result.andThen]
                · go_wp2_with fail
                  exact ⟨rfl, _, rfl, Below.refl _ _, rfl⟩
            · intro gg w5 hb5 hp5
              have p31 := hp5 0 _ rfl
              have p33 := hp5 2 _ rfl
              have p40 := hp5 9 _ rfl
              clear hp5
              simp at p31 p33 p40
              simp only [List.drop_succ_cons, List.drop_zero, List.map_cons, List.map_nil, putAll, Act.put, List.setIfInBounds_toArray, List.set_cons_succ, List.set_cons_zero, List.cons_append, List.nil_append, p31, p33, p40]
              clear p31 p33 p40
              have hbz := hbw3.trans (hb5.mono hbw3.size)
              have hxo5 := hxo3.under hb5
              go_wp2_with (with_reducible refine store_cell 9 _ _ 100 go (u * 2 + 1) cur (.string (r.text ++ S)) size_str hxo5 rfl rfl rfl rfl hln ?_; intro w8 hx8 hg8 hs8)
              have ho8 := HPUT.out w8 (u * 2 + 1) (.string (r.text ++ S)) (by omega) hx8
              have hbz8 := hbz.grown hg8 hbz.size (fun q hq => by cases hq; exact hgo)
              rw [flat_set rnc_len (y := (⟨r.lang, r.text ++ S⟩ : Rn)) (by decide) rfl O u HR2.out] at ho8
              go_roundg (l.length - (k + 1))
              case measure => have := HG.out; omega
              case rel => exact ⟨k + 1, O.set u ⟨r.lang, r.text ++ S⟩, some ⟨go, 0, none⟩, co, by omega, rfl, by rw [List.length_set], by go_num, HOK2, HNEW.out, by rw [List.length_set]; exact ho8, hbz8⟩
          · have HNEW : Hid (Hid (O ++ [(⟨x.lang, S⟩ : Rn)] = runsOf (l.take (k + 1)))) := hide (hide (by
              rw [take_succ_get HX.out, runsOf_snoc, ← HO.out, HSB.out]
              exact (addRn_new (fun r2 hr2 => by rw [HUL.out, Nat.add_sub_cancel, HR2.out] at hr2; cases hr2; exact he)).symm))
            have he1 : (r.lang == x.lang) = false := by simpa using he
            clear he
            go_wp2_with fail
            go_quiet (fail)
            clear hu1 hu2 q0 q1 z0 z0' he1 hu3 hul
            have hS := HS.out
            have hO3 : Own (w2.drewN nq) w.heap.size 100 2 (some ⟨go, 0, none⟩) O.length co (O.flatMap rnc) := hO2
            have hbw3 := belowN hbw2 nq
            have k0 : (w2.drewN nq).cell? ⟨gx, 0, none⟩ = some (.int .i64 x.lang) := KX0.out
            have k1 : (w2.drewN nq).cell? ⟨gx, 1, none⟩ = some (.int .u8 (x.c.toNat : Int)) := KX1.out
            clear hO2 hbx2 hbw2
            generalize w2.drewN nq = w3 at *
            have hO4 := hO3.alloc (.cells (rnc (⟨x.lang, S⟩ : Rn)).toArray 100)
            have hs9 := Sl.fresh w3 100 2 1 (rnc (⟨x.lang, S⟩ : Rn)) rfl (by decide)
            have hb4 := blo w3 (.cells (rnc (⟨x.lang, S⟩ : Rn)).toArray 100)
            have hbw4 := hbw3.trans (hb4.mono hbw3.size)
            have hz4 := hbw4.size
            clear hO3 hb4
            go_wp2_with (at_builtin; refine app_rn rfl _ _ rfl w w.heap.size (some ⟨go, 0, none⟩) O.length co _ rfl hO4 (some ⟨w3.heap.size, 0, none⟩) 1 (⟨x.lang, S⟩ : Rn) rfl hs9 (by omega) hz4 hbw4 ?_; intro a7 c7 w7 ho7 hg7 hb7)
            go_roundg (l.length - (k + 1))
            case measure => have := HG.out; omega
            case rel => exact ⟨k + 1, O ++ [(⟨x.lang, S⟩ : Rn)], a7, c7, by omega, rfl, by rw [List.length_append]; rfl, by go_num, HOK2, HNEW.out, by rw [List.length_append, List.flatMap_append, List.flatMap_singleton]; exact ho7, hb7⟩
    · obtain rfl : k = l.length := by omega
      have d0 : decide (l.length < l.length) = false := decide_eq_false (by omega)
      have d0' : decide ((l.length : Int) < (l.length : Int)) = false := decide_eq_false (by omega)
      have HOR : Hid (O = R) := hide (by
        rw [HO.out, ← HR.out, List.take_length]
        have := HOK.out
        rw [List.take_length] at this
        unfold runsL
        rw [if_pos this])
      go_wp2_with fail
      go_ret
      rw [← HOR.out]
      exact ⟨ao, co, rfl, hO.sl, hb⟩
end Go.Proofs.Ytkjcbneanaeleaa
end

/- the text B48 -/
section
/- Chapter 06: the reference's Runs. -/
namespace Go.Proofs.Ytkjcbneanaeleaa
open Go.RowKit Go.Dx
set_option maxRecDepth 100000 in
set_option maxHeartbeats 4000000 in
theorem ref_Runs (l : List Sy) (a : Option Addr) (n c : Nat) (w : World) (hs : Sl w 2 a n c (l.flatMap sc)) (hl : l.length ≤ 100000) :
    Calls Try.prog 24 #[.slice a n c] w fun e w' => ∃ (a' : Option Addr) (c' : Nat), e = .returned (.slice a' (runsL l).length c') ∧ Sl w' 2 a' (runsL l).length c' ((runsL l).flatMap rnc) ∧ Below w.heap.size w w' := by
  have hGD := fun w' (hb : Below w.heap.size w w') => ref_Good l a n c w' (hs.below hb)
  obtain rfl := hs.nf sc_len (by decide)
  obtain ⟨R, HR⟩ : ∃ R, Hid (runsL l = R) := ⟨_, hide rfl⟩
  rw [HR.out]
  have hm1 : l.length ≤ 100000 := hl
  cases hgd : goodS l
  · have HB : Hid (R = []) := hide (by rw [← HR.out]; unfold runsL; rw [hgd]; rfl)
    rw [hgd] at hGD
    clear hgd
    go_enter Try.func24, Try.ntmps24
    go_wp2_with (go_at_call 54; refine (hGD _ (Below.refl _ _)).mono ?_; rintro e w2 ⟨rfl, rfl⟩)
    go_ret
    rw [HB.out]
    exact ⟨none, 0, rfl, Sl.empty _ _, Below.refl _ _⟩
  have HB : Hid (R = runsOf l) := hide (by rw [← HR.out]; unfold runsL; rw [if_pos hgd])
  rw [hgd] at hGD
  clear hgd
  go_enter Try.func24, Try.ntmps24
  go_wp2_with (go_at_call 54; refine (hGD _ (Below.refl _ _)).mono ?_; rintro e w2 ⟨rfl, rfl⟩)
  clear hGD
  go_loopg [3, 4] l.length (fun gh o v w' => ∃ (i : Nat) (O : List Rn) (ao : Option Addr) (co : Nat), i ≤ l.length ∧ gh = l.length - i ∧ o = .slice ao O.length co ∧ v = .int .i64 (i : Int) ∧ Hid (O = runsOf (l.take i)) ∧ Hid (∀ r y, O[O.length - 1]? = some r → l[i]? = some y → r.lang ≠ y.lang) ∧ Own w' w.heap.size 100 2 ao O.length co (O.flatMap rnc) ∧ Below w.heap.size w w')
  case atStart => exact ⟨0, [], none, 0, by omega, by omega, rfl, rfl, hide rfl, hide (fun r y h => by simp at h), Own.nil _ _ _ _, Below.refl _ _⟩
  case round =>
    obtain ⟨i, O, ao, co, hi, hg, rfl, rfl, HO, HL, hO, hb⟩ := hrel
    have HG := hide hg
    clear hg
    by_cases hil : i < l.length
    · obtain ⟨x, hx⟩ : ∃ x, l[i]? = some x := ⟨_, List.getElem?_eq_getElem hil⟩
      have HX := hide hx
      obtain ⟨b1, o1, hab, _, e0, _⟩ := two_cells sc_len (hs.below hb) hx
      subst hab
      have HX0 : Hid (wr.cell? ⟨b1, o1 + i * 2, none⟩ = some (.int .i64 x.lang)) := hide e0
      have hOl : O.length ≤ 100000 := by rw [HO.out]; exact Nat.le_trans (runsOf_len _) (by rw [List.length_take]; omega)
      have d0 : decide (i < l.length) = true := decide_eq_true hil
      have d0' : decide ((i : Int) < (l.length : Int)) = true := decide_eq_true (by omega)
      obtain ⟨wo, rfl⟩ : ∃ wo : World, wo = wr := ⟨_, rfl⟩
      clear hx e0
      go_upto_block 2 with fail
      clear d0 d0'
      go_cut [5, 6] from 15 to 41 (fun tv kv w' => ∃ (kk : Nat) (TX : List UInt8) (at_ : Option Addr) (ct : Nat), i < kk ∧ kk ≤ l.length ∧ tv = .slice at_ TX.length ct ∧ kv = .int .i64 (kk : Int) ∧ Hid (l.take kk = l.take i ++ TX.map fun c => (⟨x.lang, c⟩ : Sy)) ∧ Hid (∀ y, l[kk]? = some y → x.lang ≠ y.lang) ∧ TX.length ≤ 100000 ∧ Own w' wo.heap.size 5 1 at_ TX.length ct (TX.map B8) ∧ Below wo.heap.size wo w')
      case first =>
        go_wp2_with fail
        go_loopg [5, 6] (l.length - i) (fun gh tv kv w' => ∃ (k : Nat) (TX : List UInt8) (at_ : Option Addr) (ct : Nat), i ≤ k ∧ k ≤ l.length ∧ gh = l.length - k ∧ tv = .slice at_ TX.length ct ∧ kv = .int .i64 (k : Int) ∧ Hid (l.take k = l.take i ++ TX.map fun c => (⟨x.lang, c⟩ : Sy)) ∧ TX.length = k - i ∧ Own w' wo.heap.size 5 1 at_ TX.length ct (TX.map B8) ∧ Below wo.heap.size wo w')
        case atStart => exact ⟨i, [], none, 0, by omega, by omega, rfl, rfl, rfl, hide (by simp), by simp, Own.nil _ _ _ _, Below.refl _ _⟩
        case round =>
          obtain ⟨k, TX, at_, ct, hik, hk, hgk, rfl, rfl, HT, hTl, hTX, hbk⟩ := hrel
          have HGK := hide hgk
          have HTL := hide hTl
          have hTb : TX.length ≤ 100000 := by omega
          clear hgk hTl
          have q0 := cell_below HX0.out hbk
          by_cases hkl : k < l.length
          · obtain ⟨y, hy⟩ : ∃ y, l[k]? = some y := ⟨_, List.getElem?_eq_getElem hkl⟩
            have HY := hide hy
            obtain ⟨b2, o2, hab2, _, f0, f1⟩ := two_cells sc_len ((hs.below hb).below hbk) hy
            cases hab2
            have F1 : Hid (wr.cell? ⟨b1, o1 + k * 2 + 1, none⟩ = some (.int .u8 (y.c.toNat : Int))) := hide f1
            have q1 : wr.cell? ⟨b1, o1 + k * 2, none⟩ = some (.int .i64 y.lang) := f0
            have d0 : decide (k < l.length) = true := decide_eq_true hkl
            have d0' : decide ((k : Int) < (l.length : Int)) = true := decide_eq_true (by omega)
            have w0 : (i : Int) < (l.length : Int) := by omega
            have w1 : (k : Int) < (l.length : Int) := by omega
            clear hy f0 f1
            by_cases he : y.lang = x.lang
            · have he1 : (y.lang == x.lang) = true := by simpa using he
              have HSTEP : Hid (l.take (k + 1) = l.take i ++ (TX ++ [y.c]).map fun c => (⟨x.lang, c⟩ : Sy)) := hide (by
                rw [take_succ_get HY.out, HT.out, List.map_append, List.append_assoc]
                congr 2
                show [y] = [(⟨x.lang, y.c⟩ : Sy)]
                rw [← he])
              clear he
              go_wp2_with fail
              go_quiet (fail)
              have q2 : (wr.drewN nq).cell? ⟨b1, o1 + k * 2 + 1, none⟩ = some (.int .u8 (y.c.toNat : Int)) := F1.out
              have hTX2 : Own (wr.drewN nq) wo.heap.size 5 1 at_ TX.length ct (TX.map B8) := hTX
              have hbk2 := belowN hbk nq
              clear hTX hbk q0 q1 he1 F1
              generalize wr.drewN nq = w3 at *
              have hz3 := hbk2.size
              go_wp2_with (at_builtin; refine app_b rfl _ _ rfl wo wo.heap.size at_ TX.length ct _ rfl hTX2 (y.c.toNat : Int) rfl (by omega) hz3 hbk2 ?_; intro a8 c8 w8 ho8 hgr8 hb8)
              go_roundg (l.length - (k + 1))
              case measure => have := HGK.out; omega
              case rel => exact ⟨k + 1, TX ++ [y.c], a8, c8, by omega, by omega, rfl, by rw [List.length_append]; rfl, by go_num, HSTEP, by have := HTL.out; rw [List.length_append]; show _ + 1 = _; omega, by rw [List.length_append, List.map_append]; exact ho8, hb8⟩
            · have he1 : (y.lang == x.lang) = false := by simpa using he
              have hik2 : i < k := by
                refine Nat.lt_of_le_of_ne hik (fun e => ?_)
                subst e
                have := HY.out
                rw [HX.out] at this
                cases this
                exact he rfl
              have HNE : Hid (∀ y, l[k]? = some y → x.lang ≠ y.lang) := hide (fun y2 h2 => by
                have := HY.out
                rw [h2] at this
                cases this
                exact fun e => he e.symm)
              clear he
              go_wp2_with fail
              go_quiet (fail)
              go_wp2_with fail
              go_meet
              exact ⟨k, TX, at_, ct, hik2, hk, rfl, rfl, HT, HNE, hTb, hTX, belowN hbk _⟩
          · obtain rfl : k = l.length := by omega
            have d0 : decide (l.length < l.length) = false := decide_eq_false (by omega)
            have d0' : decide ((l.length : Int) < (l.length : Int)) = false := decide_eq_false (by omega)
            have HNE : Hid (∀ y, l[l.length]? = some y → x.lang ≠ y.lang) := hide (fun y2 h2 => by simp at h2)
            go_wp2_with fail
            go_quiet (fail)
            go_wp2_with fail
            go_meet
            exact ⟨l.length, TX, at_, ct, hil, hk, rfl, rfl, HT, HNE, hTb, hTX, belowN hbk _⟩
      case rest =>
        obtain ⟨kk, TX, at_, ct, hikk, hkkl, rfl, rfl, HT, HNE, hTb, hTX, hbc⟩ := hcut
        obtain ⟨wk, rfl⟩ : ∃ wk : World, wk = wc := ⟨_, rfl⟩
        have hbk := hb.trans (hbc.mono hb.size)
        have hOc := hO.below hbc
        have KX0 := hide (cell_below HX0.out hbc)
        have HNEW : Hid (Hid (O ++ [(⟨x.lang, ⟨TX.toArray⟩⟩ : Rn)] = runsOf (l.take kk))) := hide (hide (by
          have h1 := HT.out
          unfold runsOf
          rw [h1, List.foldl_append]
          have h2 : (l.take i).foldl addRn [] = O := by rw [HO.out]; rfl
          rw [h2]
          have hne : TX ≠ [] := by
            intro e
            rw [e] at h1
            have := congrArg List.length h1
            simp at this
            omega
          obtain ⟨c0, cs, rfl⟩ := List.exists_cons_of_ne_nil hne
          exact (fold_new (fun r hr => HL.out r x hr HX.out)).symm))
        have HLAST : Hid (Hid (∀ r y, (O ++ [(⟨x.lang, ⟨TX.toArray⟩⟩ : Rn)])[(O ++ [(⟨x.lang, ⟨TX.toArray⟩⟩ : Rn)]).length - 1]? = some r → l[kk]? = some y → r.lang ≠ y.lang)) := hide (hide (fun r y hr hy => by
          rw [List.length_append] at hr
          have : (O ++ [(⟨x.lang, ⟨TX.toArray⟩⟩ : Rn)])[O.length + 1 - 1]? = some r := hr
          simp at this
          subst this
          exact HNE.out y hy))
        have w0 : (i : Int) < (l.length : Int) := by omega
        clear hbc hO
        go_wp2_with fail
        refine wp_region_free 10 [⟨0, 42, [42], fun vs _ => vs = [.slice ao O.length co]⟩, ⟨1, 43, [43], fun vs _ => vs = [.slice (some ⟨b1, o1, none⟩) l.length c]⟩, ⟨2, 44, [44], fun vs _ => vs = [.int .i64 (i : Int)]⟩, ⟨3, 45, [45], fun vs _ => vs = [.pointer (some ⟨b1, o1 + i * 2, none⟩)]⟩, ⟨4, 46, [46], fun vs _ => vs = [.pointer (some ⟨b1, o1 + i * 2, none⟩)]⟩, ⟨5, 47, [47], fun vs _ => vs = [.int .i64 x.lang]⟩, ⟨6, 48, [48], fun vs _ => vs = [.slice at_ TX.length ct]⟩, ⟨7, 49, [49], fun vs _ => vs = [.string ⟨TX.toArray⟩]⟩, ⟨8, 50, [50], fun vs _ => vs = [.agg #[.int .i64 x.lang, .string ⟨TX.toArray⟩]]⟩, ⟨9, 51, [51], fun vs w' => ∃ b, vs = [.slice (some ⟨b, 0, none⟩) 1 1] ∧ Sl w' 2 (some ⟨b, 0, none⟩) 1 1 (rnc (⟨x.lang, ⟨TX.toArray⟩⟩ : Rn))⟩] (by kernel_rfl) (by kernel_rfl) ?_ ?_ ?_
        · simp only [All]
          refine ⟨fun _ _ _ _ h => h, fun _ _ _ _ h => h, fun _ _ _ _ h => h, fun _ _ _ _ h => h, fun _ _ _ _ h => h, fun _ _ _ _ h => h, fun _ _ _ _ h => h, fun _ _ _ _ h => h, fun _ _ _ _ h => h, ?_, trivial⟩
          · rintro vs w w' hb ⟨b, h1, h2⟩
            exact ⟨b, h1, h2.below hb⟩
        · simp only [All]
          refine ⟨?_, ?_, ?_, ?_, ?_, ?_, ?_, ?_, ?_, ?_, trivial⟩
          · intro o ho a' w' hb hfr hdep
            obtain rfl := Option.some.inj ho
            have g3 : a'.tmps[3]?.getD undef = .slice ao O.length co := by have h := hfr 3 (by kernel_rfl); simpa using h
            clear ho hfr hdep
            go_wp2_with fail
            exact ⟨rfl, _, rfl, Below.refl _ _, rfl⟩
          · intro o ho a' w' hb hfr hdep
            obtain rfl := Option.some.inj ho
            have g0 : a'.tmps[0]?.getD undef = .slice (some ⟨b1, o1, none⟩) l.length c := by have h := hfr 0 (by kernel_rfl); simpa using h
            clear ho hfr hdep
            go_wp2_with fail
            exact ⟨rfl, _, rfl, Below.refl _ _, rfl⟩
          · intro o ho a' w' hb hfr hdep
            obtain rfl := Option.some.inj ho
            have g4 : a'.tmps[4]?.getD undef = .int .i64 (i : Int) := by have h := hfr 4 (by kernel_rfl); simpa using h
            clear ho hfr hdep
            go_wp2_with fail
            exact ⟨rfl, _, rfl, Below.refl _ _, rfl⟩
          · intro o ho a' w' hb hfr hdep
            obtain rfl := Option.some.inj ho
            have g43 : a'.tmps[43]?.getD undef = .slice (some ⟨b1, o1, none⟩) l.length c := by have h := hdep 1 _ rfl (by kernel_rfl); simpa using h
            have g44 : a'.tmps[44]?.getD undef = .int .i64 (i : Int) := by have h := hdep 2 _ rfl (by kernel_rfl); simpa using h
            clear ho hfr hdep
            go_wp2_with fail
            exact ⟨rfl, _, rfl, Below.refl _ _, rfl⟩
          · intro o ho a' w' hb hfr hdep
            obtain rfl := Option.some.inj ho
            have g45 : a'.tmps[45]?.getD undef = .pointer (some ⟨b1, o1 + i * 2, none⟩) := by have h := hdep 3 _ rfl (by kernel_rfl); simpa using h
            clear ho hfr hdep
            go_wp2_with fail
            exact ⟨rfl, _, rfl, Below.refl _ _, rfl⟩
          · intro o ho a' w' hb hfr hdep
            obtain rfl := Option.some.inj ho
            have g46 : a'.tmps[46]?.getD undef = .pointer (some ⟨b1, o1 + i * 2, none⟩) := by have h := hdep 4 _ rfl (by kernel_rfl); simpa using h
            clear ho hfr hdep
            have hcl := cell_below KX0.out hb
            go_wp2_with fail
            exact ⟨rfl, _, rfl, Below.refl _ _, rfl⟩
          · intro o ho a' w' hb hfr hdep
            obtain rfl := Option.some.inj ho
            have g5 : a'.tmps[5]?.getD undef = .slice at_ TX.length ct := by have h := hfr 5 (by kernel_rfl); simpa using h
            clear ho hfr hdep
            go_wp2_with fail
            exact ⟨rfl, _, rfl, Below.refl _ _, rfl⟩
          · intro o ho a' w' hb hfr hdep
            obtain rfl := Option.some.inj ho
            have g48 : a'.tmps[48]?.getD undef = .slice at_ TX.length ct := by have h := hdep 6 _ rfl (by kernel_rfl); simpa using h
            clear ho hfr hdep
            refine to_str 49 _ at_ TX.length ct TX (by show a'.tmps.getD 48 undef = _; simpa using g48) (hTX.sl.below hb) ?_
            go_wp2_with fail
            exact ⟨rfl, _, rfl, Below.refl _ _, rfl⟩
          · intro o ho a' w' hb hfr hdep
            obtain rfl := Option.some.inj ho
            have g47 : a'.tmps[47]?.getD undef = .int .i64 x.lang := by have h := hdep 5 _ rfl (by kernel_rfl); simpa using h
            have g49 : a'.tmps[49]?.getD undef = .string ⟨TX.toArray⟩ := by have h := hdep 7 _ rfl (by kernel_rfl); simpa using h
            clear ho hfr hdep
            go_wp2_with fail
            exact ⟨rfl, _, rfl, Below.refl _ _, rfl⟩
          · intro o ho a' w' hb hfr hdep
            obtain rfl := Option.some.inj ho
            have g50 : a'.tmps[50]?.getD undef = .agg #[.int .i64 x.lang, .string ⟨TX.toArray⟩] := by have h := hdep 8 _ rfl (by kernel_rfl); simpa using h
            clear ho hfr hdep
            go_wp2_with fail
            exact ⟨rfl, _, rfl, blo _ _, _, rfl, Sl.fresh _ _ 2 1 (rnc (⟨x.lang, ⟨TX.toArray⟩⟩ : Rn)) rfl (by decide)⟩
        · intro gg w5 hb5 hp5
          have p42 := hp5 0 _ rfl
          obtain ⟨b9, p51, hs9⟩ := hp5 9 _ rfl
          clear hp5
          simp at p42 p51
          simp only [List.drop_succ_cons, List.drop_zero, List.map_cons, List.map_nil, putAll, Act.put, List.setIfInBounds_toArray, List.set_cons_succ, List.set_cons_zero, List.cons_append, List.nil_append, p42, p51]
          clear p42 p51
          have hbz := hbk.trans (hb5.mono hbk.size)
          have ho5 := hOc.below hb5
          have hz5 := hbz.size
          go_wp2_with (at_builtin; refine app_rn rfl _ _ rfl w w.heap.size ao O.length co _ rfl ho5 (some ⟨b9, 0, none⟩) 1 (⟨x.lang, ⟨TX.toArray⟩⟩ : Rn) rfl hs9 (by omega) hz5 hbz ?_; intro a7 c7 w7 ho7 hg7 hb7)
          go_roundg (l.length - kk)
          case measure => have := HG.out; omega
          case rel => exact ⟨kk, O ++ [(⟨x.lang, ⟨TX.toArray⟩⟩ : Rn)], a7, c7, by omega, rfl, by rw [List.length_append]; rfl, rfl, HNEW.out, HLAST.out, by rw [List.length_append, List.flatMap_append, List.flatMap_singleton]; exact ho7, hb7⟩
    · obtain rfl : i = l.length := by omega
      have d0 : decide (l.length < l.length) = false := decide_eq_false (by omega)
      have d0' : decide ((l.length : Int) < (l.length : Int)) = false := decide_eq_false (by omega)
      have HOR : Hid (O = R) := hide (by rw [HO.out, HB.out, List.take_length])
      go_wp2_with fail
      go_ret
      rw [← HOR.out]
      exact ⟨ao, co, rfl, hO.sl, hb⟩
end Go.Proofs.Ytkjcbneanaeleaa
end

/- the text BL5 -/
section
/- Chapter 06: the walk of TableTexts. -/
namespace Go.Dx
open Go.RowKit
theorem symsR_le {N : Nat} : ∀ (l : List Rn), (∀ r ∈ l, r.text.size ≤ N) → (symsR l).length ≤ l.length * N
  | [], _ => by simp [symsR]
  | r :: l, h => by
    have h1 := symsR_le l (fun r hr => h r (List.mem_cons_of_mem _ hr))
    have h2 := h r List.mem_cons_self
    have h3 : (charsR r).length = r.text.size := by unfold charsR; rw [List.length_map, size_chars]
    unfold symsR at h1 ⊢
    rw [List.flatMap_cons, List.length_append, List.length_cons, Nat.succ_mul, h3]
    omega
theorem runsL_len (l : List Sy) : (runsL l).length ≤ l.length := by
  unfold runsL
  split
  · exact runsOf_len l
  · exact Nat.zero_le _
theorem runsL_text {l : List Sy} {r : Rn} (h : r ∈ runsL l) : r.text.size ≤ l.length := by
  unfold runsL at h
  split at h
  · exact runsOf_text h
  · simp at h
theorem runsL_syms (l : List Sy) : (symsR (runsL l)).length ≤ l.length := by
  unfold runsL
  split
  · rw [runs_syms]; exact Nat.le_refl _
  · exact Nat.zero_le _
end Go.Dx
namespace Go.Proofs.Ytkjcbneanaeleaa
open Go.RowKit Go.Dx
theorem sym_at {l : List Rn} {E : Int} {R : List Sy} (hE : symE l = E) (hR : symL l = R) (a : Option Addr) (n c : Nat) (w : World) (hs : Sl w 2 a n c (l.flatMap rnc)) (hl : l.length ≤ 3000) (hz : ∀ r ∈ l, r.text.size ≤ 3000) :
    Calls Try.prog 26 #[.slice a n c] w fun e w' => ∃ (a' : Option Addr) (c' : Nat), e = .returned (.tuple #[.slice a' R.length c', .int .i64 E]) ∧ Sl w' 2 a' R.length c' (R.flatMap sc) ∧ Below w.heap.size w w' := by
  have := tab_Symbols l a n c w hs hl hz
  rw [hE, hR] at this
  exact this
theorem rsym_at {l : List Rn} {E : Int} {R : List Sy} (hE : symE l = E) (hR : symL l = R) (a : Option Addr) (n c : Nat) (w : World) (hs : Sl w 2 a n c (l.flatMap rnc)) (hl : l.length ≤ 3000) (hz : ∀ r ∈ l, r.text.size ≤ 3000) (ht : (symsR l).length ≤ 100000) :
    Calls Try.prog 27 #[.slice a n c] w fun e w' => ∃ (a' : Option Addr) (c' : Nat), e = .returned (.tuple #[.slice a' R.length c', .int .i64 E]) ∧ Sl w' 2 a' R.length c' (R.flatMap sc) ∧ Below w.heap.size w w' := by
  have := ref_Symbols l a n c w hs hl hz ht
  rw [hE, hR] at this
  exact this
theorem runs_at {l : List Sy} {R : List Rn} (hR : runsL l = R) (a : Option Addr) (n c : Nat) (w : World) (hs : Sl w 2 a n c (l.flatMap sc)) (hl : l.length ≤ 100000) :
    Calls Try.prog 29 #[.slice a n c] w fun e w' => ∃ (a' : Option Addr) (c' : Nat), e = .returned (.slice a' R.length c') ∧ Sl w' 2 a' R.length c' (R.flatMap rnc) ∧ Below w.heap.size w w' := by
  have := tab_Runs l a n c w hs hl
  rw [hR] at this
  exact this
theorem rruns_at {l : List Sy} {R : List Rn} (hR : runsL l = R) (a : Option Addr) (n c : Nat) (w : World) (hs : Sl w 2 a n c (l.flatMap sc)) (hl : l.length ≤ 100000) :
    Calls Try.prog 24 #[.slice a n c] w fun e w' => ∃ (a' : Option Addr) (c' : Nat), e = .returned (.slice a' R.length c') ∧ Sl w' 2 a' R.length c' (R.flatMap rnc) ∧ Below w.heap.size w w' := by
  have := ref_Runs l a n c w hs hl
  rw [hR] at this
  exact this
set_option maxRecDepth 100000 in
set_option maxHeartbeats 8000000 in
theorem walk_TableTexts (l : List Rn) (al : Option Addr) (ln lc : Nat) (m : List Sy) (am : Option Addr) (mn mc : Nat) (kk : List Int) (ak : Option Addr) (kn kc : Nat) (ch : UInt8) (n : Int) (w : World) (hsl : Sl w 2 al ln lc (l.flatMap rnc)) (hlz : ∀ r ∈ l, r.text.size ≤ reachBytes)
    (hsm : Sl w 2 am mn mc (m.flatMap sc)) (hsk : Sl w 1 ak kn kc (kk.map I64)) (hkb : ∀ x ∈ kk, -9223372036854775808 ≤ x ∧ x ≤ 9223372036854775807) (hn : -9223372036854775808 ≤ n ∧ n ≤ 9223372036854775807) :
    Calls Try.prog 7 #[.slice al ln lc, .slice am mn mc, .slice ak kn kc, .int .u8 (ch.toNat : Int), .int .i64 n] w fun e w' => e = .returned (.bool true) ∧ Below w.heap.size w w' := by
  have HLZ := hide hlz
  have HKB := hide hkb
  have HN := hide hn
  clear hlz hkb hn
  obtain ⟨S, HSS⟩ : ∃ S, Hid (symsL kk = S) := ⟨_, hide rfl⟩
  have hSok := symsL_ok kk
  rw [HSS.out] at hSok
  have hS24 := hSok.2
  obtain ⟨QS, HQS⟩ : ∃ Q, Hid (runsL S = Q) := ⟨_, hide rfl⟩
  have hQ1 : QS.length ≤ 24 := by rw [← HQS.out]; exact Nat.le_trans (runsL_len S) hS24
  have HQ2 : Hid (∀ r ∈ QS, r.text.size ≤ 24) := hide (by rw [← HQS.out]; exact fun r hr => Nat.le_trans (runsL_text hr) hS24)
  have HQ3 : Hid ((symsR QS).length ≤ 24) := hide (by rw [← HQS.out]; exact Nat.le_trans (runsL_syms S) hS24)
  clear hSok
  go_enter Try.func7, Try.ntmps7
  go_wp2_with fail
  refine (law_runs l al ln lc w hsl HLZ.out).mono ?_
  rintro e w1 ⟨rs1, a1, c1, rfl, h1, h1l, h1z, hb1⟩
  have H1Z := hide h1z
  clear h1z hsl
  go_wp2_with fail
  refine (ref_Syms kk HKB.out ak kn kc w1 (hsk.below hb1)).mono ?_
  rintro e w2 ⟨a2, c2, rfl, hO2, hb2⟩
  rw [HSS.out] at hO2 ⊢
  have hB2 := hb1.trans (hb2.mono hb1.size)
  have h12 := h1.below hb2
  clear h1 hb1 hb2
  go_wp2_with fail
  refine (rruns_at HQS.out a2 S.length c2 w2 hO2.sl (by omega)).mono ?_
  rintro e w3 ⟨a2, c2, rfl, h2, hb3⟩
  have hB3 := hB2.trans (hb3.mono hB2.size)
  have h13 := h12.below hb3
  clear h12 hB2 hb3 hO2
  go_wp2_with fail
  refine (law_long n HN.out w3).mono ?_
  rintro e w4 ⟨rs3, a3, c3, rfl, h3, h3l, h3z, hb4⟩
  have H3Z := hide h3z
  have hB4 := hB3.trans (hb4.mono hB3.size)
  have h14 := h13.below hb4
  have h24 := h2.below hb4
  clear h13 h2 hB3 hb4 h3z
  obtain ⟨rs2, hrs2⟩ : ∃ rs2, rs2 = QS := ⟨_, rfl⟩
  rw [← hrs2] at h24 ⊢
  have HRS2 := hide hrs2
  clear hrs2
  have hbxL := Box.new w4 60 #[.slice a1 rs1.length c1, .slice a2 rs2.length c2, .slice a3 rs3.length c3, .slice none 0 0]
  have al := blo w4 (.cells #[.slice a1 rs1.length c1, .slice a2 rs2.length c2, .slice a3 rs3.length c3, .slice none 0 0] 60)
  have h15 := h14.below al
  have h25 := h24.below al
  have h35 := h3.below al
  have hB5 := hB4.trans (al.mono hB4.size)
  clear h14 h24 h3 hB4 al
  go_wp2_with fail
  generalize w4.alloc (.cells _ 60) = w5 at *
  obtain ⟨gL, hgL⟩ : ∃ g, g = w4.heap.size := ⟨_, rfl⟩
  rw [← hgL] at hbxL ⊢
  clear hgL
  have HALL : Hid (∀ k, k < 4 → ∃ (rs : List Rn) (a : Option Addr) (c : Nat), ([.slice a1 rs1.length c1, .slice a2 rs2.length c2, .slice a3 rs3.length c3, .slice none 0 0] : List Value)[k]? = some (.slice a rs.length c) ∧ Sl w5 2 a rs.length c (rs.flatMap rnc) ∧ rs.length ≤ 3000 ∧ (∀ r ∈ rs, r.text.size ≤ 3000) ∧ (symsR rs).length ≤ 100000) := hide (by
    intro k hk
    rcases k with _ | _ | _ | _ | k
    · exact ⟨rs1, a1, c1, rfl, h15, by omega, fun r hr => Nat.le_trans (H1Z.out r hr) (by decide), Nat.le_trans (symsR_le rs1 H1Z.out) (by omega)⟩
    · refine ⟨rs2, a2, c2, rfl, h25, ?_, ?_, ?_⟩
      · rw [HRS2.out]; omega
      · rw [HRS2.out]; exact fun r hr => Nat.le_trans (HQ2.out r hr) (by decide)
      · rw [HRS2.out]; exact Nat.le_trans HQ3.out (by decide)
    · exact ⟨rs3, a3, c3, rfl, h35, by omega, H3Z.out, Nat.le_trans (symsR_le rs3 H3Z.out) (by omega)⟩
    · exact ⟨[], none, 0, rfl, Sl.empty _ _, by simp, (fun r hr => by simp at hr), by simp [symsR]⟩
    · omega)
  clear h15 h25 h35
  go_loopg [12] 4 (fun gh v w' => ∃ k : Nat, k ≤ 4 ∧ gh = 4 - k ∧ v = .int .i64 (k : Int) ∧ Below w5.heap.size w5 w')
  case atStart => exact ⟨0, by omega, by omega, rfl, Below.refl _ _⟩
  case round =>
    obtain ⟨k, hk, hgk, rfl, hbk⟩ := hrel
    have HGK := hide hgk
    clear hgk
    by_cases hk4 : k < 4
    · obtain ⟨rs, a, c, hck, hrs, hrl, hrz, hrt⟩ := HALL.out k hk4
      have hcell : wr.cell? ⟨gL, k, none⟩ = some (.slice a rs.length c) := (hbxL.under hbk).at_ hck
      have hrsr := hrs.below hbk
      have HCELL := hide hcell
      have HRZ := hide hrz
      have HRT := hide hrt
      have f1 : decide (k < 4) = true := decide_eq_true hk4
      have f1' : decide ((k : Int) < 4) = true := decide_eq_true (by omega)
      obtain ⟨E, HE⟩ : ∃ E, Hid (symE rs = E) := ⟨_, hide rfl⟩
      obtain ⟨R, HR⟩ : ∃ R, Hid (symL rs = R) := ⟨_, hide rfl⟩
      have hg := symL_good rs
      rw [HR.out] at hg
      have hRl := hg.2
      have hbk2 := symE_back hg.1 hg.2
      obtain ⟨Q, HQ⟩ : ∃ Q, Hid (runsL R = Q) := ⟨_, hide rfl⟩
      rw [HQ.out] at hbk2
      have HBE := hide hbk2.1
      have HBL := hide hbk2.2
      have hQl : Q.length ≤ 3000 := by rw [← HQ.out]; exact Nat.le_trans (runsL_len R) (by omega)
      have HQZ : Hid (∀ r ∈ Q, r.text.size ≤ 3000) := hide (by rw [← HQ.out]; exact fun r hr => Nat.le_trans (runsL_text hr) (by omega))
      clear hck hrs hrz hrt hg hbk2
      go_wp2_with fail
      refine (sym_at HE.out HR.out a rs.length c wr hrsr hrl HRZ.out).mono ?_
      rintro e wa ⟨aA, cA, rfl, hA, hba⟩
      have hcell := cell_below HCELL.out hba
      have hrsa := hrsr.below hba
      have hbwa := hbk.trans (hba.mono hbk.size)
      clear hrsr hbk hba
      go_wp2_with fail
      refine (rsym_at HE.out HR.out a rs.length c wa hrsa hrl HRZ.out HRT.out).mono ?_
      rintro e wb ⟨aB, cB, rfl, hB, hbb⟩
      have hAb := hA.below hbb
      have hbwb := hbwa.trans (hbb.mono hbwa.size)
      have hee : (E != E) = false := by simp
      clear hA hrsa hbwa hbb hcell
      go_wp2_with fail
      refine (ref_SameSyms R aA aB R.length cA cB wb hAb hB).mono ?_
      rintro e wc ⟨rfl, hbc⟩
      have hAc := hAb.below hbc
      have hbwc := hbwb.trans (hbc.mono hbwb.size)
      clear hAb hB hbwb hbc hee
      go_wp2_with fail
      refine (runs_at HQ.out aA R.length cA wc hAc (by omega)).mono ?_
      rintro e wd ⟨aD, cD, rfl, hD, hbd⟩
      have hAd := hAc.below hbd
      have hbwd := hbwc.trans (hbd.mono hbwc.size)
      clear hAc hbwc hbd
      go_wp2_with fail
      refine (sym_at HBE.out HBL.out aD Q.length cD wd hD hQl HQZ.out).mono ?_
      rintro e we ⟨aE, cE, rfl, hE, hbe⟩
      have hAe := hAd.below hbe
      have hbwe := hbwd.trans (hbe.mono hbwd.size)
      clear hD hAd hbwd hbe
      by_cases hE0 : E = 0
      · have ze : (E == 0) = true := by simpa using hE0
        clear hE0
        go_wp2_with fail
        refine (ref_SameSyms R aE aA R.length cE cA we hE hAe).mono ?_
        rintro e wf ⟨rfl, hbf⟩
        have hbwf := hbwe.trans (hbf.mono hbwe.size)
        go_wp2_with fail
        go_roundg (4 - (k + 1))
        case measure => have := HGK.out; omega
        case rel => exact ⟨k + 1, by omega, rfl, by go_num, hbwf⟩
      · have ze : (E == 0) = false := by simpa using hE0
        clear hE0
        go_wp2_with fail
        go_roundg (4 - (k + 1))
        case measure => have := HGK.out; omega
        case rel => exact ⟨k + 1, by omega, rfl, by go_num, hbwe⟩
    · obtain rfl : k = 4 := by omega
      have hBr := hB5.trans (hbk.mono hB5.size)
      have hmr := hsm.below hBr
      have hskr := hsk.below hBr
      clear hsm hsk hB5 hbxL hbk HALL
      go_wp2_with fail
      refine (law_raw m am mn mc wr hmr).mono ?_
      rintro e w7 ⟨rfl, hR6, rfl⟩
      obtain ⟨T, hT⟩ : ∃ R, R = m.take 40 := ⟨_, rfl⟩
      rw [← hT] at hR6
      have hT40 : T.length ≤ 100000 := by rw [hT, List.length_take]; omega
      obtain ⟨QT, HQT⟩ : ∃ Q, Hid (runsL T = Q) := ⟨_, hide rfl⟩
      clear hT hmr
      have hL1 := fun w' => tab_Letter ch w'
      have hL2 := fun w' => ref_Letter ch w'
      unfold LetterR at hL1 hL2
      generalize isL ch = b1 at hL1 hL2
      generalize isC ch = b2 at hL1 hL2
      generalize low ch = c9 at hL1 hL2
      have e1 : ((c9.toNat : Int) != (c9.toNat : Int)) = false := by simp
      have e2 : (b1 != b1) = false := by simp
      have e3 : (b2 != b2) = false := by simp
      go_wp2_with (first
        | (go_at_call 30; refine (hL1 _).mono ?_; rintro e w2 ⟨rfl, rfl⟩)
        | (go_at_call 31; refine (hL2 _).mono ?_; rintro e w2 ⟨rfl, rfl⟩))
      clear e1 e2 e3 hL1 hL2
      refine (runs_at HQT.out am (min mn 40) mc wr hR6 hT40).mono ?_
      rintro e wa ⟨aA, cA, rfl, hA, hba⟩
      have hR7 := hR6.below hba
      have hBa := hBr.trans (hba.mono hBr.size)
      have hska := hskr.below hba
      clear hR6 hBr hskr hba
      go_wp2_with fail
      refine (rruns_at HQT.out am (min mn 40) mc wa hR7 hT40).mono ?_
      rintro e wb ⟨aB, cB, rfl, hB, hbb⟩
      have hAb := hA.below hbb
      have hBb := hBa.trans (hbb.mono hBa.size)
      have hskb := hska.below hbb
      clear hA hR7 hBa hska hbb
      go_wp2_with fail
      refine (law_sameRuns QT aA aB QT.length cA cB wb hAb hB).mono ?_
      rintro e wc ⟨rfl, hbc⟩
      have hBc := hBb.trans (hbc.mono hBb.size)
      have hskc := hskb.below hbc
      clear hAb hB hBb hskb hbc
      go_wp2_with fail
      refine (ref_Syms kk HKB.out ak kn kc wc hskc).mono ?_
      rintro e wd ⟨aS, cS, rfl, hOS, hbd⟩
      rw [HSS.out] at hOS ⊢
      have hBd := hBc.trans (hbd.mono hBc.size)
      have hskd := hskc.below hbd
      clear hBc hskc hbd
      go_wp2_with fail
      refine (runs_at HQS.out aS S.length cS wd hOS.sl (by omega)).mono ?_
      rintro e we ⟨aE, cE, rfl, hE, hbe⟩
      have hBe := hBd.trans (hbe.mono hBd.size)
      have hske := hskd.below hbe
      clear hBd hskd hbe hOS
      go_wp2_with fail
      refine (ref_Syms kk HKB.out ak kn kc we hske).mono ?_
      rintro e wf ⟨aS2, cS2, rfl, hOS2, hbf⟩
      rw [HSS.out] at hOS2 ⊢
      have hBf := hBe.trans (hbf.mono hBe.size)
      have hEf := hE.below hbf
      clear hE hBe hske hbf
      go_wp2_with fail
      refine (rruns_at HQS.out aS2 S.length cS2 wf hOS2.sl (by omega)).mono ?_
      rintro e wg ⟨aG, cG, rfl, hG, hbg⟩
      have hBg := hBf.trans (hbg.mono hBf.size)
      have hEg := hEf.below hbg
      clear hEf hBf hOS2 hbg
      go_wp2_with fail
      refine (law_sameRuns QS aE aG QS.length cE cG wg hEg hG).mono ?_
      rintro e wh ⟨rfl, hbh⟩
      have hBh := hBg.trans (hbh.mono hBg.size)
      go_wp2_with fail
      refine (law06_lives _).mono ?_
      rintro e wi ⟨rfl, hbi⟩
      go_wp2_with fail
      go_ret
      exact ⟨rfl, hBh.trans (hbi.mono hBh.size)⟩
open Go.WideShapes Go.ChangeShapes in
theorem u8_of6 {z : Int} (hz : (Lit.int .u8 z).wf = true) : ∃ u : UInt8, z = (u.toNat : Int) := by
  have hb : 0 ≤ z ∧ z ≤ 255 := bounds_u8 hz
  refine ⟨UInt8.ofNat z.toNat, ?_⟩
  rw [UInt8.toNat_ofNat']
  omega
theorem walk_TableTexts2 (l : List Rn) (al : Option Addr) (ln lc : Nat) (m : List Sy) (am : Option Addr) (mn mc : Nat) (kk : List Int) (ak : Option Addr) (kn kc : Nat) (z n : Int) (w : World) (hz : (Lit.int .u8 z).wf = true) (hsl : Sl w 2 al ln lc (l.flatMap rnc)) (hlz : ∀ r ∈ l, r.text.size ≤ reachBytes)
    (hsm : Sl w 2 am mn mc (m.flatMap sc)) (hsk : Sl w 1 ak kn kc (kk.map I64)) (hkb : ∀ x ∈ kk, -9223372036854775808 ≤ x ∧ x ≤ 9223372036854775807) (hn : -9223372036854775808 ≤ n ∧ n ≤ 9223372036854775807) :
    Calls Try.prog 7 #[.slice al ln lc, .slice am mn mc, .slice ak kn kc, .int .u8 z, .int .i64 n] w fun e w' => e = .returned (.bool true) ∧ Below w.heap.size w w' := by
  obtain ⟨u, rfl⟩ := u8_of6 hz
  exact walk_TableTexts l al ln lc m am mn mc kk ak kn kc u n w hsl hlz hsm hsk hkb hn
end Go.Proofs.Ytkjcbneanaeleaa
end
