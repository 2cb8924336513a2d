/- The contracts of the functions that the law reaches, joined into one text. -/
import Derived.Test.YtlpkicjijlcbfaaBaseCA
import Derived.Lib.Strings
import Derived.WideShapes
set_option linter.unusedVariables false
set_option linter.unusedSimpArgs false

section
namespace Go.Proofs.Ytlpkicjijlcbfaa
open Go.RowKit Go.Dx

theorem neq_nat {a b : Nat} (h : a ≠ b) : ((a : Int) != (b : Int)) = true := by simp; omega
theorem eq_nat {a b : Nat} (h : a = b) : ((a : Int) != (b : Int)) = false := by simp; omega

theorem same_step {l1 l2 : List UInt8} {k : Nat} {x y : UInt8} (hx : l1[k]? = some x) (hy : l2[k]? = some y) (h : l1.take k = l2.take k) : (x = y ↔ l1.take (k + 1) = l2.take (k + 1)) := by
 rw [List.take_add_one, List.take_add_one, hx, hy, h]; simp
theorem ne_of_take {l1 l2 : List UInt8} {k : Nat} (h : l1.take k ≠ l2.take k) : l1 ≠ l2 := fun e => h (by rw [e])

set_option maxHeartbeats 400000 in
theorem ref_Same (l1 l2 : List UInt8) (a1 a2 : Option Addr) (n1 n2 c1 c2 : Nat) (w : World) (h1 : Sl w 1 a1 n1 c1 (l1.map B8)) (h2 : Sl w 1 a2 n2 c2 (l2.map B8)) :
  Calls Try.prog 20 #[.slice a1 n1 c1, .slice a2 n2 c2] w (Still (.bool (decide (l1 = l2))) w) := by
 obtain rfl := h1.n_eq
 obtain rfl := h2.n_eq
 have hm1 := Nat.le_trans h1.le h1.cap
 have hm2 := Nat.le_trans h2.le h2.cap
 unfold maxLen at hm1 hm2
 by_cases hlen : l1.length = l2.length
 ·have hb := eq_nat hlen
  have hle1 : l1.length ≤ l2.length := by omega
  have hle2 : l2.length ≤ l1.length := by omega
  have HL := hide hlen
  clear hlen
  go_enter Try.func20, Try.ntmps20
  go_wp2
  go_loopg [5] l1.length (fun g i w' => ∃ (k n : Nat), k ≤ l1.length ∧ g = l1.length - k ∧ l1.take k = l2.take k ∧ i = .int .i64 k ∧ w' = w.drewN n)
  case atStart => exact ⟨0, 0, by omega, by omega, rfl, rfl, rfl⟩
  case round =>
   obtain ⟨k, nq, hk, hg, ht, rfl, rfl⟩ := hrel
   have HG := hide hg
   have HT := hide ht
   clear hg ht
   by_cases hkl : k < l1.length
   ·obtain ⟨b1, o1, rfl, hb1, hc1⟩ := h1.ex (by simp; omega)
    obtain ⟨b2, o2, rfl, hb2, hc2⟩ := h2.ex (by simp; omega)
    obtain ⟨x, hx⟩ : ∃ x, l1[k]? = some x := ⟨l1[k], by simp [hkl]⟩
    obtain ⟨y, hy⟩ : ∃ y, l2[k]? = some y := ⟨l2[k]'(by omega), by simp⟩
    have hx1 : w.cell? ⟨b1, o1 + k, none⟩ = some (.int .u8 (x.toNat : Int)) := hc1 k _ (by rw [List.getElem?_map, hx]; rfl)
    have hy1 : w.cell? ⟨b2, o2 + k, none⟩ = some (.int .u8 (y.toNat : Int)) := hc2 k _ (by rw [List.getElem?_map, hy]; rfl)
    have HX := hide (same_step hx hy HT.out)
    clear hc1 hc2 hx hy
    by_cases hxy : x = y
    ·have HE := hide (HX.out.1 hxy)
     subst hxy
     have hn : ((x.toNat : Int) != (x.toNat : Int)) = false := by simp
     go_wp2
     go_quiet (fail)
     go_wp2
     go_roundg (l1.length - (k + 1))
     case measure => have := HG.out; omega
     case rel => exact ⟨k + 1, _, by omega, rfl, HE.out, by go_num, by first | rfl | exact World.drewN_drewN _ _ _⟩
    ·have hn : ((x.toNat : Int) != (y.toNat : Int)) = true := neq_nat (fun e => hxy (UInt8.toNat_inj.1 e))
     have HE := hide (ne_of_take (fun e => hxy (HX.out.2 e)))
     have hne : Value.bool (decide (l1 = l2)) = .bool false := by rw [decide_eq_false HE.out]
     have HN := hide hne
     clear hne hxy
     go_wp2
     go_quiet (fail)
     go_wp2
     go_ret
     exact ⟨by rw [HN.out]; rfl, _, World.drewN_drewN _ _ _⟩
   ·obtain rfl : k = l1.length := by omega
    go_wp2
    go_ret
    have : l1 = l2 := by have := HT.out; rw [List.take_length, List.take_of_length_le (by omega)] at this; exact this
    exact ⟨by rw [decide_eq_true this]; rfl, _, rfl⟩
 ·have hb := neq_nat hlen
  have HN := hide (decide_eq_false (fun e : l1 = l2 => hlen (by rw [e])))
  clear hlen
  go_enter Try.func20, Try.ntmps20
  go_wp2
  go_ret
  exact ⟨by rw [HN.out]; rfl, 0, rfl⟩



end Go.Proofs.Ytlpkicjijlcbfaa
end

section
namespace Go.Proofs.Ytlpkicjijlcbfaa
open Go.RowKit Go.Dx

end Go.Proofs.Ytlpkicjijlcbfaa
end

section
namespace Go.Proofs.Ytlpkicjijlcbfaa
open Go.RowKit Go.Dx

end Go.Proofs.Ytlpkicjijlcbfaa
end

section
namespace Go.Proofs.Ytlpkicjijlcbfaa
open Go.RowKit Go.Dx

theorem neq_int {a b : Int} (h : a ≠ b) : (a != b) = true := by simp [h]

end Go.Proofs.Ytlpkicjijlcbfaa
end

section
namespace Go.Proofs.Ytlpkicjijlcbfaa
open Go.RowKit Go.Dx

end Go.Proofs.Ytlpkicjijlcbfaa
end

section
namespace Go.Proofs.Ytlpkicjijlcbfaa
open Go.RowKit Go.Dx

end Go.Proofs.Ytlpkicjijlcbfaa
end

section
namespace Go.Proofs.Ytlpkicjijlcbfaa
open Go.RowKit Go.Dx

end Go.Proofs.Ytlpkicjijlcbfaa
end

section
namespace Go.Proofs.Ytlpkicjijlcbfaa
open Go.RowKit Go.Dx

theorem same_step' {α : Type} {l1 l2 : List α} {k : Nat} {x y : α} (hx : l1[k]? = some x) (hy : l2[k]? = some y) (h : l1.take k = l2.take k) : (x = y ↔ l1.take (k + 1) = l2.take (k + 1)) := by
 rw [List.take_add_one, List.take_add_one, hx, hy, h]; simp
theorem ne_of_take' {α : Type} {l1 l2 : List α} {k : Nat} (h : l1.take k ≠ l2.take k) : l1 ≠ l2 := fun e => h (by rw [e])

set_option maxHeartbeats 400000 in
theorem ref_SameInts (l1 l2 : List Int) (a1 a2 : Option Addr) (n1 n2 c1 c2 : Nat) (w : World) (h1 : Sl w 1 a1 n1 c1 (l1.map I64)) (h2 : Sl w 1 a2 n2 c2 (l2.map I64)) :
  Calls Try.prog 26 #[.slice a1 n1 c1, .slice a2 n2 c2] w (Still (.bool (decide (l1 = l2))) w) := by
 obtain rfl := h1.n_eq
 obtain rfl := h2.n_eq
 have hm1 := Nat.le_trans h1.le h1.cap
 have hm2 := Nat.le_trans h2.le h2.cap
 unfold maxLen at hm1 hm2
 by_cases hlen : l1.length = l2.length
 ·have hb := eq_nat hlen
  have hle1 : l1.length ≤ l2.length := by omega
  have hle2 : l2.length ≤ l1.length := by omega
  have HL := hide hlen
  clear hlen
  go_enter Try.func26, Try.ntmps26
  go_wp2
  go_loopg [5] l1.length (fun g i w' => ∃ (k n : Nat), k ≤ l1.length ∧ g = l1.length - k ∧ l1.take k = l2.take k ∧ i = .int .i64 k ∧ w' = w.drewN n)
  case atStart => exact ⟨0, 0, by omega, by omega, rfl, rfl, rfl⟩
  case round =>
   obtain ⟨k, nq, hk, hg, ht, rfl, rfl⟩ := hrel
   have HG := hide hg
   have HT := hide ht
   clear hg ht
   by_cases hkl : k < l1.length
   ·obtain ⟨b1, o1, rfl, hb1, hc1⟩ := h1.ex (by simp; omega)
    obtain ⟨b2, o2, rfl, hb2, hc2⟩ := h2.ex (by simp; omega)
    obtain ⟨x, hx⟩ : ∃ x, l1[k]? = some x := ⟨l1[k], by simp [hkl]⟩
    obtain ⟨y, hy⟩ : ∃ y, l2[k]? = some y := ⟨l2[k]'(by omega), by simp⟩
    have hx1 : w.cell? ⟨b1, o1 + k, none⟩ = some (I64 x) := hc1 k _ (by rw [List.getElem?_map, hx]; rfl)
    have hy1 : w.cell? ⟨b2, o2 + k, none⟩ = some (I64 y) := hc2 k _ (by rw [List.getElem?_map, hy]; rfl)
    have HX := hide (same_step' hx hy HT.out)
    clear hc1 hc2 hx hy
    by_cases hxy : x = y
    ·have HE := hide (HX.out.1 hxy)
     subst hxy
     have hn : (x != x) = false := by simp
     go_wp2
     go_quiet (fail)
     go_wp2
     go_roundg (l1.length - (k + 1))
     case measure => have := HG.out; omega
     case rel => exact ⟨k + 1, _, by omega, rfl, HE.out, by go_num, by first | rfl | exact World.drewN_drewN _ _ _⟩
    ·have hn : (x != y) = true := neq_int hxy
     have HE := hide (ne_of_take' (fun e => hxy (HX.out.2 e)))
     have hne : Value.bool (decide (l1 = l2)) = .bool false := by rw [decide_eq_false HE.out]
     have HN := hide hne
     clear hne hxy
     go_wp2
     go_quiet (fail)
     go_wp2
     go_ret
     exact ⟨by rw [HN.out]; rfl, _, World.drewN_drewN _ _ _⟩
   ·obtain rfl : k = l1.length := by omega
    go_wp2
    go_ret
    have : l1 = l2 := by have := HT.out; rw [List.take_length, List.take_of_length_le (by omega)] at this; exact this
    exact ⟨by rw [decide_eq_true this]; rfl, _, rfl⟩
 ·have hb := neq_nat hlen
  have HN := hide (decide_eq_false (fun e : l1 = l2 => hlen (by rw [e])))
  clear hlen
  go_enter Try.func26, Try.ntmps26
  go_wp2
  go_ret
  exact ⟨by rw [HN.out]; rfl, 0, rfl⟩

end Go.Proofs.Ytlpkicjijlcbfaa
end

section
/- Sequences of decodings. No Go. -/
namespace Go.Dx

end Go.Dx
end

section
namespace Go.Proofs.Ytlpkicjijlcbfaa
open Go.RowKit Go.Dx

end Go.Proofs.Ytlpkicjijlcbfaa
end

section
namespace Go.Proofs.Ytlpkicjijlcbfaa
open Go.RowKit Go.Dx

end Go.Proofs.Ytlpkicjijlcbfaa
end

section
namespace Go.Proofs.Ytlpkicjijlcbfaa
open Go.RowKit Go.Dx

section
variable {w : World} {ops : Array Oper} {rest : List Oper} {act : Act} {Q : Exit → Act → World → Prop} {ty : TypeId} {pos : String} {after : Array Edge}
end
section
variable {w : World} {ops : Array Oper} {rest : List Oper} {o : Oper} {act : Act} {Q : Exit → Act → World → Prop}
end
end Go.Proofs.Ytlpkicjijlcbfaa
end

section
namespace Go.Proofs.Ytlpkicjijlcbfaa
open Go.RowKit Go.Dx

end Go.Proofs.Ytlpkicjijlcbfaa
end

section
namespace Go.Proofs.Ytlpkicjijlcbfaa
open Go.RowKit Go.Dx

end Go.Proofs.Ytlpkicjijlcbfaa
end

section
namespace Go.Proofs.Ytlpkicjijlcbfaa
open Go.RowKit Go.Dx

end Go.Proofs.Ytlpkicjijlcbfaa
end

section
namespace Go.Proofs.Ytlpkicjijlcbfaa
open Go.RowKit Go.Dx

end Go.Proofs.Ytlpkicjijlcbfaa
end

section
namespace Go.Proofs.Ytlpkicjijlcbfaa
open Go.RowKit Go.Dx

section
variable {w : World} {ops : Array Oper} {rest : List Oper} {act : Act} {Q : Exit → Act → World → Prop} {ty : TypeId} {pos : String} {after : Array Edge} {g : Option (Nat × Bool)}
end
theorem L1 : #[Value.int .u8 130, .int .u8 1, .int .u8 0, .int .u8 9] = (List.map B8 [130, 1, 0, 9]).toArray := by rfl
end Go.Proofs.Ytlpkicjijlcbfaa
end

section
namespace Go.Proofs.Ytlpkicjijlcbfaa
open Go.RowKit Go.Dx
section
variable {w : World} {ops : Array Oper} {rest : List Oper} {o : Oper} {act : Act} {Q : Exit → Act → World → Prop} {ty : TypeId} {pos : String} {after : Array Edge}
end
end Go.Proofs.Ytlpkicjijlcbfaa
end

section
namespace Go.Proofs.Ytlpkicjijlcbfaa
open Go.RowKit Go.Dx

end Go.Proofs.Ytlpkicjijlcbfaa
end

section
namespace Go.Proofs.Ytlpkicjijlcbfaa
open Go.RowKit Go.Dx

def fnv (k : Nat) : Value := .func (.func k) #[] #[]

theorem any_take_no {α : Type} {p : α → Bool} {l : List α} {k : Nat} {x : α} (h : l[k]? = some x) (h0 : (l.take k).any p = false) (hx : p x = false) : (l.take (k + 1)).any p = false := by
 rw [List.take_add_one, h, List.any_append, h0]; simp [hx]
theorem any_of_get {α : Type} {p : α → Bool} {l : List α} {k : Nat} {x : α} (h : l[k]? = some x) (hx : p x = true) : l.any p = true :=
 List.any_eq_true.2 ⟨x, List.mem_of_getElem? h, hx⟩

end Go.Proofs.Ytlpkicjijlcbfaa
end

section
/- Plain laws on dots and cells: no program in sight. -/
namespace Go.Proofs.Ytlpkicjijlcbfaa
open Go.RowKit Go.Dx

end Go.Proofs.Ytlpkicjijlcbfaa
end

section
/- Chapter 06: cells, indicator; the reference's Cells; word and Small. -/
namespace Go.Proofs.Ytlpkicjijlcbfaa
open Go.RowKit Go.Dx

def badC (c : UInt8) : Bool := !cellOk c
def noS (c : UInt8) : Bool := !isS c
theorem okCells_eq (l : List UInt8) : okCells l = !l.any badC := by
 unfold okCells
 rw [Bool.eq_iff_iff]; simp [List.all_eq_true, badC]
theorem small_eq (s : ByteArray) : small s = !(chars s).any noS := by
 unfold small
 rw [Bool.eq_iff_iff]; simp [List.all_eq_true, noS]
theorem badC_lo {c : UInt8} (h : c.toNat < 1) : badC c = true := by unfold badC cellOk; simp; omega
theorem badC_hi {c : UInt8} (h : 63 < c.toNat) : badC c = true := by unfold badC cellOk; simp; omega
theorem badC_no {c : UInt8} (h : 1 ≤ c.toNat) (h2 : c.toNat ≤ 63) : badC c = false := by unfold badC cellOk; simp; omega
theorem noS_lo {c : UInt8} (h : c.toNat < 97) : noS c = true := by unfold noS isS; simp; omega
theorem noS_hi {c : UInt8} (h : 122 < c.toNat) : noS c = true := by unfold noS isS; simp; omega
theorem noS_no {c : UInt8} (h : 97 ≤ c.toNat) (h2 : c.toNat ≤ 122) : noS c = false := by unfold noS isS; simp; omega

set_option maxHeartbeats 400000 in
theorem cells_1 (c : UInt8) (w : World) : Calls Try.prog 96 #[.int .u8 (c.toNat : Int)] w fun e w' => e = .returned (.bool (badC c)) ∧ w = w' := by
 by_cases h1 : c.toNat < 1
 ·have d1 : decide ((c.toNat : Int) < 1) = true := decide_eq_true (by omega)
  have HE := hide (badC_lo h1)
  clear h1
  go_enter Try.func96, Try.ntmps96
  go_wp2_with fail
  go_ret
  exact ⟨by rw [HE.out]; rfl, rfl⟩
 ·have d1 : decide ((c.toNat : Int) < 1) = false := decide_eq_false (by omega)
  by_cases h2 : 63 < c.toNat
  ·have d2 : decide (63 < (c.toNat : Int)) = true := decide_eq_true (by omega)
   have HE := hide (badC_hi h2)
   clear h1 h2
   go_enter Try.func96, Try.ntmps96
   go_wp2_with fail
   go_ret
   exact ⟨by rw [HE.out]; rfl, rfl⟩
  ·have d2 : decide (63 < (c.toNat : Int)) = false := decide_eq_false (by omega)
   have HE := hide (badC_no (show 1 ≤ c.toNat by omega) (by omega))
   clear h1 h2
   go_enter Try.func96, Try.ntmps96
   go_wp2_with fail
   go_ret
   exact ⟨by rw [HE.out]; rfl, rfl⟩

set_option maxHeartbeats 400000 in
theorem index_b (l : List UInt8) (a : Option Addr) (n c : Nat) (w : World) (hs : Sl w 1 a n c (l.map B8)) :
  Calls Try.prog 103 #[.slice a n c, fnv 96] w fun e w' => ∃ i : Int, e = .returned (.int .i64 i) ∧ decide (0 ≤ i) = l.any badC ∧ w = w' := by
 unfold fnv
 obtain rfl := hs.n_eq
 have hm1 := Nat.le_trans hs.le hs.cap
 unfold maxLen at hm1
 go_enter Try.func103, Try.ntmps103
 go_wp2_with fail
 go_loopg [8] l.length (fun g i w' => ∃ (k : Nat), k ≤ l.length ∧ g = l.length - k ∧ (l.take k).any badC = false ∧ i = .int .i64 k ∧ w = w')
 case atStart => exact ⟨0, by omega, by omega, rfl, rfl, rfl⟩
 case round =>
  obtain ⟨k, hk, hg, ht, rfl, rfl⟩ := hrel
  have HG := hide hg
  have HT := hide ht
  clear hg ht
  by_cases hkl : k < l.length
  ·obtain ⟨x, hx⟩ : ∃ x, l[k]? = some x := ⟨l[k], by simp [hkl]⟩
   have HH := hide hx
   clear hx
   have hc := cells_1 x w
   cases hq : badC x
   ·have HN := hide (any_take_no HH.out HT.out hq)
    rw [hq] at hc
    clear hq
    go_wp2_with (first
     | (with_reducible refine idx_b 14 _ _ _ _ _ _ rfl hs _ _ k rfl rfl _ HH.out ?_; intro b o hcell hbo)
     | (go_at_call 96; refine hc.mono ?_; rintro e w2 ⟨rfl, rfl⟩))
    go_roundg (l.length - (k + 1))
    case measure => have := HG.out; omega
    case rel => exact ⟨k + 1, by omega, rfl, HN.out, by go_num, rfl⟩
   ·have HN := hide (any_of_get HH.out hq)
    rw [hq] at hc
    clear hq
    go_wp2_with (first
     | (with_reducible refine idx_b 14 _ _ _ _ _ _ rfl hs _ _ k rfl rfl _ HH.out ?_; intro b o hcell hbo)
     | (go_at_call 96; refine hc.mono ?_; rintro e w2 ⟨rfl, rfl⟩))
    go_ret
    exact ⟨_, rfl, by rw [HN.out]; exact decide_eq_true (by omega), rfl⟩
  ·obtain rfl : k = l.length := by omega
   go_wp2
   go_ret
   have := HT.out
   rw [List.take_length] at this
   exact ⟨_, rfl, by rw [this]; rfl, rfl⟩
set_option maxHeartbeats 400000 in
theorem contains_b (l : List UInt8) (a : Option Addr) (n c : Nat) (w : World) (hs : Sl w 1 a n c (l.map B8)) :
  Calls Try.prog 95 #[.slice a n c, fnv 96] w fun e w' => e = .returned (.bool (l.any badC)) ∧ w = w' := by
 have hc := index_b l a n c w hs
 unfold fnv at hc ⊢
 go_enter Try.func95, Try.ntmps95
 go_wp2_with (go_at_call 103; refine hc.mono ?_; rintro e w2 ⟨i, rfl, hi, rfl⟩)
 go_ret
 exact ⟨by rw [← hi]; rfl, rfl⟩
set_option maxHeartbeats 400000 in
theorem tab_cells (l : List UInt8) (a : Option Addr) (n c : Nat) (w : World) (hs : Sl w 1 a n c (l.map B8)) :
  Calls Try.prog 78 #[.slice a n c] w fun e w' => e = .returned (.bool (okCells l)) ∧ w = w' := by
 have hc := contains_b l a n c w hs
 rw [okCells_eq]
 unfold fnv at hc
 go_enter Try.func78, Try.ntmps78
 go_wp2_with (go_at_call 95; refine hc.mono ?_; rintro e w2 ⟨rfl, rfl⟩)
 go_ret
 exact ⟨rfl, rfl⟩
set_option maxHeartbeats 400000 in
theorem tab_indicator (l : List UInt8) (a : Option Addr) (n c : Nat) (w : World) (hs : Sl w 1 a n c (l.map B8)) :
  Calls Try.prog 79 #[.slice a n c] w fun e w' => e = .returned (.bool (indic l)) ∧ w = w' := by
 have hc := tab_cells l a n c w hs
 have HN := hide hs.n_eq
 by_cases h1 : 1 ≤ n
 ·have d1 : decide (1 ≤ (n : Int)) = true := decide_eq_true (by omega)
  by_cases h2 : n ≤ 4
  ·have d2 : decide ((n : Int) ≤ 4) = true := decide_eq_true (by omega)
   have HE : Hid (indic l = okCells l) := hide (by unfold indic; rw [← HN.out]; simp [h1, h2])
   generalize okCells l = v at hc HE
   clear h1 h2
   go_enter Try.func79, Try.ntmps79
   go_wp2_with (go_at_call 78; refine hc.mono ?_; rintro e w2 ⟨rfl, rfl⟩)
   go_ret
   exact ⟨by rw [HE.out]; rfl, rfl⟩
  ·have d2 : decide ((n : Int) ≤ 4) = false := decide_eq_false (by omega)
   have HE : Hid (indic l = false) := hide (by unfold indic; rw [← HN.out]; simp [h2])
   clear h1 h2 hc
   go_enter Try.func79, Try.ntmps79
   go_wp2_with fail
   go_ret
   exact ⟨by rw [HE.out]; rfl, rfl⟩
 ·have d1 : decide (1 ≤ (n : Int)) = false := decide_eq_false (by omega)
  have HE : Hid (indic l = false) := hide (by unfold indic; rw [← HN.out]; simp [h1])
  clear h1 hc
  go_enter Try.func79, Try.ntmps79
  go_wp2_with fail
  go_ret
  exact ⟨by rw [HE.out]; rfl, rfl⟩

def cellsR (l : List UInt8) (lo hi : Nat) : Bool := okCells l && (decide (lo ≤ l.length) && decide (l.length ≤ hi))
theorem indic_cells (l : List UInt8) : cellsR l 1 4 = indic l := by
 unfold cellsR indic
 cases okCells l <;> simp
set_option maxHeartbeats 400000 in
theorem ref_Cells (l : List UInt8) (a : Option Addr) (n c : Nat) (lo hi : Nat) (vlo vhi : Int) (e1 : (lo : Int) = vlo) (e2 : (hi : Int) = vhi) (w : World) (hs : Sl w 1 a n c (l.map B8)) :
  Calls Try.prog 89 #[.slice a n c, .int .i64 vlo, .int .i64 vhi] w fun e w' => e = .returned (.bool (cellsR l lo hi)) ∧ w = w' := by
 subst e1; subst e2
 obtain rfl := hs.n_eq
 have hm1 := Nat.le_trans hs.le hs.cap
 unfold maxLen at hm1
 obtain ⟨r, HR⟩ : ∃ r, Hid (cellsR l lo hi = r) := ⟨_, hide rfl⟩
 rw [HR.out]
 go_enter Try.func89, Try.ntmps89
 go_wp2_with fail
 go_loopg [7] l.length (fun g i w' => ∃ (k : Nat), k ≤ l.length ∧ g = l.length - k ∧ (l.take k).any badC = false ∧ i = .int .i64 k ∧ w = w')
 case atStart => exact ⟨0, by omega, by omega, rfl, rfl, rfl⟩
 case round =>
  obtain ⟨k, hk, hg, ht, rfl, rfl⟩ := hrel
  have HG := hide hg
  have HT := hide ht
  clear hg ht
  by_cases hkl : k < l.length
  ·obtain ⟨x, hx⟩ : ∃ x, l[k]? = some x := ⟨l[k], by simp [hkl]⟩
   have HH := hide hx
   obtain ⟨b, o, hab, hbw, hcell⟩ := hs.ex (by rw [List.length_map]; omega)
   subst hab
   have cu : w.cell? ⟨b, o + k, none⟩ = some (.int .u8 (x.toNat : Int)) := hcell k _ (by rw [List.getElem?_map, hx]; rfl)
   clear hx hcell
   by_cases h1 : x.toNat < 1
   ·have d1 : decide ((x.toNat : Int) < 1) = true := decide_eq_true (by omega)
    have HE : Hid (r = false) := hide (by rw [← HR.out]; unfold cellsR; rw [okCells_eq, any_of_get HH.out (badC_lo h1)]; rfl)
    clear h1
    go_wp2_with fail
    go_ret
    exact ⟨by rw [HE.out]; rfl, rfl⟩
   ·have d1 : decide ((x.toNat : Int) < 1) = false := decide_eq_false (by omega)
    by_cases h2 : 63 < x.toNat
    ·have d2 : decide (63 < (x.toNat : Int)) = true := decide_eq_true (by omega)
     have HE : Hid (r = false) := hide (by rw [← HR.out]; unfold cellsR; rw [okCells_eq, any_of_get HH.out (badC_hi h2)]; rfl)
     clear h1 h2
     go_wp2_with fail
     go_ret
     exact ⟨by rw [HE.out]; rfl, rfl⟩
    ·have d2 : decide (63 < (x.toNat : Int)) = false := decide_eq_false (by omega)
     have HN := hide (any_take_no HH.out HT.out (badC_no (show 1 ≤ x.toNat by omega) (by omega)))
     clear h1 h2
     go_wp2_with fail
     go_roundg (l.length - (k + 1))
     case measure => have := HG.out; omega
     case rel => exact ⟨k + 1, by omega, rfl, HN.out, by go_num, rfl⟩
  ·obtain rfl : k = l.length := by omega
   have hok : okCells l = true := by
    have := HT.out
    rw [List.take_length] at this
    rw [okCells_eq, this]; rfl
   by_cases h1 : lo ≤ l.length
   ·have d1 : decide (lo ≤ l.length) = true := decide_eq_true h1
    by_cases h2 : l.length ≤ hi
    ·have d2 : decide (l.length ≤ hi) = true := decide_eq_true h2
     have HE : Hid (r = true) := hide (by rw [← HR.out]; unfold cellsR; rw [hok]; simp [h1, h2])
     clear h1 h2 hok
     go_wp2
     go_ret
     exact ⟨by rw [HE.out]; rfl, rfl⟩
    ·have d2 : decide (l.length ≤ hi) = false := decide_eq_false h2
     have HE : Hid (r = false) := hide (by rw [← HR.out]; unfold cellsR; simp [h2])
     clear h1 h2 hok
     go_wp2
     go_ret
     exact ⟨by rw [HE.out]; rfl, rfl⟩
   ·have d1 : decide (lo ≤ l.length) = false := decide_eq_false h1
    have HE : Hid (r = false) := hide (by rw [← HR.out]; unfold cellsR; simp [h1])
    clear h1 hok
    go_wp2
    go_ret
    exact ⟨by rw [HE.out]; rfl, rfl⟩
end Go.Proofs.Ytlpkicjijlcbfaa
end

section
/- Chapter 06: words, rules: plain laws on a rule's error; word and Small. -/
namespace Go.Dx
theorem ru_lo {r : Ru} (h : r.text.size < 1) : ruOk r = false := by unfold ruOk; rw [decide_eq_false (show ¬ 1 ≤ r.text.size by omega)]; rfl
theorem ru_hi {r : Ru} (h : 8 < r.text.size) : ruOk r = false := by unfold ruOk; rw [decide_eq_false (show ¬ r.text.size ≤ 8 by omega)]; simp
theorem ru_w0 {r : Ru} (h : r.whr < 0) : ruOk r = false := by unfold ruOk; rw [decide_eq_false (show ¬ 0 ≤ r.whr by omega)]; simp
theorem ru_w3 {r : Ru} (h : 3 < r.whr) : ruOk r = false := by unfold ruOk; rw [decide_eq_false (show ¬ r.whr ≤ 3 by omega)]; simp
theorem ru_ind {r : Ru} (h : indic r.cells = false) : ruOk r = false := by unfold ruOk; rw [h]; simp
theorem ru_rest {r : Ru} (h1 : ¬ r.text.size < 1) (h2 : ¬ 8 < r.text.size) (h3 : ¬ r.whr < 0) (h4 : ¬ 3 < r.whr) (h5 : indic r.cells = true) : ruOk r = (small r.text || oneMark r.text && decide (r.whr = 0)) := by
 unfold ruOk
 rw [h5, decide_eq_true (show 1 ≤ r.text.size by omega), decide_eq_true (show r.text.size ≤ 8 by omega), decide_eq_true (show 0 ≤ r.whr by omega), decide_eq_true (show r.whr ≤ 3 by omega)]
 rfl
theorem mark_n {s : ByteArray} (h : s.size ≠ 1) : oneMark s = false := by
 unfold oneMark
 have := size_chars s
 cases hc : chars s with
 | nil => rfl
 | cons c l =>
  cases l with
  | nil => rw [hc] at this; simp at this; exact absurd this h
  | cons d l => rfl
theorem chars_get {s : ByteArray} {k : Nat} (h : k < s.size) : (chars s)[k]? = some s[k] := by
 unfold chars
 rw [List.getElem?_eq_getElem (by rw [Array.length_toList]; exact h)]
 rfl
theorem mark_1 {s : ByteArray} (h : s.size = 1) : oneMark s = (isW (s[0]'(by omega)) && !isL (s[0]'(by omega)) && !isD (s[0]'(by omega))) := by
 have h2 := size_chars s
 have h3 := chars_get (s := s) (k := 0) (by omega)
 unfold oneMark
 cases hc : chars s with
 | nil => rw [hc] at h3; cases h3
 | cons c l =>
  rw [hc] at h2 h3
  cases l with
  | nil => cases h3; rfl
  | cons d l => simp at h2; omega
end Go.Dx
namespace Go.Proofs.Ytlpkicjijlcbfaa
open Go.RowKit Go.Dx
theorem blo (w : World) (o : Obj) : Below w.heap.size w (w.alloc o) := (Below.refl _ w).alloc (Nat.le_refl _) _

set_option maxHeartbeats 400000 in
theorem tab_word (s : ByteArray) (hsz : s.size ≤ 1000000) (w : World) : Calls Try.prog 85 #[.string s] w fun e w' => e = .returned (.bool (small s)) ∧ w = w' := by
 obtain ⟨r, HR⟩ : ∃ r, Hid (small s = r) := ⟨_, hide rfl⟩
 rw [HR.out]
 have hlen := size_chars s
 have HL := hide hlen
 clear hlen
 go_enter Try.func85, Try.ntmps85
 go_wp2_with fail
 go_loopg [6] s.size (fun g i w' => ∃ (k : Nat), k ≤ s.size ∧ g = s.size - k ∧ ((chars s).take k).any noS = false ∧ i = .int .i64 k ∧ w = w')
 case atStart => exact ⟨0, by omega, by omega, rfl, rfl, rfl⟩
 case round =>
  obtain ⟨k, hk, hg, ht, rfl, rfl⟩ := hrel
  have HG := hide hg
  have HT := hide ht
  clear hg ht
  by_cases hkl : k < s.size
  ·have HS := hide (chars_get hkl)
   by_cases h1 : (s[k]).toNat < 97
   ·have d1 : decide (((s[k]).toNat : Int) < 97) = true := decide_eq_true (by omega)
    have HE : Hid (r = false) := hide (by rw [← HR.out, small_eq, any_of_get HS.out (noS_lo h1)]; rfl)
    clear h1
    go_wp2_with fail
    go_ret
    exact ⟨by rw [HE.out]; rfl, rfl⟩
   ·have d1 : decide (((s[k]).toNat : Int) < 97) = false := decide_eq_false (by omega)
    by_cases h2 : 122 < (s[k]).toNat
    ·have d2 : decide (122 < ((s[k]).toNat : Int)) = true := decide_eq_true (by omega)
     have HE : Hid (r = false) := hide (by rw [← HR.out, small_eq, any_of_get HS.out (noS_hi h2)]; rfl)
     clear h1 h2
     go_wp2_with fail
     go_ret
     exact ⟨by rw [HE.out]; rfl, rfl⟩
    ·have d2 : decide (122 < ((s[k]).toNat : Int)) = false := decide_eq_false (by omega)
     have HN := hide (any_take_no HS.out HT.out (noS_no (show 97 ≤ (s[k]).toNat by omega) (by omega)))
     clear h1 h2
     go_wp2_with fail
     go_roundg (s.size - (k + 1))
     case measure => have := HG.out; omega
     case rel => exact ⟨k + 1, by omega, rfl, HN.out, by go_num, rfl⟩
  ·obtain rfl : k = s.size := by omega
   have HE : Hid (r = true) := hide (by
    have := HT.out
    rw [HL.out, List.take_length] at this
    rw [← HR.out, small_eq, this]; rfl)
   go_wp2
   go_ret
   exact ⟨by rw [HE.out]; rfl, rfl⟩
set_option maxHeartbeats 400000 in
theorem ref_Small (s : ByteArray) (hsz : s.size ≤ 1000000) (w : World) : Calls Try.prog 100 #[.string s] w fun e w' => e = .returned (.bool (small s)) ∧ w = w' := by
 obtain ⟨r, HR⟩ : ∃ r, Hid (small s = r) := ⟨_, hide rfl⟩
 rw [HR.out]
 have hlen := size_chars s
 have HL := hide hlen
 clear hlen
 go_enter Try.func100, Try.ntmps100
 go_wp2_with fail
 go_loopg [3] s.size (fun g i w' => ∃ (k : Nat), k ≤ s.size ∧ g = s.size - k ∧ ((chars s).take k).any noS = false ∧ i = .int .i64 k ∧ w = w')
 case atStart => exact ⟨0, by omega, by omega, rfl, rfl, rfl⟩
 case round =>
  obtain ⟨k, hk, hg, ht, rfl, rfl⟩ := hrel
  have HG := hide hg
  have HT := hide ht
  clear hg ht
  by_cases hkl : k < s.size
  ·have HS := hide (chars_get hkl)
   by_cases h1 : (s[k]).toNat < 97
   ·have d1 : decide (((s[k]).toNat : Int) < 97) = true := decide_eq_true (by omega)
    have HE : Hid (r = false) := hide (by rw [← HR.out, small_eq, any_of_get HS.out (noS_lo h1)]; rfl)
    clear h1
    go_wp2_with fail
    go_ret
    exact ⟨by rw [HE.out]; rfl, rfl⟩
   ·have d1 : decide (((s[k]).toNat : Int) < 97) = false := decide_eq_false (by omega)
    by_cases h2 : 122 < (s[k]).toNat
    ·have d2 : decide (122 < ((s[k]).toNat : Int)) = true := decide_eq_true (by omega)
     have HE : Hid (r = false) := hide (by rw [← HR.out, small_eq, any_of_get HS.out (noS_hi h2)]; rfl)
     clear h1 h2
     go_wp2_with fail
     go_ret
     exact ⟨by rw [HE.out]; rfl, rfl⟩
    ·have d2 : decide (122 < ((s[k]).toNat : Int)) = false := decide_eq_false (by omega)
     have HN := hide (any_take_no HS.out HT.out (noS_no (show 97 ≤ (s[k]).toNat by omega) (by omega)))
     clear h1 h2
     go_wp2_with fail
     go_roundg (s.size - (k + 1))
     case measure => have := HG.out; omega
     case rel => exact ⟨k + 1, by omega, rfl, HN.out, by go_num, rfl⟩
  ·obtain rfl : k = s.size := by omega
   have HE : Hid (r = true) := hide (by
    have := HT.out
    rw [HL.out, List.take_length] at this
    rw [← HR.out, small_eq, this]; rfl)
   go_wp2
   go_ret
   exact ⟨by rw [HE.out]; rfl, rfl⟩
end Go.Proofs.Ytlpkicjijlcbfaa
end

section
/- Chapter 06: a rule is as it has to be: right, Right. -/
namespace Go.Proofs.Ytlpkicjijlcbfaa
open Go.RowKit Go.Dx

set_option maxHeartbeats 1000000 in
theorem tab_right (s : ByteArray) (x : Int) (l : List UInt8) (a : Option Addr) (n c : Nat) (hsz : s.size ≤ 1000000) (w : World) (hs : Sl w 1 a n c (l.map B8)) :
  Calls Try.prog 82 #[.agg #[.string s, .int .i64 x, .slice a n c]] w fun e w' => e = .returned (.bool (ruOk ⟨s, x, l⟩)) ∧ Below w.heap.size w w' := by
 obtain ⟨r, HR⟩ : ∃ r, Hid (ruOk ⟨s, x, l⟩ = r) := ⟨_, hide rfl⟩
 rw [HR.out]
 have hi := fun w' (hb : Below w.heap.size w w') => tab_indicator l a n c w' (hs.below hb)
 have hw := fun w' => tab_word s hsz w'
 by_cases h1 : s.size < 1
 ·have d1 : decide ((s.size : Int) < 1) = true := decide_eq_true (by omega)
  have HE : Hid (r = false) := hide (by rw [← HR.out]; exact ru_lo h1)
  clear h1 hi hw
  go_enter Try.func82, Try.ntmps82
  go_wp2_with fail
  go_ret
  exact ⟨by rw [HE.out]; rfl, blo w _⟩
 have d1 : decide ((s.size : Int) < 1) = false := decide_eq_false (by omega)
 by_cases h2 : 8 < s.size
 ·have d2 : decide (8 < (s.size : Int)) = true := decide_eq_true (by omega)
  have HE : Hid (r = false) := hide (by rw [← HR.out]; exact ru_hi h2)
  clear h1 h2 hi hw
  go_enter Try.func82, Try.ntmps82
  go_wp2_with fail
  go_ret
  exact ⟨by rw [HE.out]; rfl, blo w _⟩
 have d2 : decide (8 < (s.size : Int)) = false := decide_eq_false (by omega)
 by_cases h3 : x < 0
 ·have d3 : decide (x < 0) = true := decide_eq_true h3
  have HE : Hid (r = false) := hide (by rw [← HR.out]; exact ru_w0 h3)
  clear h1 h2 h3 hi hw
  go_enter Try.func82, Try.ntmps82
  go_wp2_with fail
  go_ret
  exact ⟨by rw [HE.out]; rfl, blo w _⟩
 have d3 : decide (x < 0) = false := decide_eq_false h3
 by_cases h4 : 3 < x
 ·have d4 : decide (3 < x) = true := decide_eq_true h4
  have HE : Hid (r = false) := hide (by rw [← HR.out]; exact ru_w3 h4)
  clear h1 h2 h3 h4 hi hw
  go_enter Try.func82, Try.ntmps82
  go_wp2_with fail
  go_ret
  exact ⟨by rw [HE.out]; rfl, blo w _⟩
 have d4 : decide (3 < x) = false := decide_eq_false h4
 cases h5 : indic l
 ·rw [h5] at hi
  have HE : Hid (r = false) := hide (by rw [← HR.out]; exact ru_ind h5)
  clear h1 h2 h3 h4 h5 hw
  go_enter Try.func82, Try.ntmps82
  go_wp2_with (first | (go_at_call 79; refine (hi _ (blo w _)).mono ?_; rintro e w2 ⟨rfl, rfl⟩))
  go_ret
  exact ⟨by rw [HE.out]; rfl, blo w _⟩
 rw [h5] at hi
 have hrest := ru_rest (r := ⟨s, x, l⟩) h1 h2 h3 h4 h5
 have h0 : 0 < s.size := by omega
 have HREST : Hid (r = (small s || oneMark s && decide (x = 0))) := hide (by rw [← HR.out]; exact hrest)
 clear h1 h2 h3 h4 h5 hrest
 cases h6 : small s
 case true =>
  rw [h6] at hw
  have HE : Hid (r = true) := hide (by rw [HREST.out, h6]; rfl)
  clear h6
  go_enter Try.func82, Try.ntmps82
  go_wp2_with (first | (go_at_call 79; refine (hi _ (blo w _)).mono ?_; rintro e w2 ⟨rfl, rfl⟩) | (go_at_call 85; refine (hw _).mono ?_; rintro e w2 ⟨rfl, rfl⟩))
  go_ret
  exact ⟨by rw [HE.out]; rfl, blo w _⟩
 rw [h6] at hw
 have HREST2 : Hid (r = (oneMark s && decide (x = 0))) := hide (by rw [HREST.out, h6]; rfl)
 clear h6
 by_cases h7 : s.size = 1
 case neg =>
  have d7 : ((s.size : Int) == 1) = false := beq_eq_false_iff_ne.2 (by omega)
  have HE : Hid (r = false) := hide (by rw [HREST2.out, mark_n h7]; rfl)
  clear h7
  go_enter Try.func82, Try.ntmps82
  go_wp2_with (first | (go_at_call 79; refine (hi _ (blo w _)).mono ?_; rintro e w2 ⟨rfl, rfl⟩) | (go_at_call 85; refine (hw _).mono ?_; rintro e w2 ⟨rfl, rfl⟩))
  go_ret
  exact ⟨by rw [HE.out]; rfl, blo w _⟩
 have d7 : ((s.size : Int) == 1) = true := beq_iff_eq.2 (by omega)
 have HREST3 : Hid (r = ((isW s[0] && !isL s[0] && !isD s[0]) && decide (x = 0))) := hide (by rw [HREST2.out, mark_1 h7])
 clear h7
 have h8 := fun w' => tab_written s[0] w'
 have h9 := fun w' => tab_letter s[0] w'
 have h10 := fun w' => tab_digit s[0] w'
 cases q8 : isW s[0]
 case false =>
  rw [q8] at h8
  have HE : Hid (r = false) := hide (by rw [HREST3.out, q8]; rfl)
  clear q8
  go_enter Try.func82, Try.ntmps82
  go_wp2_with (first | (go_at_call 79; refine (hi _ (blo w _)).mono ?_; rintro e w2 ⟨rfl, rfl⟩) | (go_at_call 85; refine (hw _).mono ?_; rintro e w2 ⟨rfl, rfl⟩) | (go_at_call 84; refine (h8 _).mono ?_; rintro e w2 ⟨rfl, rfl⟩))
  go_ret
  exact ⟨by rw [HE.out]; rfl, blo w _⟩
 rw [q8] at h8
 cases q9 : isL s[0]
 case true =>
  rw [q9] at h9
  have HE : Hid (r = false) := hide (by rw [HREST3.out, q8, q9]; rfl)
  clear q8 q9
  go_enter Try.func82, Try.ntmps82
  go_wp2_with (first | (go_at_call 79; refine (hi _ (blo w _)).mono ?_; rintro e w2 ⟨rfl, rfl⟩) | (go_at_call 85; refine (hw _).mono ?_; rintro e w2 ⟨rfl, rfl⟩) | (go_at_call 84; refine (h8 _).mono ?_; rintro e w2 ⟨rfl, rfl⟩) | (go_at_call 98; refine (h9 _).mono ?_; rintro e w2 ⟨rfl, rfl⟩))
  go_ret
  exact ⟨by rw [HE.out]; rfl, blo w _⟩
 rw [q9] at h9
 cases q10 : isD s[0]
 case true =>
  rw [q10] at h10
  have HE : Hid (r = false) := hide (by rw [HREST3.out, q8, q9, q10]; rfl)
  clear q8 q9 q10
  go_enter Try.func82, Try.ntmps82
  go_wp2_with (first | (go_at_call 79; refine (hi _ (blo w _)).mono ?_; rintro e w2 ⟨rfl, rfl⟩) | (go_at_call 85; refine (hw _).mono ?_; rintro e w2 ⟨rfl, rfl⟩) | (go_at_call 84; refine (h8 _).mono ?_; rintro e w2 ⟨rfl, rfl⟩) | (go_at_call 98; refine (h9 _).mono ?_; rintro e w2 ⟨rfl, rfl⟩) | (go_at_call 61; refine (h10 _).mono ?_; rintro e w2 ⟨rfl, rfl⟩))
  go_ret
  exact ⟨by rw [HE.out]; rfl, blo w _⟩
 rw [q10] at h10
 have HREST4 : Hid (r = decide (x = 0)) := hide (by rw [HREST3.out, q8, q9, q10]; simp)
 clear q8 q9 q10
 by_cases h11 : x = 0
 ·have d11 : (x == 0) = true := beq_iff_eq.2 h11
  have HE : Hid (r = true) := hide (by rw [HREST4.out]; exact decide_eq_true h11)
  clear h11
  go_enter Try.func82, Try.ntmps82
  go_wp2_with (first | (go_at_call 79; refine (hi _ (blo w _)).mono ?_; rintro e w2 ⟨rfl, rfl⟩) | (go_at_call 85; refine (hw _).mono ?_; rintro e w2 ⟨rfl, rfl⟩) | (go_at_call 84; refine (h8 _).mono ?_; rintro e w2 ⟨rfl, rfl⟩) | (go_at_call 98; refine (h9 _).mono ?_; rintro e w2 ⟨rfl, rfl⟩) | (go_at_call 61; refine (h10 _).mono ?_; rintro e w2 ⟨rfl, rfl⟩))
  go_ret
  exact ⟨by rw [HE.out]; rfl, blo w _⟩
 ·have d11 : (x == 0) = false := beq_eq_false_iff_ne.2 h11
  have HE : Hid (r = false) := hide (by rw [HREST4.out]; exact decide_eq_false h11)
  clear h11
  go_enter Try.func82, Try.ntmps82
  go_wp2_with (first | (go_at_call 79; refine (hi _ (blo w _)).mono ?_; rintro e w2 ⟨rfl, rfl⟩) | (go_at_call 85; refine (hw _).mono ?_; rintro e w2 ⟨rfl, rfl⟩) | (go_at_call 84; refine (h8 _).mono ?_; rintro e w2 ⟨rfl, rfl⟩) | (go_at_call 98; refine (h9 _).mono ?_; rintro e w2 ⟨rfl, rfl⟩) | (go_at_call 61; refine (h10 _).mono ?_; rintro e w2 ⟨rfl, rfl⟩))
  go_ret
  exact ⟨by rw [HE.out]; rfl, blo w _⟩
set_option maxHeartbeats 1000000 in
theorem ref_Right (s : ByteArray) (x : Int) (l : List UInt8) (a : Option Addr) (n c : Nat) (hsz : s.size ≤ 1000000) (w : World) (hs : Sl w 1 a n c (l.map B8)) :
  Calls Try.prog 88 #[.agg #[.string s, .int .i64 x, .slice a n c]] w fun e w' => e = .returned (.bool (ruOk ⟨s, x, l⟩)) ∧ Below w.heap.size w w' := by
 obtain ⟨r, HR⟩ : ∃ r, Hid (ruOk ⟨s, x, l⟩ = r) := ⟨_, hide rfl⟩
 rw [HR.out]
 have hi := fun w' (hb : Below w.heap.size w w') => indic_cells l ▸ ref_Cells l a n c 1 4 1 4 rfl rfl w' (hs.below hb)
 have hw := fun w' => ref_Small s hsz w'
 by_cases h1 : s.size < 1
 ·have d1 : decide ((s.size : Int) < 1) = true := decide_eq_true (by omega)
  have HE : Hid (r = false) := hide (by rw [← HR.out]; exact ru_lo h1)
  clear h1 hi hw
  go_enter Try.func88, Try.ntmps88
  go_wp2_with fail
  go_ret
  exact ⟨by rw [HE.out]; rfl, blo w _⟩
 have d1 : decide ((s.size : Int) < 1) = false := decide_eq_false (by omega)
 by_cases h2 : 8 < s.size
 ·have d2 : decide (8 < (s.size : Int)) = true := decide_eq_true (by omega)
  have HE : Hid (r = false) := hide (by rw [← HR.out]; exact ru_hi h2)
  clear h1 h2 hi hw
  go_enter Try.func88, Try.ntmps88
  go_wp2_with fail
  go_ret
  exact ⟨by rw [HE.out]; rfl, blo w _⟩
 have d2 : decide (8 < (s.size : Int)) = false := decide_eq_false (by omega)
 by_cases h3 : x < 0
 ·have d3 : decide (x < 0) = true := decide_eq_true h3
  have HE : Hid (r = false) := hide (by rw [← HR.out]; exact ru_w0 h3)
  clear h1 h2 h3 hi hw
  go_enter Try.func88, Try.ntmps88
  go_wp2_with fail
  go_ret
  exact ⟨by rw [HE.out]; rfl, blo w _⟩
 have d3 : decide (x < 0) = false := decide_eq_false h3
 by_cases h4 : 3 < x
 ·have d4 : decide (3 < x) = true := decide_eq_true h4
  have HE : Hid (r = false) := hide (by rw [← HR.out]; exact ru_w3 h4)
  clear h1 h2 h3 h4 hi hw
  go_enter Try.func88, Try.ntmps88
  go_wp2_with fail
  go_ret
  exact ⟨by rw [HE.out]; rfl, blo w _⟩
 have d4 : decide (3 < x) = false := decide_eq_false h4
 cases h5 : indic l
 ·rw [h5] at hi
  have HE : Hid (r = false) := hide (by rw [← HR.out]; exact ru_ind h5)
  clear h1 h2 h3 h4 h5 hw
  go_enter Try.func88, Try.ntmps88
  go_wp2_with (first | (go_at_call 89; refine (hi _ (blo w _)).mono ?_; rintro e w2 ⟨rfl, rfl⟩))
  go_ret
  exact ⟨by rw [HE.out]; rfl, blo w _⟩
 rw [h5] at hi
 have hrest := ru_rest (r := ⟨s, x, l⟩) h1 h2 h3 h4 h5
 have h0 : 0 < s.size := by omega
 have HREST : Hid (r = (small s || oneMark s && decide (x = 0))) := hide (by rw [← HR.out]; exact hrest)
 clear h1 h2 h3 h4 h5 hrest
 cases h6 : small s
 case true =>
  rw [h6] at hw
  have HE : Hid (r = true) := hide (by rw [HREST.out, h6]; rfl)
  clear h6
  go_enter Try.func88, Try.ntmps88
  go_wp2_with (first | (go_at_call 89; refine (hi _ (blo w _)).mono ?_; rintro e w2 ⟨rfl, rfl⟩) | (go_at_call 100; refine (hw _).mono ?_; rintro e w2 ⟨rfl, rfl⟩))
  go_ret
  exact ⟨by rw [HE.out]; rfl, blo w _⟩
 rw [h6] at hw
 have HREST2 : Hid (r = (oneMark s && decide (x = 0))) := hide (by rw [HREST.out, h6]; rfl)
 clear h6
 by_cases h7 : s.size = 1
 case neg =>
  have d7 : ((s.size : Int) == 1) = false := beq_eq_false_iff_ne.2 (by omega)
  have HE : Hid (r = false) := hide (by rw [HREST2.out, mark_n h7]; rfl)
  clear h7
  go_enter Try.func88, Try.ntmps88
  go_wp2_with (first | (go_at_call 89; refine (hi _ (blo w _)).mono ?_; rintro e w2 ⟨rfl, rfl⟩) | (go_at_call 100; refine (hw _).mono ?_; rintro e w2 ⟨rfl, rfl⟩))
  go_ret
  exact ⟨by rw [HE.out]; rfl, blo w _⟩
 have d7 : ((s.size : Int) == 1) = true := beq_iff_eq.2 (by omega)
 have HREST3 : Hid (r = ((isW s[0] && !isL s[0] && !isD s[0]) && decide (x = 0))) := hide (by rw [HREST2.out, mark_1 h7])
 clear h7
 have h8 := fun w' => ref_Written s[0] w'
 have h9 := fun w' => ref_Is s[0] w'
 have h10 := fun w' => ref_Digit s[0] w'
 cases q8 : isW s[0]
 case false =>
  rw [q8] at h8
  have HE : Hid (r = false) := hide (by rw [HREST3.out, q8]; rfl)
  clear q8
  go_enter Try.func88, Try.ntmps88
  go_wp2_with (first | (go_at_call 89; refine (hi _ (blo w _)).mono ?_; rintro e w2 ⟨rfl, rfl⟩) | (go_at_call 100; refine (hw _).mono ?_; rintro e w2 ⟨rfl, rfl⟩) | (go_at_call 91; refine (h8 _).mono ?_; rintro e w2 ⟨rfl, rfl⟩))
  go_ret
  exact ⟨by rw [HE.out]; rfl, blo w _⟩
 rw [q8] at h8
 cases q9 : isL s[0]
 case true =>
  rw [q9] at h9
  have HE : Hid (r = false) := hide (by rw [HREST3.out, q8, q9]; rfl)
  clear q8 q9
  go_enter Try.func88, Try.ntmps88
  go_wp2_with (first | (go_at_call 89; refine (hi _ (blo w _)).mono ?_; rintro e w2 ⟨rfl, rfl⟩) | (go_at_call 100; refine (hw _).mono ?_; rintro e w2 ⟨rfl, rfl⟩) | (go_at_call 91; refine (h8 _).mono ?_; rintro e w2 ⟨rfl, rfl⟩) | (go_at_call 101; refine (h9 _).mono ?_; rintro e w2 ⟨rfl, rfl⟩))
  go_ret
  exact ⟨by rw [HE.out]; rfl, blo w _⟩
 rw [q9] at h9
 cases q10 : isD s[0]
 case true =>
  rw [q10] at h10
  have HE : Hid (r = false) := hide (by rw [HREST3.out, q8, q9, q10]; rfl)
  clear q8 q9 q10
  go_enter Try.func88, Try.ntmps88
  go_wp2_with (first | (go_at_call 89; refine (hi _ (blo w _)).mono ?_; rintro e w2 ⟨rfl, rfl⟩) | (go_at_call 100; refine (hw _).mono ?_; rintro e w2 ⟨rfl, rfl⟩) | (go_at_call 91; refine (h8 _).mono ?_; rintro e w2 ⟨rfl, rfl⟩) | (go_at_call 101; refine (h9 _).mono ?_; rintro e w2 ⟨rfl, rfl⟩) | (go_at_call 92; refine (h10 _).mono ?_; rintro e w2 ⟨rfl, rfl⟩))
  go_ret
  exact ⟨by rw [HE.out]; rfl, blo w _⟩
 rw [q10] at h10
 have HREST4 : Hid (r = decide (x = 0)) := hide (by rw [HREST3.out, q8, q9, q10]; simp)
 clear q8 q9 q10
 by_cases h11 : x = 0
 ·have d11 : (x == 0) = true := beq_iff_eq.2 h11
  have HE : Hid (r = true) := hide (by rw [HREST4.out]; exact decide_eq_true h11)
  clear h11
  go_enter Try.func88, Try.ntmps88
  go_wp2_with (first | (go_at_call 89; refine (hi _ (blo w _)).mono ?_; rintro e w2 ⟨rfl, rfl⟩) | (go_at_call 100; refine (hw _).mono ?_; rintro e w2 ⟨rfl, rfl⟩) | (go_at_call 91; refine (h8 _).mono ?_; rintro e w2 ⟨rfl, rfl⟩) | (go_at_call 101; refine (h9 _).mono ?_; rintro e w2 ⟨rfl, rfl⟩) | (go_at_call 92; refine (h10 _).mono ?_; rintro e w2 ⟨rfl, rfl⟩))
  go_ret
  exact ⟨by rw [HE.out]; rfl, blo w _⟩
 ·have d11 : (x == 0) = false := beq_eq_false_iff_ne.2 h11
  have HE : Hid (r = false) := hide (by rw [HREST4.out]; exact decide_eq_false h11)
  clear h11
  go_enter Try.func88, Try.ntmps88
  go_wp2_with (first | (go_at_call 89; refine (hi _ (blo w _)).mono ?_; rintro e w2 ⟨rfl, rfl⟩) | (go_at_call 100; refine (hw _).mono ?_; rintro e w2 ⟨rfl, rfl⟩) | (go_at_call 91; refine (h8 _).mono ?_; rintro e w2 ⟨rfl, rfl⟩) | (go_at_call 101; refine (h9 _).mono ?_; rintro e w2 ⟨rfl, rfl⟩) | (go_at_call 92; refine (h10 _).mono ?_; rintro e w2 ⟨rfl, rfl⟩))
  go_ret
  exact ⟨by rw [HE.out]; rfl, blo w _⟩
end Go.Proofs.Ytlpkicjijlcbfaa
end

section
/- Chapter 06: characters in a slice: sym, and whether all are valid. -/
namespace Go.Dx
open Go.RowKit
def badS (x : Sy) : Bool := !symOk x
theorem goodS_eq (l : List Sy) : goodS l = !l.any badS := by
 unfold goodS
 rw [Bool.eq_iff_iff]; simp [List.all_eq_true, badS]
theorem sy_cells {w : World} {a : Option Addr} {n c : Nat} {l : List Sy} (hs : Sl w 2 a n c (l.flatMap sc)) {k : Nat} {x : Sy} (hx : l[k]? = some x) :
  ∃ b o, a = some ⟨b, o, none⟩ ∧ b < w.heap.size ∧ w.cell? ⟨b, o + k * 2, none⟩ = some (.int .i64 x.lang) ∧ w.cell? ⟨b, o + k * 2 + 1, none⟩ = some (.int .u8 (x.c.toNat : Int)) := by
 have hk := (List.getElem?_eq_some_iff.1 hx).1
 obtain ⟨b, o, hab, hb, hc⟩ := hs.ex (by rw [flat_len sc_len]; omega)
 refine ⟨b, o, hab, hb, ?_, ?_⟩
 ·have := flat_get sc_len hx (j := 0) (by decide)
  exact hc (k * 2) _ this
 ·have := flat_get sc_len hx (j := 1) (by decide)
  exact hc (k * 2 + 1) _ this
end Go.Dx
namespace Go.Proofs.Ytlpkicjijlcbfaa
open Go.RowKit Go.Dx
theorem size_sym : (Try.prog.info? 88).map (·.size) = some 2 := by kernel_rfl
section
variable {w : World} {ops : Array Oper} {rest : List Oper} {act : Act} {Q : Exit → Act → World → Prop} {ty : TypeId} {pos : String} {after : Array Edge}
theorem idx_y (d : Nat) (x y : Operand) (a : Option Addr) (n c : Nat) (l : List Sy) (hx : act.eval x = .slice a n c) (hs : Sl w 2 a n c (l.flatMap sc)) (k : IntKind) (iv : Int) (i : Nat) (hy : act.eval y = .int k iv) (hiv : iv = (i : Int))
  (u : Sy) (hu : l[i]? = some u)
  (hK : ∀ b o, w.cell? ⟨b, o, none⟩ = some (.int .i64 u.lang) → w.cell? ⟨b, o + 1, none⟩ = some (.int .u8 (u.c.toNat : Int)) → b < w.heap.size → wpList Try.prog ops Q rest (act.put (some d) (.pointer (some ⟨b, o, none⟩))) w) :
  wpList Try.prog ops Q ({ dst := some d, op := .indexAddr 31 x y, type := ty, pos := pos, after := after, guard := none } :: rest) act w :=
 index_row d 31 x y 88 Try.underlying31 2 size_sym a n c _ hx hs k iv i hy hiv (by rw [hs.nf sc_len (by decide)]; exact (List.getElem?_eq_some_iff.1 hu).1) (by decide)
  (fun b o h hb _ => hK b o (h 0 _ (by decide) (flat_get sc_len hu (by decide))) (h 1 _ (by decide) (flat_get sc_len hu (by decide))) hb)
end
theorem symOk_no (g : Int) (c : UInt8) (h0 : g ≠ 0) (h1 : g ≠ 1) : symOk ⟨g, c⟩ = false := by unfold symOk; simp [h0, h1]
theorem symOk_yes (g : Int) (c : UInt8) (h0 : g = 0 ∨ g = 1) : symOk ⟨g, c⟩ = isW c := by unfold symOk; rcases h0 with h | h <;> simp [h]

set_option maxHeartbeats 400000 in
theorem tab_sym (x : Sy) (w : World) : Calls Try.prog 59 #[.agg #[.int .i64 x.lang, .int .u8 (x.c.toNat : Int)]] w fun e w' => e = .returned (.bool (symOk x)) ∧ Below w.heap.size w w' := by
 obtain ⟨g, c⟩ := x
 have hc := fun w' => tab_written c w'
 show Calls Try.prog 59 #[.agg #[.int .i64 g, .int .u8 (c.toNat : Int)]] w _
 by_cases h0 : g = 0
 ·subst h0
  have HE := hide (symOk_yes 0 c (.inl rfl))
  generalize isW c = v at hc HE
  go_enter Try.func59, Try.ntmps59
  go_wp2_with (go_at_call 84; refine (hc _).mono ?_; rintro e w2 ⟨rfl, rfl⟩)
  go_ret
  exact ⟨by rw [HE.out]; rfl, blo w _⟩
 have d0 : (g == 0) = false := beq_eq_false_iff_ne.2 h0
 by_cases h1 : g = 1
 ·subst h1
  have HE := hide (symOk_yes 1 c (.inr rfl))
  generalize isW c = v at hc HE
  clear h0
  go_enter Try.func59, Try.ntmps59
  go_wp2_with (go_at_call 84; refine (hc _).mono ?_; rintro e w2 ⟨rfl, rfl⟩)
  go_ret
  exact ⟨by rw [HE.out]; rfl, blo w _⟩
 have d1 : (g == 1) = false := beq_eq_false_iff_ne.2 h1
 have HE := hide (symOk_no g c h0 h1)
 clear h0 h1 hc
 go_enter Try.func59, Try.ntmps59
 go_wp2_with fail
 go_ret
 exact ⟨by rw [HE.out]; rfl, blo w _⟩

set_option maxHeartbeats 400000 in
theorem steps_1 (x : Sy) (w : World) : Calls Try.prog 58 #[.agg #[.int .i64 x.lang, .int .u8 (x.c.toNat : Int)]] w fun e w' => e = .returned (.bool (badS x)) ∧ Below w.heap.size w w' := by
 have hc := fun w' => tab_sym x w'
 unfold badS
 generalize symOk x = v at hc ⊢
 go_enter Try.func58, Try.ntmps58
 go_wp2_with (go_at_call 59; refine (hc _).mono ?_; rintro e w2 ⟨rfl, hb⟩)
 go_ret
 exact ⟨rfl, (blo w _).trans (hb.mono (blo w _).size)⟩

set_option maxHeartbeats 400000 in
theorem index_y (l : List Sy) (a : Option Addr) (n c : Nat) (w : World) (hs : Sl w 2 a n c (l.flatMap sc)) :
  Calls Try.prog 83 #[.slice a n c, fnv 58] w fun e w' => ∃ i : Int, e = .returned (.int .i64 i) ∧ decide (0 ≤ i) = l.any badS ∧ Below w.heap.size w w' := by
 unfold fnv
 obtain rfl := hs.nf sc_len (by decide)
 have hm1 := Nat.le_trans hs.le hs.cap
 unfold maxLen at hm1
 go_enter Try.func83, Try.ntmps83
 go_wp2_with fail
 go_loopg [8] l.length (fun g i w' => ∃ (k : Nat), k ≤ l.length ∧ g = l.length - k ∧ (l.take k).any badS = false ∧ i = .int .i64 k ∧ Below w.heap.size w w')
 case atStart => exact ⟨0, by omega, by omega, rfl, rfl, Below.refl _ _⟩
 case round =>
  obtain ⟨k, hk, hg, ht, rfl, hb⟩ := hrel
  have HG := hide hg
  have HT := hide ht
  clear hg ht
  by_cases hkl : k < l.length
  ·obtain ⟨x, hx⟩ : ∃ x, l[k]? = some x := ⟨l[k], by simp [hkl]⟩
   have HH := hide hx
   have hs1 := hs.below hb
   clear hx
   have hc := steps_1 x wr
   cases hq : badS x
   ·have HN := hide (any_take_no HH.out HT.out hq)
    rw [hq] at hc
    clear hq
    go_wp2_with (first
     | (with_reducible refine idx_y 14 _ _ _ _ _ _ rfl hs1 _ _ k rfl rfl _ HH.out ?_; intro b o hcell hcell2 hbo)
     | (go_at_call 58; refine hc.mono ?_; rintro e w2 ⟨rfl, hb2⟩))
    have hb3 := hb.trans (hb2.mono hb.size)
    go_roundg (l.length - (k + 1))
    case measure => have := HG.out; omega
    case rel => exact ⟨k + 1, by omega, rfl, HN.out, by go_num, hb3⟩
   ·have HN := hide (any_of_get HH.out hq)
    rw [hq] at hc
    clear hq
    go_wp2_with (first
     | (with_reducible refine idx_y 14 _ _ _ _ _ _ rfl hs1 _ _ k rfl rfl _ HH.out ?_; intro b o hcell hcell2 hbo)
     | (go_at_call 58; refine hc.mono ?_; rintro e w2 ⟨rfl, hb2⟩))
    go_ret
    exact ⟨_, rfl, by rw [HN.out]; exact decide_eq_true (by omega), hb.trans (hb2.mono hb.size)⟩
  ·obtain rfl : k = l.length := by omega
   go_wp2
   go_ret
   have := HT.out
   rw [List.take_length] at this
   exact ⟨_, rfl, by rw [this]; rfl, hb⟩
set_option maxHeartbeats 400000 in
theorem contains_y (l : List Sy) (a : Option Addr) (n c : Nat) (w : World) (hs : Sl w 2 a n c (l.flatMap sc)) :
  Calls Try.prog 57 #[.slice a n c, fnv 58] w fun e w' => e = .returned (.bool (!goodS l)) ∧ Below w.heap.size w w' := by
 have hc := index_y l a n c w hs
 rw [goodS_eq, Bool.not_not]
 unfold fnv at hc ⊢
 go_enter Try.func57, Try.ntmps57
 go_wp2_with (go_at_call 83; refine hc.mono ?_; rintro e w2 ⟨i, rfl, hi, hb⟩)
 go_ret
 exact ⟨by rw [← hi]; rfl, hb⟩

set_option maxHeartbeats 1000000 in
theorem ref_Good (l : List Sy) (a : Option Addr) (n c : Nat) (w : World) (hs : Sl w 2 a n c (l.flatMap sc)) :
  Calls Try.prog 71 #[.slice a n c] w fun e w' => e = .returned (.bool (goodS l)) ∧ w = w' := by
 obtain rfl := hs.nf sc_len (by decide)
 have hm1 := Nat.le_trans hs.le hs.cap
 unfold maxLen at hm1
 obtain ⟨r, HR⟩ : ∃ r, Hid (goodS l = r) := ⟨_, hide rfl⟩
 rw [HR.out]
 go_enter Try.func71, Try.ntmps71
 go_wp2_with fail
 go_loopg [3] l.length (fun g i w' => ∃ (k : Nat), k ≤ l.length ∧ g = l.length - k ∧ (l.take k).any badS = false ∧ i = .int .i64 k ∧ w = w')
 case atStart => exact ⟨0, by omega, by omega, rfl, rfl, rfl⟩
 case round =>
  obtain ⟨k, hk, hg, ht, rfl, rfl⟩ := hrel
  have HG := hide hg
  have HT := hide ht
  clear hg ht
  by_cases hkl : k < l.length
  ·obtain ⟨x, hx⟩ : ∃ x, l[k]? = some x := ⟨l[k], by simp [hkl]⟩
   have HH := hide hx
   obtain ⟨b, o, hab, hbw, c0, c1⟩ := sy_cells hs hx
   subst hab
   clear hx
   obtain ⟨g, ch⟩ := x
   have c0 : w.cell? ⟨b, o + k * 2, none⟩ = some (.int .i64 g) := c0
   have c1 : w.cell? ⟨b, o + k * 2 + 1, none⟩ = some (.int .u8 (ch.toNat : Int)) := c1
   have hw := fun w' => ref_Written ch w'
   by_cases h0 : g < 0
   ·have d0 : decide (g < 0) = true := decide_eq_true h0
    have HE : Hid (r = false) := hide (by rw [← HR.out, goodS_eq, any_of_get HH.out (by unfold badS; rw [symOk_no g ch (by omega) (by omega)]; rfl)]; rfl)
    clear h0 hw
    go_wp2_with fail
    go_ret
    exact ⟨by rw [HE.out]; rfl, rfl⟩
   have d0 : decide (g < 0) = false := decide_eq_false h0
   by_cases h1 : 1 < g
   ·have d1 : decide (1 < g) = true := decide_eq_true h1
    have HE : Hid (r = false) := hide (by rw [← HR.out, goodS_eq, any_of_get HH.out (by unfold badS; rw [symOk_no g ch (by omega) (by omega)]; rfl)]; rfl)
    clear h0 h1 hw
    go_wp2_with fail
    go_ret
    exact ⟨by rw [HE.out]; rfl, rfl⟩
   have d1 : decide (1 < g) = false := decide_eq_false h1
   have hy := symOk_yes g ch (by omega)
   clear h0 h1
   cases hq : isW ch
   ·have HE : Hid (r = false) := hide (by rw [← HR.out, goodS_eq, any_of_get HH.out (by unfold badS; rw [hy, hq]; rfl)]; rfl)
    rw [hq] at hw
    clear hy hq
    go_wp2_with (go_at_call 91; refine (hw _).mono ?_; rintro e w2 ⟨rfl, rfl⟩)
    go_ret
    exact ⟨by rw [HE.out]; rfl, rfl⟩
   ·have HN := hide (any_take_no HH.out HT.out (by unfold badS; rw [hy, hq]; rfl))
    rw [hq] at hw
    clear hy hq
    go_wp2_with (go_at_call 91; refine (hw _).mono ?_; rintro e w2 ⟨rfl, rfl⟩)
    go_roundg (l.length - (k + 1))
    case measure => have := HG.out; omega
    case rel => exact ⟨k + 1, by omega, rfl, HN.out, by go_num, rfl⟩
  ·obtain rfl : k = l.length := by omega
   have HE : Hid (r = true) := hide (by
    have := HT.out
    rw [List.take_length] at this
    rw [← HR.out, goodS_eq, this]; rfl)
   go_wp2
   go_ret
   exact ⟨by rw [HE.out]; rfl, rfl⟩
end Go.Proofs.Ytlpkicjijlcbfaa
end

section
/- Chapter 06: the rules of a language: whether all are as they have to be; a letter's own rule. -/
namespace Go.Dx
open Go.RowKit
def badR (r : Ru) : Bool := !ruOk r
theorem rules_eq (l : List Ru) : l.all ruOk = !l.any badR := by
 rw [Bool.eq_iff_iff]; simp [List.all_eq_true, badR]
theorem ru_cells {w : World} {a : Option Addr} {n c : Nat} {ps : List RH} (hs : Sl w 3 a n c (ps.flatMap rc)) {k : Nat} {p : RH} (hx : ps[k]? = some p) :
  ∃ b o, a = some ⟨b, o, none⟩ ∧ b < w.heap.size ∧ w.cell? ⟨b, o + k * 3, none⟩ = some (.string p.1.text) ∧ w.cell? ⟨b, o + k * 3 + 1, none⟩ = some (.int .i64 p.1.whr) ∧ w.cell? ⟨b, o + k * 3 + 2, none⟩ = some (.slice p.2.1 p.2.2.1 p.2.2.2) := by
 have hk := (List.getElem?_eq_some_iff.1 hx).1
 obtain ⟨b, o, hab, hb, hc⟩ := hs.ex (by rw [flat_len rc_len]; omega)
 refine ⟨b, o, hab, hb, ?_, ?_, ?_⟩
 ·exact hc (k * 3) _ (flat_get rc_len hx (j := 0) (by decide))
 ·exact hc (k * 3 + 1) _ (flat_get rc_len hx (j := 1) (by decide))
 ·exact hc (k * 3 + 2) _ (flat_get rc_len hx (j := 2) (by decide))
end Go.Dx
namespace Go.Proofs.Ytlpkicjijlcbfaa
open Go.RowKit Go.Dx
theorem size_rule : (Try.prog.info? 84).map (·.size) = some 3 := by kernel_rfl
section
variable {w : World} {ops : Array Oper} {rest : List Oper} {act : Act} {Q : Exit → Act → World → Prop} {ty : TypeId} {pos : String} {after : Array Edge}
theorem idx_r (d : Nat) (x y : Operand) (a : Option Addr) (n c : Nat) (ps : List RH) (hx : act.eval x = .slice a n c) (hs : Sl w 3 a n c (ps.flatMap rc)) (k : IntKind) (iv : Int) (i : Nat) (hy : act.eval y = .int k iv) (hiv : iv = (i : Int))
  (p : RH) (hu : ps[i]? = some p)
  (hK : ∀ b o, w.cell? ⟨b, o, none⟩ = some (.string p.1.text) → w.cell? ⟨b, o + 1, none⟩ = some (.int .i64 p.1.whr) → w.cell? ⟨b, o + 2, none⟩ = some (.slice p.2.1 p.2.2.1 p.2.2.2) → b < w.heap.size → wpList Try.prog ops Q rest (act.put (some d) (.pointer (some ⟨b, o, none⟩))) w) :
  wpList Try.prog ops Q ({ dst := some d, op := .indexAddr 23 x y, type := ty, pos := pos, after := after, guard := none } :: rest) act w :=
 index_row d 23 x y 84 Try.underlying23 3 size_rule a n c _ hx hs k iv i hy hiv (by rw [hs.nf rc_len (by decide)]; exact (List.getElem?_eq_some_iff.1 hu).1) (by decide)
  (fun b o h hb _ => hK b o (h 0 _ (by decide) (flat_get rc_len hu (by decide))) (h 1 _ (by decide) (flat_get rc_len hu (by decide))) (h 2 _ (by decide) (flat_get rc_len hu (by decide))) hb)
end
def rv (p : RH) : Value := .agg #[.string p.1.text, .int .i64 p.1.whr, .slice p.2.1 p.2.2.1 p.2.2.2]
set_option maxHeartbeats 400000 in
theorem valid_1 (p : RH) (w : World) (hs : Sl w 1 p.2.1 p.2.2.1 p.2.2.2 (p.1.cells.map B8)) (hsz : p.1.text.size ≤ 1000) : Calls Try.prog 81 #[rv p] w fun e w' => e = .returned (.bool (badR p.1)) ∧ Below w.heap.size w w' := by
 obtain ⟨⟨s, x, l⟩, a, n, c⟩ := p
 have hc := fun w' (hb : Below w.heap.size w w') => tab_right s x l a n c (Nat.le_trans hsz (by decide)) w' (hs.below hb)
 unfold badR rv
 show Calls Try.prog 81 #[.agg #[.string s, .int .i64 x, .slice a n c]] w fun e w' => e = .returned (.bool (!ruOk ⟨s, x, l⟩)) ∧ Below w.heap.size w w'
 generalize ruOk ⟨s, x, l⟩ = v at hc ⊢
 go_enter Try.func81, Try.ntmps81
 go_wp2_with (go_at_call 82; refine (hc _ (blo w _)).mono ?_; rintro e w2 ⟨rfl, hb⟩)
 go_ret
 exact ⟨rfl, (blo w _).trans (hb.mono (blo w _).size)⟩

set_option maxHeartbeats 400000 in
theorem index_r (ps : List RH) (a : Option Addr) (n c : Nat) (w : World) (hs : Rul w a n c ps) :
  Calls Try.prog 97 #[.slice a n c, fnv 81] w fun e w' => ∃ i : Int, e = .returned (.int .i64 i) ∧ decide (0 ≤ i) = (rus ps).any badR ∧ Below w.heap.size w w' := by
 unfold fnv
 obtain rfl := hs.n_eq
 have hm1 := Nat.le_trans hs.top.le hs.top.cap
 unfold maxLen at hm1
 have HA : Hid ((rus ps).any badR = ps.any (fun p => badR p.1)) := hide (by unfold rus; rw [List.any_map]; rfl)
 go_enter Try.func97, Try.ntmps97
 go_wp2_with fail
 go_loopg [8] ps.length (fun g i w' => ∃ (k : Nat), k ≤ ps.length ∧ g = ps.length - k ∧ (ps.take k).any (fun p => badR p.1) = false ∧ i = .int .i64 k ∧ Below w.heap.size w w')
 case atStart => exact ⟨0, by omega, by omega, rfl, rfl, Below.refl _ _⟩
 case round =>
  obtain ⟨k, hk, hg, ht, rfl, hb⟩ := hrel
  have HG := hide hg
  have HT := hide ht
  clear hg ht
  by_cases hkl : k < ps.length
  ·obtain ⟨x, hx⟩ : ∃ x, ps[k]? = some x := ⟨ps[k], by simp [hkl]⟩
   have HH := hide hx
   have hs1 := hs.below hb
   obtain ⟨hrow, hsz⟩ := hs1.row x (List.mem_of_getElem? hx)
   clear hx
   have hc := valid_1 x wr hrow hsz
   unfold rv at hc
   cases hq : badR x.1
   ·have HN := hide (any_take_no (p := fun p : RH => badR p.1) HH.out HT.out hq)
    rw [hq] at hc
    clear hq
    go_wp2_with (first
     | (with_reducible refine idx_r 14 _ _ _ _ _ _ rfl hs1.top _ _ k rfl rfl _ HH.out ?_; intro b o hcell hcell2 hcell3 hbo)
     | (go_at_call 81; refine hc.mono ?_; rintro e w2 ⟨rfl, hb2⟩))
    have hb3 := hb.trans (hb2.mono hb.size)
    go_roundg (ps.length - (k + 1))
    case measure => have := HG.out; omega
    case rel => exact ⟨k + 1, by omega, rfl, HN.out, by go_num, hb3⟩
   ·have HN := hide (any_of_get (p := fun p : RH => badR p.1) HH.out hq)
    rw [hq] at hc
    clear hq
    go_wp2_with (first
     | (with_reducible refine idx_r 14 _ _ _ _ _ _ rfl hs1.top _ _ k rfl rfl _ HH.out ?_; intro b o hcell hcell2 hcell3 hbo)
     | (go_at_call 81; refine hc.mono ?_; rintro e w2 ⟨rfl, hb2⟩))
    go_ret
    exact ⟨_, rfl, by rw [HA.out, HN.out]; exact decide_eq_true (by omega), hb.trans (hb2.mono hb.size)⟩
  ·obtain rfl : k = ps.length := by omega
   go_wp2
   go_ret
   have := HT.out
   rw [List.take_length] at this
   exact ⟨_, rfl, by rw [HA.out, this]; rfl, hb⟩
set_option maxHeartbeats 400000 in
theorem contains_r (ps : List RH) (a : Option Addr) (n c : Nat) (w : World) (hs : Rul w a n c ps) :
  Calls Try.prog 80 #[.slice a n c, fnv 81] w fun e w' => e = .returned (.bool (!(rus ps).all ruOk)) ∧ Below w.heap.size w w' := by
 have hc := index_r ps a n c w hs
 rw [rules_eq, Bool.not_not]
 unfold fnv at hc ⊢
 go_enter Try.func80, Try.ntmps80
 go_wp2_with (go_at_call 97; refine hc.mono ?_; rintro e w2 ⟨i, rfl, hi, hb⟩)
 go_ret
 exact ⟨by rw [← hi]; rfl, hb⟩
def isOwn (c : UInt8) (r : Ru) : Bool := decide (r.whr = 0) && decide (chars r.text = [c])
theorem own_eq (l : List Ru) (c : UInt8) : ownB l c = l.any (isOwn c) := by
 unfold ownB
 rw [Bool.eq_iff_iff]
 simp only [decide_eq_true_eq, List.mem_map, nameOf, Prod.mk.injEq, List.any_eq_true, isOwn, Bool.and_eq_true]
 constructor
 ·rintro ⟨r, hr, h1, h2⟩; exact ⟨r, hr, h2, h1⟩
 ·rintro ⟨r, hr, h1, h2⟩; exact ⟨r, hr, h2, h1⟩
theorem isOwn_w {c : UInt8} {r : Ru} (h : r.whr ≠ 0) : isOwn c r = false := by unfold isOwn; simp [h]
theorem isOwn_n {c : UInt8} {r : Ru} (h : r.text.size ≠ 1) : isOwn c r = false := by
 have h2 := size_chars r.text
 unfold isOwn
 have : chars r.text ≠ [c] := fun e => h (by rw [h2, e]; rfl)
 simp [this]
theorem chars_one {s : ByteArray} (h : s.size = 1) : chars s = [s[0]'(by omega)] := by
 have h2 := size_chars s
 have h3 := chars_get (s := s) (k := 0) (by omega)
 cases hc : chars s with
 | nil => rw [hc] at h3; cases h3
 | cons c l =>
  rw [hc] at h2 h3
  cases l with
  | nil => cases h3; rfl
  | cons d l => simp at h2; omega
theorem isOwn_1 {c : UInt8} {r : Ru} (h0 : r.whr = 0) (h : r.text.size = 1) : isOwn c r = decide ((r.text[0]'(by omega)) = c) := by
 unfold isOwn
 rw [chars_one h, h0]; simp

set_option maxHeartbeats 1000000 in
theorem ref_own (ps : List RH) (a : Option Addr) (n c : Nat) (u : UInt8) (w : World) (hs : Rul w a n c ps) :
  Calls Try.prog 90 #[.slice a n c, .int .u8 (u.toNat : Int)] w fun e w' => e = .returned (.bool (ownB (rus ps) u)) ∧ w = w' := by
 obtain rfl := hs.n_eq
 have hm1 := Nat.le_trans hs.top.le hs.top.cap
 unfold maxLen at hm1
 obtain ⟨r, HR⟩ : ∃ r, Hid (ps.any (fun p => isOwn u p.1) = r) := ⟨_, hide rfl⟩
 rw [own_eq, show (rus ps).any (isOwn u) = ps.any (fun p => isOwn u p.1) by unfold rus; rw [List.any_map]; rfl, HR.out]
 go_enter Try.func90, Try.ntmps90
 go_wp2_with fail
 go_loopg [5] ps.length (fun g i w' => ∃ (k : Nat), k ≤ ps.length ∧ g = ps.length - k ∧ (ps.take k).any (fun p => isOwn u p.1) = false ∧ i = .int .i64 k ∧ w = w')
 case atStart => exact ⟨0, by omega, by omega, rfl, rfl, rfl⟩
 case round =>
  obtain ⟨k, hk, hg, ht, rfl, rfl⟩ := hrel
  have HG := hide hg
  have HT := hide ht
  clear hg ht
  by_cases hkl : k < ps.length
  ·obtain ⟨x, hx⟩ : ∃ x, ps[k]? = some x := ⟨ps[k], by simp [hkl]⟩
   have HH := hide hx
   obtain ⟨b, o, hab, hbw, c0, c1, c2⟩ := ru_cells hs.top hx
   obtain ⟨hrow, hsz⟩ := hs.row x (List.mem_of_getElem? hx)
   subst hab
   clear hx hrow c2
   obtain ⟨⟨s, wh, cl⟩, hd⟩ := x
   have c0 : w.cell? ⟨b, o + k * 3, none⟩ = some (.string s) := c0
   have c1 : w.cell? ⟨b, o + k * 3 + 1, none⟩ = some (.int .i64 wh) := c1
   have hsz : s.size ≤ 1000 := hsz
   by_cases h0 : wh = 0
   case neg =>
    have d0 : (wh == 0) = false := beq_eq_false_iff_ne.2 h0
    have HN := hide (any_take_no (p := fun p : RH => isOwn u p.1) HH.out HT.out (isOwn_w h0))
    clear h0
    go_wp2_with fail
    go_roundg (ps.length - (k + 1))
    case measure => have := HG.out; omega
    case rel => exact ⟨k + 1, by omega, rfl, HN.out, by go_num, rfl⟩
   subst h0
   by_cases h1 : s.size = 1
   case neg =>
    have d1 : ((s.size : Int) == 1) = false := beq_eq_false_iff_ne.2 (by omega)
    have HN := hide (any_take_no (p := fun p : RH => isOwn u p.1) HH.out HT.out (isOwn_n h1))
    clear h1
    go_wp2_with fail
    go_roundg (ps.length - (k + 1))
    case measure => have := HG.out; omega
    case rel => exact ⟨k + 1, by omega, rfl, HN.out, by go_num, rfl⟩
   have d1 : ((s.size : Int) == 1) = true := beq_iff_eq.2 (by omega)
   have h00 : 0 < s.size := by omega
   have ho : isOwn u ⟨s, 0, cl⟩ = decide (s[0] = u) := isOwn_1 (c := u) (r := ⟨s, 0, cl⟩) rfl h1
   clear h1
   by_cases h2 : s[0] = u
   ·have d2 : (((s[0]).toNat : Int) == (u.toNat : Int)) = true := beq_iff_eq.2 (by rw [h2])
    have HE : Hid (r = true) := hide (by rw [← HR.out]; exact any_of_get (p := fun p : RH => isOwn u p.1) HH.out (by show isOwn u ⟨s, 0, cl⟩ = true; rw [ho]; exact decide_eq_true h2))
    clear h2 ho
    go_wp2_with fail
    go_ret
    exact ⟨by rw [HE.out]; rfl, rfl⟩
   ·have d2 : (((s[0]).toNat : Int) == (u.toNat : Int)) = false := beq_eq_false_iff_ne.2 (fun e => h2 (UInt8.toNat_inj.1 (by omega)))
    have HN := hide (any_take_no (p := fun p : RH => isOwn u p.1) HH.out HT.out (by show isOwn u ⟨s, 0, cl⟩ = false; rw [ho]; exact decide_eq_false h2))
    clear h2 ho
    go_wp2_with fail
    go_roundg (ps.length - (k + 1))
    case measure => have := HG.out; omega
    case rel => exact ⟨k + 1, by omega, rfl, HN.out, by go_num, rfl⟩
  ·obtain rfl : k = ps.length := by omega
   have HE : Hid (r = false) := hide (by
    have := HT.out
    rw [List.take_length] at this
    rw [← HR.out, this])
   go_wp2
   go_ret
   exact ⟨by rw [HE.out]; rfl, rfl⟩
end Go.Proofs.Ytlpkicjijlcbfaa
end

section
/- Chapter 06: the word at a place: bounds; inWord. -/
namespace Go.Proofs.Ytlpkicjijlcbfaa
open Go.RowKit Go.Dx

theorem quiet_left {P : Program} {f : FuncId} {args : Array Value} {w : World} {n : Nat} {v : Value} (h : Calls P f args (w.drewN n) fun e w' => e = .returned v ∧ w.drewN n = w') :
  Calls P f args (w.drewN n) fun e w'' => e = .returned v ∧ ∃ m, w'' = w.drewN m := h.mono fun _ _ ⟨he, hm⟩ => ⟨he, n, hm.symm⟩
theorem inAt_neg {l : List Sy} {g i : Int} (h : i < 0) : inAt l g i = false := by unfold inAt; rw [decide_eq_false (by omega)]; rfl
theorem inAt_out {l : List Sy} {g : Int} {k : Nat} (h : l.length ≤ k) : inAt l g (k : Int) = false := by rw [inAt_nat, List.getElem?_eq_none h]
theorem inAt_get {l : List Sy} {g : Int} {k : Nat} {y : Sy} (h : l[k]? = some y) : inAt l g (k : Int) = (decide (y.lang = g) && isL y.c) := by rw [inAt_nat, h]

set_option maxHeartbeats 1000000 in
theorem bounds_1 (l : List Sy) (a : Option Addr) (n c g1 g2 : Nat) (i : Int) (p : Nat) (x : Sy) (w : World) (hs : Sl w 2 a n c (l.flatMap sc)) (hx : l[p]? = some x) (h1 : w.cell? ⟨g1, 0, none⟩ = some (.slice a n c)) (h2 : w.cell? ⟨g2, 0, none⟩ = some (.int .i64 (p : Int))) :
  Calls Try.prog 99 #[.int .i64 i, .pointer (some ⟨g1, 0, none⟩), .pointer (some ⟨g2, 0, none⟩)] w fun e w' => e = .returned (.bool (inAt l x.lang i)) ∧ Below w.heap.size w w' := by
 obtain rfl := hs.nf sc_len (by decide)
 have hm1 := Nat.le_trans hs.le hs.cap
 unfold maxLen at hm1
 obtain ⟨r, HR⟩ : ∃ r, Hid (inAt l x.lang i = r) := ⟨_, hide rfl⟩
 rw [HR.out]
 have hp := (List.getElem?_eq_some_iff.1 hx).1
 by_cases h0 : 0 ≤ i
 case neg =>
  have d0 : decide (0 ≤ i) = false := decide_eq_false h0
  have HE : Hid (r = false) := hide (by rw [← HR.out]; exact inAt_neg (by omega))
  clear h0
  go_enter Try.func99, Try.ntmps99
  go_wp2
  go_quiet (fail)
  go_wp2
  go_ret
  exact ⟨by rw [HE.out]; rfl, belowN (Below.refl _ _) _⟩
 obtain ⟨k, rfl⟩ : ∃ k : Nat, i = (k : Int) := ⟨i.toNat, by omega⟩
 clear h0
 by_cases hk : k < l.length
 case neg =>
  have d1 : decide (k < l.length) = false := decide_eq_false hk
  have HE : Hid (r = false) := hide (by rw [← HR.out]; exact inAt_out (by omega))
  clear hk
  go_enter Try.func99, Try.ntmps99
  go_wp2
  go_quiet (fail)
  go_wp2
  go_ret
  exact ⟨by rw [HE.out]; rfl, belowN (Below.refl _ _) _⟩
 have d1 : decide (k < l.length) = true := decide_eq_true hk
 obtain ⟨y, hy⟩ : ∃ y, l[k]? = some y := ⟨l[k], by simp [hk]⟩
 obtain ⟨b, o, hab, hbw, c0, c1⟩ := sy_cells hs hy
 obtain ⟨b', o', hab', _, e0, _⟩ := sy_cells hs hx
 subst hab
 cases hab'
 have hr := inAt_get (g := x.lang) hy
 rw [HR.out] at hr
 obtain ⟨gy, cy⟩ := y
 obtain ⟨gx, cx⟩ := x
 have c0 : w.cell? ⟨b, o + k * 2, none⟩ = some (.int .i64 gy) := c0
 have c1 : w.cell? ⟨b, o + k * 2 + 1, none⟩ = some (.int .u8 (cy.toNat : Int)) := c1
 have e0 : w.cell? ⟨b, o + p * 2, none⟩ = some (.int .i64 gx) := e0
 have hr : r = (decide (gy = gx) && isL cy) := hr
 have HRR := hide hr
 clear hr hy hx HR
 have hl := fun w' => tab_letter cy w'
 by_cases hg : gy = gx
 ·subst hg
  have HE : Hid (r = isL cy) := hide (by rw [HRR.out]; simp)
  generalize isL cy = v at hl HE
  clear HRR
  go_enter Try.func99, Try.ntmps99
  go_wp2
  go_quiet ((go_at_call 98; exact quiet_left (hl _)))
  go_wp2
  go_ret
  exact ⟨by rw [HE.out]; rfl, belowN (Below.refl _ _) _⟩
 ·have dg : (gy == gx) = false := beq_eq_false_iff_ne.2 hg
  have HE : Hid (r = false) := hide (by rw [HRR.out]; simp [hg])
  clear HRR hg hl
  go_enter Try.func99, Try.ntmps99
  go_wp2
  go_quiet (fail)
  go_wp2
  go_ret
  exact ⟨by rw [HE.out]; rfl, belowN (Below.refl _ _) _⟩
end Go.Proofs.Ytlpkicjijlcbfaa
end

section
/- Chapter 06: the word at a place: bounds. -/
namespace Go.Dx
open Go.RowKit
theorem cell_below {w w' : World} {p : Addr} {u : Value} (h : w.cell? p = some u) (hb : Below w.heap.size w w') : w'.cell? p = some u := by
 rw [hb.cell (World.block_lt_of_cell? w _ h)]; exact h
theorem lo_stay {l : List Sy} {g : Int} {p A : Nat} (h : ∀ j : Int, (A : Int) ≤ j → j < p → inAt l g j = true) (hA : inAt l g ((A : Int) - 1) = true) : 1 ≤ A ∧ ∀ j : Int, ((A - 1 : Nat) : Int) ≤ j → j < p → inAt l g j = true := by
 have h1 : 1 ≤ A := by
  by_cases e : A = 0
  ·subst e; rw [show ((0 : Nat) : Int) - 1 = -1 from rfl, show inAt l g (-1) = false from rfl] at hA; cases hA
  ·omega
 refine ⟨h1, fun j hj hp => ?_⟩
 by_cases e : j = (A : Int) - 1
 ·rw [e]; exact hA
 ·exact h j (by omega) hp
theorem hi_stay {l : List Sy} {g : Int} {p B : Nat} (h : ∀ j : Int, (p : Int) ≤ j → j < B → inAt l g j = true) (hB : inAt l g (B : Int) = true) : B < l.length ∧ ∀ j : Int, (p : Int) ≤ j → j < ((B + 1 : Nat) : Int) → inAt l g j = true := by
 refine ⟨?_, fun j hj hp => ?_⟩
 ·rw [inAt_nat] at hB
  cases hb : l[B]? with
  | none => rw [hb] at hB; cases hB
  | some y => exact (List.getElem?_eq_some_iff.1 hb).1
 ·by_cases e : j = (B : Int)
  ·rw [e]; exact hB
  ·exact h j hj (by omega)
end Go.Dx
namespace Go.Proofs.Ytlpkicjijlcbfaa
open Go.RowKit Go.Dx

set_option maxHeartbeats 1000000 in
theorem tab_bounds (l : List Sy) (a : Option Addr) (n c : Nat) (p : Nat) (x : Sy) (w : World) (hs : Sl w 2 a n c (l.flatMap sc)) (hx : l[p]? = some x) :
  Calls Try.prog 86 #[.slice a n c, .int .i64 (p : Int)] w fun e w' => ∃ A B : Nat, e = .returned (.tuple #[.int .i64 (A : Int), .int .i64 (B : Int)]) ∧ A ≤ p ∧ B ≤ l.length ∧ IsLo l x.lang p A ∧ IsHi l x.lang p B ∧ Below w.heap.size w w' := by
 obtain rfl := hs.nf sc_len (by decide)
 have hm1 := Nat.le_trans hs.le hs.cap
 unfold maxLen at hm1
 have hp := (List.getElem?_eq_some_iff.1 hx).1
 have HX := hide hx
 clear hx
 obtain ⟨g, HGG⟩ : ∃ g, Hid (x.lang = g) := ⟨_, hide rfl⟩
 rw [HGG.out]
 have b1 : ∀ m, ((((w.alloc (.cells #[.slice a l.length c] 31)).alloc (.cells #[.int .i64 (p : Int)] 3)).drewN m).cell? ⟨w.heap.size, 0, none⟩ = some (.slice a l.length c)) := fun m => (((Box.new w 31 #[.slice a l.length c]).alloc _).drewN m).at_ rfl
 have b2 : ∀ m, ((((w.alloc (.cells #[.slice a l.length c] 31)).alloc (.cells #[.int .i64 (p : Int)] 3)).drewN m).cell? ⟨w.heap.size + 1, 0, none⟩ = some (.int .i64 (p : Int))) := fun m => by
  have := ((Box.new (w.alloc (.cells #[.slice a l.length c] 31)) 3 #[.int .i64 (p : Int)]).drewN m).at_ (j := 0) (u := .int .i64 (p : Int)) rfl
  rwa [show (w.alloc (.cells #[.slice a l.length c] 31)).heap.size = w.heap.size + 1 by simp] at this
 have b3 : ∀ m, Below w.heap.size w (((w.alloc (.cells #[.slice a l.length c] 31)).alloc (.cells #[.int .i64 (p : Int)] 3)).drewN m) := fun m => belowN (((blo w _)).trans ((blo _ _).mono (by simp))) m
 have HB : Hid ((∀ m, ((((w.alloc (.cells #[.slice a l.length c] 31)).alloc (.cells #[.int .i64 (p : Int)] 3)).drewN m).cell? ⟨w.heap.size, 0, none⟩ = some (.slice a l.length c))) ∧ (∀ m, ((((w.alloc (.cells #[.slice a l.length c] 31)).alloc (.cells #[.int .i64 (p : Int)] 3)).drewN m).cell? ⟨w.heap.size + 1, 0, none⟩ = some (.int .i64 (p : Int)))) ∧ ∀ m, Below w.heap.size w (((w.alloc (.cells #[.slice a l.length c] 31)).alloc (.cells #[.int .i64 (p : Int)] 3)).drewN m)) := hide ⟨b1, b2, b3⟩
 clear b1 b2 b3
 go_enter Try.func86, Try.ntmps86
 go_wp2
 go_quiet (fail)
 go_wp2_with fail
 go_loopg [6] p (fun gh i w' => ∃ (A : Nat), A ≤ p ∧ gh = A ∧ Hid (∀ j : Int, (A : Int) ≤ j → j < p → inAt l g j = true) ∧ i = .int .i64 (A : Int) ∧ w'.cell? ⟨w.heap.size, 0, none⟩ = some (.slice a l.length c) ∧ w'.cell? ⟨w.heap.size + 1, 0, none⟩ = some (.int .i64 (p : Int)) ∧ Below w.heap.size w w')
 case atStart => exact ⟨p, Nat.le_refl _, rfl, hide (fun j h1 h2 => by omega), rfl, HB.out.1 _, HB.out.2.1 _, HB.out.2.2 _⟩
 case round =>
  obtain ⟨A, hA, hg, HALL, rfl, k1, k2, hb⟩ := hrel
  have HG := hide hg
  clear hg
  have hc := bounds_1 l a _ c w.heap.size (w.heap.size + 1) ((A : Int) - 1) p x wr (hs.below hb) HX.out k1 k2
  rw [HGG.out] at hc
  cases hq : inAt l g ((A : Int) - 1)
  ·have HLO : Hid (IsLo l g p A) := hide ⟨by omega, HALL.out, hq⟩
   rw [hq] at hc
   clear hq HALL
   go_wp2_with (go_at_call 99; refine hc.mono ?_; rintro e w2 ⟨rfl, hb2⟩)
   have hb3 := hb.trans (hb2.mono hb.size)
   have k3 := cell_below k1 hb2
   have k4 := cell_below k2 hb2
   clear k1 k2 hb2 hb hc
   go_loopg [7] (l.length - p) (fun gh i w' => ∃ (B : Nat), p ≤ B ∧ B ≤ l.length ∧ gh = l.length - B ∧ Hid (∀ j : Int, (p : Int) ≤ j → j < B → inAt l g j = true) ∧ i = .int .i64 (B : Int) ∧ w'.cell? ⟨w.heap.size, 0, none⟩ = some (.slice a l.length c) ∧ w'.cell? ⟨w.heap.size + 1, 0, none⟩ = some (.int .i64 (p : Int)) ∧ Below w.heap.size w w')
   case atStart => exact ⟨p, Nat.le_refl _, by omega, rfl, hide (fun j h1 h2 => by omega), rfl, k3, k4, hb3⟩
   case round =>
    clear k3 k4 hb3
    obtain ⟨B, hB1, hB2, hg2, HALL, rfl, k1, k2, hb⟩ := hrel
    have HG2 := hide hg2
    clear hg2
    have hc := bounds_1 l a _ c w.heap.size (w.heap.size + 1) (B : Int) p x wr (hs.below hb) HX.out k1 k2
    rw [HGG.out] at hc
    cases hq : inAt l g (B : Int)
    ·have HHI : Hid (IsHi l g p B) := hide ⟨by omega, HALL.out, hq⟩
     rw [hq] at hc
     clear hq HALL
     go_wp2_with (go_at_call 99; refine hc.mono ?_; rintro e w2 ⟨rfl, hb2⟩)
     go_ret2
     exact ⟨A, B, rfl, hA, hB2, HLO.out, HHI.out, hb.trans (hb2.mono hb.size)⟩
    ·obtain ⟨hB3, hall⟩ := hi_stay HALL.out hq
     have HAL2 := hide hall
     rw [hq] at hc
     clear hq HALL hall
     go_wp2_with (go_at_call 99; refine hc.mono ?_; rintro e w2 ⟨rfl, hb2⟩)
     have hb3 := hb.trans (hb2.mono hb.size)
     have k3 := cell_below k1 hb2
     have k4 := cell_below k2 hb2
     go_roundg (l.length - (B + 1))
     case measure => have := HG2.out; omega
     case rel => exact ⟨B + 1, by omega, hB3, rfl, HAL2, by go_num, k3, k4, hb3⟩
  ·obtain ⟨hA1, hall⟩ := lo_stay HALL.out hq
   have HAL2 := hide hall
   obtain ⟨A', rfl⟩ : ∃ A', A = A' + 1 := ⟨A - 1, by omega⟩
   rw [hq, show (((A' + 1 : Nat) : Int) - 1) = (A' : Int) by omega] at hc
   clear hq HALL hall
   go_wp2_with (go_at_call 99; refine hc.mono ?_; rintro e w2 ⟨rfl, hb2⟩)
   have hb3 := hb.trans (hb2.mono hb.size)
   have k3 := cell_below k1 hb2
   have k4 := cell_below k2 hb2
   go_roundg A'
   case measure => have := HG.out; omega
   case rel => exact ⟨A', by omega, rfl, HAL2, by go_num, k3, k4, hb3⟩
end Go.Proofs.Ytlpkicjijlcbfaa
end

section
/- Chapter 06: the reference's inWord. -/
namespace Go.Proofs.Ytlpkicjijlcbfaa
open Go.RowKit Go.Dx
theorem word_out {l : List Sy} {i : Nat} (h : l.length ≤ i) : inWord l i = false := by
 cases i with
 | zero => rfl
 | succ k =>
  simp only [inWord, List.getElem?_eq_none h]
  cases l[k]? <;> rfl
set_option maxHeartbeats 1000000 in
theorem ref_inWord (l : List Sy) (a : Option Addr) (n c : Nat) (v : Int) (i : Nat) (hv : v = (i : Int)) (w : World) (hs : Sl w 2 a n c (l.flatMap sc)) :
  Calls Try.prog 102 #[.slice a n c, .int .i64 v] w fun e w' => e = .returned (.bool (inWord l i)) ∧ Below w.heap.size w w' := by
 subst hv
 obtain rfl := hs.nf sc_len (by decide)
 have hm1 := Nat.le_trans hs.le hs.cap
 unfold maxLen at hm1
 obtain ⟨r, HR⟩ : ∃ r, Hid (inWord l i = r) := ⟨_, hide rfl⟩
 rw [HR.out]
 cases i with
 | zero =>
  have HE : Hid (r = false) := hide (by rw [← HR.out]; rfl)
  go_enter Try.func102, Try.ntmps102
  go_wp2
  go_ret
  exact ⟨by rw [HE.out]; rfl, Below.refl _ _⟩
 | succ k =>
  have d0 : decide ((k : Int) + 1 < 1) = false := decide_eq_false (by omega)
  by_cases hk : k + 1 < l.length
  case neg =>
   have d1 : decide (l.length ≤ k + 1) = true := decide_eq_true (by omega)
   have d2 : decide ((l.length : Int) ≤ (k : Int) + 1) = true := decide_eq_true (by omega)
   have HE : Hid (r = false) := hide (by rw [← HR.out]; exact word_out (by omega))
   clear hk
   go_enter Try.func102, Try.ntmps102
   go_wp2
   go_ret
   exact ⟨by rw [HE.out]; rfl, Below.refl _ _⟩
  have d1 : decide (l.length ≤ k + 1) = false := decide_eq_false (by omega)
  have d2 : decide ((l.length : Int) ≤ (k : Int) + 1) = false := decide_eq_false (by omega)
  obtain ⟨x, hx⟩ : ∃ x, l[k]? = some x := ⟨l[k]'(by omega), List.getElem?_eq_getElem _⟩
  obtain ⟨y, hy⟩ : ∃ y, l[k + 1]? = some y := ⟨l[k + 1], by simp [hk]⟩
  obtain ⟨b, o, hab, hbw, c0, c1⟩ := sy_cells hs hx
  obtain ⟨b', o', hab', _, e0, e1⟩ := sy_cells hs hy
  subst hab
  cases hab'
  have hr := inWord_of hx hy
  rw [HR.out] at hr
  obtain ⟨gx, cx⟩ := x
  obtain ⟨gy, cy⟩ := y
  have c0 : w.cell? ⟨b, o + k * 2, none⟩ = some (.int .i64 gx) := c0
  have c1 : w.cell? ⟨b, o + k * 2 + 1, none⟩ = some (.int .u8 (cx.toNat : Int)) := c1
  have e0 : w.cell? ⟨b, o + (k + 1) * 2, none⟩ = some (.int .i64 gy) := e0
  have e1 : w.cell? ⟨b, o + (k + 1) * 2 + 1, none⟩ = some (.int .u8 (cy.toNat : Int)) := e1
  have HRR : Hid (r = (isL cx && isL cy && decide (gx = gy))) := hide hr
  clear hr hy hx HR
  have h1 := fun w' => ref_Is cx w'
  have h2 := fun w' => ref_Is cy w'
  cases q1 : isL cx
  ·have HE : Hid (r = false) := hide (by rw [HRR.out, q1]; rfl)
   rw [q1] at h1
   clear HRR h2 q1
   go_enter Try.func102, Try.ntmps102
   go_wp2
   go_quiet ((go_at_call 101; exact quiet_left (h1 _)))
   go_wp2
   go_ret
   exact ⟨by rw [HE.out]; rfl, belowN (Below.refl _ _) _⟩
  rw [q1] at h1
  cases q2 : isL cy
  ·have HE : Hid (r = false) := hide (by rw [HRR.out, q1, q2]; rfl)
   rw [q2] at h2
   clear HRR q1 q2
   go_enter Try.func102, Try.ntmps102
   go_wp2
   go_quiet (first | (go_at_call_of 101 cx; exact quiet_left (h1 _)) | (go_at_call_of 101 cy; exact quiet_left (h2 _)))
   go_wp2
   go_ret
   exact ⟨by rw [HE.out]; rfl, belowN (Below.refl _ _) _⟩
  rw [q2] at h2
  have HR3 : Hid (r = decide (gx = gy)) := hide (by rw [HRR.out, q1, q2]; simp)
  clear HRR q1 q2
  by_cases hg : gx = gy
  ·subst hg
   have HE : Hid (r = true) := hide (by rw [HR3.out]; simp)
   go_enter Try.func102, Try.ntmps102
   go_wp2
   go_quiet (first | (go_at_call_of 101 cx; exact quiet_left (h1 _)) | (go_at_call_of 101 cy; exact quiet_left (h2 _)))
   go_wp2
   go_ret
   exact ⟨by rw [HE.out]; rfl, belowN (Below.refl _ _) _⟩
  ·have dg : (gx == gy) = false := beq_eq_false_iff_ne.2 hg
   have HE : Hid (r = false) := hide (by rw [HR3.out]; simp [hg])
   clear hg
   go_enter Try.func102, Try.ntmps102
   go_wp2
   go_quiet (first | (go_at_call_of 101 cx; exact quiet_left (h1 _)) | (go_at_call_of 101 cy; exact quiet_left (h2 _)))
   go_wp2
   go_ret
   exact ⟨by rw [HE.out]; rfl, belowN (Below.refl _ _) _⟩
end Go.Proofs.Ytlpkicjijlcbfaa
end

section
/- Chapter 06: whether a rule fits at a place: fits, of the program. -/
namespace Go.Dx
open Go.RowKit
theorem sameAt_step {g : Int} : ∀ (s : List UInt8) (b : Bool) (L : List Sy) (k : Nat) (u : UInt8) (y : Sy), s[k]? = some u → L[k]? = some y →
  sameAt g b (s.take (k + 1)) L = (sameAt g b (s.take k) L && (decide (low y.c = u) && decide (y.lang = g) && (b && decide (k = 0) || !isC y.c))) := by
 intro s
 induction s with
 | nil => intro b L k u y h; simp at h
 | cons v s ih =>
  intro b L k u y hs hL
  cases L with
  | nil => simp at hL
  | cons x L =>
   cases k with
   | zero =>
    simp only [List.getElem?_cons_zero, Option.some.injEq] at hs hL
    subst hs; subst hL
    simp [sameAt]
   | succ k =>
    simp only [List.getElem?_cons_succ] at hs hL
    have := ih false L k u y hs hL
    simp only [List.take_succ_cons, sameAt, this, Bool.false_and, Bool.false_or, Nat.add_eq_zero_iff, Nat.one_ne_zero, and_false, decide_false, Bool.and_false]
    simp only [Bool.and_assoc]
theorem sameAt_take {g : Int} : ∀ (s : List UInt8) (b : Bool) (L : List Sy) (k : Nat), sameAt g b (s.take k) L = false → sameAt g b s L = false := by
 intro s
 induction s with
 | nil => intro b L k h; simpa using h
 | cons v s ih =>
  intro b L k h
  cases k with
  | zero => simp [sameAt] at h
  | succ k =>
   cases L with
   | nil => rfl
   | cons x L =>
    simp only [List.take_succ_cons, sameAt] at h ⊢
    cases hq : sameAt g false s L
    ·simp
    ·cases hq2 : sameAt g false (s.take k) L
     ·rw [ih _ _ _ hq2] at hq; cases hq
     ·rw [hq2] at h; exact h
theorem fits_no {r : Ru} {l : List Sy} {i : Nat} (hi : i < l.length) (h : l.length < i + r.text.size) : fitsB r l i = false := by
 cases hq : fitsB r l i
 ·rfl
 ·have := fits_len hi hq; omega
theorem fits_at {r : Ru} {l : List Sy} {i : Nat} {x : Sy} (hx : l[i]? = some x) : fitsB r l i = (sameAt x.lang true (chars r.text) (l.drop i) && placeOk r l i) := by
 unfold fitsB; rw [hx]
theorem place_any {r : Ru} {l : List Sy} {i : Nat} (h : small r.text = false) : placeOk r l i = true := by unfold placeOk; rw [h]; rfl
theorem place_small {r : Ru} {l : List Sy} {i : Nat} (h : small r.text = true) : placeOk r l i = (if r.whr = 1 then !inWord l i && !inWord l (i + r.text.size) else if r.whr = 2 then !inWord l i && inWord l (i + r.text.size) else if r.whr = 3 then inWord l i else true) := by
 unfold placeOk; rw [h]; rfl
end Go.Dx
namespace Go.Proofs.Ytlpkicjijlcbfaa
open Go.RowKit Go.Dx
theorem hold {p : Prop} (h : Hid p) : p := h.out
section
variable {w : World} {ops : Array Oper} {rest : List Oper} {act : Act} {Q : Exit → Act → World → Prop} {ty : TypeId} {pos : String} {after : Array Edge}
theorem cut_y (d : Nat) (x lo hi : Operand) (a : Option Addr) (n c : Nat) (L : List Sy) (hx : act.eval x = .slice a n c) (hs : Sl w 2 a n c (L.flatMap sc)) (kl ku : IntKind) (lv uv : Int) (l m : Nat) (hl : act.eval lo = .int kl lv) (hu : act.eval hi = .int ku uv)
  (hlv : lv = (l : Int)) (huv : uv = ((l + m : Nat) : Int)) (hun : l + m ≤ n)
  (hK : ∀ a', Sl w 2 a' m (c - l) (((L.drop l).take m).flatMap sc) → wpList Try.prog ops Q rest (act.put (some d) (.slice a' m (c - l))) w) :
  wpList Try.prog ops Q ({ dst := some d, op := .slice 31 x (some lo) (some hi) none, type := ty, pos := pos, after := after, guard := none } :: rest) act w := by
 refine cut_sl d 31 x lo hi 88 Try.underlying31 2 size_sym a n c _ hx hs kl ku lv uv l (l + m) hl hu hlv huv (by omega) hun ?_
 intro a' h _
 rw [Nat.add_sub_cancel_left, flat_drop sc_len, flat_take sc_len] at h
 rw [Nat.add_sub_cancel_left]
 exact hK a' h
end
theorem step_yes {g : Int} {s : List UInt8} {L : List Sy} {k : Nat} {u : UInt8} {y : Sy} (hs : s[k]? = some u) (hL : L[k]? = some y) (h0 : sameAt g true (s.take k) L = true) (h1 : low y.c = u) (h2 : y.lang = g) (h3 : k = 0 ∨ isC y.c = false) : sameAt g true (s.take (k + 1)) L = true := by
 rw [sameAt_step s true L k u y hs hL, h0, decide_eq_true h1, decide_eq_true h2]
 rcases h3 with h3 | h3 <;> simp [h3]
theorem step_no {g : Int} {s : List UInt8} {L : List Sy} {k : Nat} {u : UInt8} {y : Sy} (hs : s[k]? = some u) (hL : L[k]? = some y) (h : low y.c ≠ u ∨ y.lang ≠ g ∨ (0 < k ∧ isC y.c = true)) : sameAt g true s L = false := by
 refine sameAt_take s true L (k + 1) ?_
 rw [sameAt_step s true L k u y hs hL]
 rcases h with h | h | ⟨h, h2⟩
 ·simp [h]
 ·simp [h]
 ·have : k ≠ 0 := by omega
  simp [this, h2]

set_option maxHeartbeats 4000000 in
theorem tab_fits (s : ByteArray) (wh : Int) (cl : List UInt8) (ha : Option Addr) (hn hcap : Nat) (l : List Sy) (a : Option Addr) (n c : Nat) (v : Int) (i : Nat) (hv : v = (i : Int)) (x : Sy) (hx : l[i]? = some x) (h1 : 1 ≤ s.size) (h8 : s.size ≤ 8) (hll : l.length ≤ 1000000) (w : World) (hs : Sl w 2 a n c (l.flatMap sc)) :
  Calls Try.prog 63 #[.agg #[.string s, .int .i64 wh, .slice ha hn hcap], .slice a n c, .int .i64 v] w fun e w' => e = .returned (.bool (fitsB ⟨s, wh, cl⟩ l i)) ∧ Below w.heap.size w w' := by
 subst hv
 obtain rfl := hs.nf sc_len (by decide)
 have hm1 := Nat.le_trans hs.le hs.cap
 unfold maxLen at hm1
 have hi := (List.getElem?_eq_some_iff.1 hx).1
 obtain ⟨r, HR⟩ : ∃ r, Hid (fitsB ⟨s, wh, cl⟩ l i = r) := ⟨_, hide rfl⟩
 rw [HR.out]
 by_cases hlen : i + s.size ≤ l.length
 case neg =>
  have d1 : decide (l.length < i + s.size) = true := decide_eq_true (by omega)
  have d2 : decide ((l.length : Int) < (i : Int) + (s.size : Int)) = true := decide_eq_true (by omega)
  have HE : Hid (r = false) := hide (by rw [← HR.out]; exact fits_no hi (by show l.length < i + s.size; omega))
  clear hlen hx
  go_enter Try.func63, Try.ntmps63
  go_wp2_with fail
  go_ret
  exact ⟨by rw [HE.out]; rfl, blo w _⟩
 have d1 : decide (l.length < i + s.size) = false := decide_eq_false (by omega)
 have d2 : decide ((l.length : Int) < (i : Int) + (s.size : Int)) = false := decide_eq_false (by omega)
 have HF := hide (fits_at (r := ⟨s, wh, cl⟩) hx)
 have HX := hide hx
 obtain ⟨gx, cx⟩ := x
 obtain ⟨b, o, hab, hbw, e0, _⟩ := sy_cells hs hx
 subst hab
 have e0 : w.cell? ⟨b, o + i * 2, none⟩ = some (.int .i64 gx) := e0
 clear hx
 have hsw := hs.alloc (.cells #[.string s, .int .i64 wh, .slice ha hn hcap] 84)
 have k0 : (w.alloc (.cells #[.string s, .int .i64 wh, .slice ha hn hcap] 84)).cell? ⟨w.heap.size, 0, none⟩ = some (.string s) := (Box.new w _ _).at_ rfl
 have k1 : (w.alloc (.cells #[.string s, .int .i64 wh, .slice ha hn hcap] 84)).cell? ⟨w.heap.size, 1, none⟩ = some (.int .i64 wh) := (Box.new w _ _).at_ rfl
 have hb0 := blo w (.cells #[.string s, .int .i64 wh, .slice ha hn hcap] 84)
 have hchars : ∀ k (hk : k < s.size), (chars s)[k]? = some s[k] := fun k hk => chars_get hk
 have HCH := hide hchars
 have HLEN : Hid ((chars s).length = s.size) := hide (size_chars s).symm
 clear hchars
 have HD2 := hide d2
 go_enter Try.func63, Try.ntmps63
 go_wp2_with (with_reducible refine cut_y 29 _ _ _ _ _ _ _ rfl hsw _ _ _ _ i s.size rfl rfl rfl (by omega) hlen ?_; intro a' hs')
 generalize w.alloc (.cells #[.string s, .int .i64 wh, .slice ha hn hcap] 84) = w1 at *
 go_loopg [31] s.size (fun gh t w' => ∃ (k : Nat), k ≤ s.size ∧ gh = s.size - k ∧ Hid (sameAt gx true ((chars s).take k) (l.drop i) = true) ∧ t = .int .i64 (k : Int) ∧ Below w1.heap.size w1 w')
 case atStart => exact ⟨0, by omega, by omega, hide rfl, rfl, Below.refl _ _⟩
 case round =>
  obtain ⟨k, hk, hg, HS, rfl, hb⟩ := hrel
  have HG := hide hg
  clear hg
  have q0 := cell_below k0 hb
  have q1 := cell_below k1 hb
  have hsr := hsw.below hb
  have hsr' := hs'.below hb
  have f0 : wr.cell? ⟨b, o + i * 2, none⟩ = some (.int .i64 gx) := cell_below (cell_below e0 hb0) hb
  have hbr : b < wr.heap.size := World.block_lt_of_cell? _ _ f0
  have hwb : w.heap.size < wr.heap.size := World.block_lt_of_cell? _ _ q0
  by_cases hkl : k < s.size
  ·obtain ⟨y, hy⟩ : ∃ y, l[i + k]? = some y := ⟨l[i + k]'(by omega), List.getElem?_eq_getElem _⟩
   have hy' : ((l.drop i).take s.size)[k]? = some y := by rw [List.getElem?_take, if_pos hkl, List.getElem?_drop]; exact hy
   have hyd : (l.drop i)[k]? = some y := by rw [List.getElem?_drop]; exact hy
   have HY := hide hy'
   have HYD := hide hyd
   clear hy hy' hyd
   obtain ⟨gy, cy⟩ := y
   have hL := fun w' => tab_Letter cy w'
   unfold LetterR at hL
   have HSK := hide (HCH.out k hkl)
   by_cases t1 : low cy = s[k]
   case neg =>
    have c1 : (((low cy).toNat : Int) != ((s[k]).toNat : Int)) = true := bne_iff_ne.2 (fun e => t1 (UInt8.toNat_inj.1 (by omega)))
    have HE : Hid (r = false) := hide (by rw [← HR.out, HF.out, step_no HSK.out HYD.out (.inl t1)]; rfl)
    clear t1
    go_wp2_with (first
     | (with_reducible refine idx_y 34 _ _ _ _ _ _ rfl hsr' _ _ k rfl rfl _ HY.out ?_; intro bb oo hcell hcell2 hbo)
     | (go_at_call 62; refine (hL _).mono ?_; rintro e w2 ⟨rfl, rfl⟩))
    go_quiet (fail)
    go_wp2
    go_ret
    exact ⟨by rw [HE.out]; rfl, hb0.trans ((hb.trans (belowN ((blo _ _).mono hb.size) _)).mono hb0.size)⟩
   have c1 : (((low cy).toNat : Int) != ((s[k]).toNat : Int)) = false := by rw [t1]; simp
   by_cases t2 : gy = gx
   case neg =>
    have c2 : (gy != gx) = true := bne_iff_ne.2 t2
    have HE : Hid (r = false) := hide (by rw [← HR.out, HF.out, step_no HSK.out HYD.out (.inr (.inl t2))]; rfl)
    clear t1 t2
    go_wp2_with (first
     | (with_reducible refine idx_y 34 _ _ _ _ _ _ rfl hsr' _ _ k rfl rfl _ HY.out ?_; intro bb oo hcell hcell2 hbo)
     | (go_at_call 62; refine (hL _).mono ?_; rintro e w2 ⟨rfl, rfl⟩))
    go_quiet (fail)
    go_wp2
    go_ret
    exact ⟨by rw [HE.out]; rfl, hb0.trans ((hb.trans (belowN ((blo _ _).mono hb.size) _)).mono hb0.size)⟩
   subst t2
   have c2 : (gy != gy) = false := by simp
   cases t3 : isC cy
   ·have HS2 := hide (step_yes HSK.out HYD.out HS.out t1 rfl (.inr t3))
    rw [t3] at hL
    clear t1 t3
    go_wp2_with (first
     | (with_reducible refine idx_y 34 _ _ _ _ _ _ rfl hsr' _ _ k rfl rfl _ HY.out ?_; intro bb oo hcell hcell2 hbo)
     | (go_at_call 62; refine (hL _).mono ?_; rintro e w2 ⟨rfl, rfl⟩))
    go_quiet (fail)
    go_wp2
    have hb3 : ∀ o m, Below w1.heap.size w1 ((wr.alloc o).drewN m) := fun o m => hb.trans (belowN ((blo wr o).mono hb.size) m)
    go_roundg (s.size - (k + 1))
    case measure => have := HG.out; omega
    case rel => exact ⟨k + 1, by omega, rfl, HS2, by go_num, hb3 _ _⟩
   ·by_cases t4 : k = 0
    ·have HS2 := hide (step_yes HSK.out HYD.out HS.out t1 rfl (.inl t4))
     subst t4
     rw [t3] at hL
     clear t1 t3
     go_wp2_with (first
      | (with_reducible refine idx_y 34 _ _ _ _ _ _ rfl hsr' _ _ 0 rfl rfl _ HY.out ?_; intro bb oo hcell hcell2 hbo)
      | (go_at_call 62; refine (hL _).mono ?_; rintro e w2 ⟨rfl, rfl⟩))
     go_quiet (fail)
     go_wp2
     have hb3 : ∀ o m, Below w1.heap.size w1 ((wr.alloc o).drewN m) := fun o m => hb.trans (belowN ((blo wr o).mono hb.size) m)
     go_roundg (s.size - (0 + 1))
     case measure => have := HG.out; omega
     case rel => exact ⟨0 + 1, by omega, rfl, HS2, by go_num, hb3 _ _⟩
    ·have d5 : decide (0 < k) = true := decide_eq_true (by omega)
     have d6 : decide ((0 : Int) < (k : Int)) = true := decide_eq_true (by omega)
     have HE : Hid (r = false) := hide (by rw [← HR.out, HF.out, step_no HSK.out HYD.out (.inr (.inr ⟨by omega, t3⟩))]; rfl)
     rw [t3] at hL
     clear t1 t3 t4
     go_wp2_with (first
      | (with_reducible refine idx_y 34 _ _ _ _ _ _ rfl hsr' _ _ k rfl rfl _ HY.out ?_; intro bb oo hcell hcell2 hbo)
      | (go_at_call 62; refine (hL _).mono ?_; rintro e w2 ⟨rfl, rfl⟩))
     go_quiet (fail)
     go_wp2
     go_ret
     exact ⟨by rw [HE.out]; rfl, hb0.trans ((hb.trans (belowN ((blo _ _).mono hb.size) _)).mono hb0.size)⟩
  ·obtain rfl : k = s.size := by omega
   have hst := HS.out
   rw [← HLEN.out, List.take_length] at hst
   have HST : Hid (r = placeOk ⟨s, wh, cl⟩ l i) := hide (by rw [← HR.out, HF.out, hst]; rfl)
   have hW := fun w' => tab_word s (by omega) w'
   cases hsm : small s
   ·have HE : Hid (r = true) := hide (by rw [HST.out]; exact place_any hsm)
    rw [hsm] at hW
    clear hsm hst
    go_wp2_with (go_at_call 85; refine (hW _).mono ?_; rintro e w2 ⟨rfl, rfl⟩)
    go_ret
    exact ⟨by rw [HE.out]; rfl, hb0.trans (hb.mono hb0.size)⟩
   rw [hsm] at hW
   have hB := tab_bounds l _ _ c i ⟨gx, cx⟩ wr hsr HX.out
   have HPL : Hid (∀ A B : Int, IsLo l gx i A → IsHi l gx i B → inWord l i = decide (A < (i : Int)) ∧ (i : Int) + s.size ≤ B ∧ inWord l (i + s.size) = decide ((i : Int) + s.size < B)) := hide (fun A B u v => place_eq (r := ⟨s, wh, cl⟩) HX.out hst hsm h1 u v)
   have HST2 : Hid (r = (if wh = 1 then !inWord l i && !inWord l (i + s.size) else if wh = 2 then !inWord l i && inWord l (i + s.size) else if wh = 3 then inWord l i else true)) := hide (by rw [HST.out]; exact place_small hsm)
   clear hsm hst
   go_wp2_with (first
    | (go_at_call 85; refine (hW _).mono ?_; rintro e w2 ⟨rfl, rfl⟩)
    | (go_at_call 86; refine hB.mono ?_; rintro e w2 ⟨A, B, rfl, hA, hB2, hlo, hhi, hb2⟩; refine hold ?_))
   refine hide ?_
   have q2 := cell_below q1 hb2
   have hbe := hb0.trans ((hb.trans (hb2.mono hb.size)).mono hb0.size)
   obtain ⟨p1, p2, p3⟩ := HPL.out A B hlo hhi
   have hAi : (A : Int) ≤ i := by omega
   have P1 := hide p1
   have P3 := hide p3
   clear p1 p3 hlo hhi HPL hb2 hb q0 q1 hB hW
   by_cases w1' : wh = 1
   ·subst w1'
    by_cases hAe : A = i
    ·have HI : Hid (inWord l i = false) := hide (by rw [P1.out]; exact decide_eq_false (by omega))
     subst hAe
     by_cases hBe : (B : Int) = (A : Int) + s.size
     ·have c1 : ((B : Int) == (A : Int) + (s.size : Int)) = true := beq_iff_eq.2 hBe
      have HE : Hid (r = true) := hide (by rw [HST2.out, if_pos rfl, HI.out, P3.out, decide_eq_false (by omega)]; rfl)
      clear hBe p2
      go_wp2
      go_ret
      exact ⟨by rw [HE.out]; rfl, hbe⟩
     ·have c1 : ((B : Int) == (A : Int) + (s.size : Int)) = false := beq_eq_false_iff_ne.2 hBe
      have HE : Hid (r = false) := hide (by rw [HST2.out, if_pos rfl, HI.out, P3.out, decide_eq_true (by omega)]; rfl)
      clear hBe p2
      go_wp2
      go_ret
      exact ⟨by rw [HE.out]; rfl, hbe⟩
    ·have c1 : ((A : Int) == (i : Int)) = false := beq_eq_false_iff_ne.2 (by omega)
     have c2 : (A == i) = false := beq_eq_false_iff_ne.2 hAe
     have HE : Hid (r = false) := hide (by rw [HST2.out, if_pos rfl, P1.out, decide_eq_true (by omega)]; rfl)
     clear hAe p2
     go_wp2
     go_ret
     exact ⟨by rw [HE.out]; rfl, hbe⟩
   have e1 : (wh == 1) = false := beq_eq_false_iff_ne.2 w1'
   by_cases w2' : wh = 2
   ·subst w2'
    by_cases hAe : A = i
    ·have HI : Hid (inWord l i = false) := hide (by rw [P1.out]; exact decide_eq_false (by omega))
     subst hAe
     by_cases hBe : (A : Int) + s.size < (B : Int)
     ·have c1 : decide ((A : Int) + (s.size : Int) < (B : Int)) = true := decide_eq_true hBe
      have c2 : decide (A + s.size < B) = true := decide_eq_true (by omega)
      have HE : Hid (r = true) := hide (by rw [HST2.out, if_neg (by decide), if_pos rfl, HI.out, P3.out, decide_eq_true hBe]; rfl)
      clear hBe p2
      go_wp2
      go_ret
      exact ⟨by rw [HE.out]; rfl, hbe⟩
     ·have c1 : decide ((A : Int) + (s.size : Int) < (B : Int)) = false := decide_eq_false hBe
      have c2 : decide (A + s.size < B) = false := decide_eq_false (by omega)
      have HE : Hid (r = false) := hide (by rw [HST2.out, if_neg (by decide), if_pos rfl, HI.out, P3.out, decide_eq_false hBe]; rfl)
      clear hBe p2
      go_wp2
      go_ret
      exact ⟨by rw [HE.out]; rfl, hbe⟩
    ·have c1 : ((A : Int) == (i : Int)) = false := beq_eq_false_iff_ne.2 (by omega)
     have c2 : (A == i) = false := beq_eq_false_iff_ne.2 hAe
     have HE : Hid (r = false) := hide (by rw [HST2.out, if_neg (by decide), if_pos rfl, P1.out, decide_eq_true (by omega)]; rfl)
     clear hAe p2
     go_wp2
     go_ret
     exact ⟨by rw [HE.out]; rfl, hbe⟩
   have e2 : (wh == 2) = false := beq_eq_false_iff_ne.2 w2'
   by_cases w3' : wh = 3
   ·subst w3'
    by_cases hAe : A < i
    ·have c1 : decide ((A : Int) < (i : Int)) = true := decide_eq_true (by omega)
     have c2 : decide (A < i) = true := decide_eq_true hAe
     have HE : Hid (r = true) := hide (by rw [HST2.out, if_neg (by decide), if_neg (by decide), if_pos rfl, P1.out]; exact c1)
     clear hAe p2
     go_wp2
     go_ret
     exact ⟨by rw [HE.out]; rfl, hbe⟩
    ·have c1 : decide ((A : Int) < (i : Int)) = false := decide_eq_false (by omega)
     have c2 : decide (A < i) = false := decide_eq_false hAe
     have HE : Hid (r = false) := hide (by rw [HST2.out, if_neg (by decide), if_neg (by decide), if_pos rfl, P1.out]; exact c1)
     clear hAe p2
     go_wp2
     go_ret
     exact ⟨by rw [HE.out]; rfl, hbe⟩
   have e3 : (wh == 3) = false := beq_eq_false_iff_ne.2 w3'
   have HE : Hid (r = true) := hide (by rw [HST2.out, if_neg w1', if_neg w2', if_neg w3'])
   clear w1' w2' w3'
   go_wp2
   go_ret
   exact ⟨by rw [HE.out]; rfl, hbe⟩
end Go.Proofs.Ytlpkicjijlcbfaa
end

section
/- Chapter 06: whether a rule fits at a place: Fits, of the reference. -/
namespace Go.Proofs.Ytlpkicjijlcbfaa
open Go.RowKit Go.Dx

set_option maxHeartbeats 4000000 in
theorem ref_Fits (s : ByteArray) (wh : Int) (cl : List UInt8) (ha : Option Addr) (hn hcap : Nat) (l : List Sy) (a : Option Addr) (n c : Nat) (v : Int) (i : Nat) (hv : v = (i : Int)) (x : Sy) (hx : l[i]? = some x) (h1 : 1 ≤ s.size) (h8 : s.size ≤ 8) (hll : l.length ≤ 1000000) (w : World) (hs : Sl w 2 a n c (l.flatMap sc)) :
  Calls Try.prog 94 #[.agg #[.string s, .int .i64 wh, .slice ha hn hcap], .slice a n c, .int .i64 v] w fun e w' => e = .returned (.bool (fitsB ⟨s, wh, cl⟩ l i)) ∧ Below w.heap.size w w' := by
 subst hv
 obtain rfl := hs.nf sc_len (by decide)
 have hm1 := Nat.le_trans hs.le hs.cap
 unfold maxLen at hm1
 have hi := (List.getElem?_eq_some_iff.1 hx).1
 obtain ⟨r, HR⟩ : ∃ r, Hid (fitsB ⟨s, wh, cl⟩ l i = r) := ⟨_, hide rfl⟩
 rw [HR.out]
 by_cases hlen : i + s.size ≤ l.length
 case neg =>
  have d1 : decide (l.length < i + s.size) = true := decide_eq_true (by omega)
  have d2 : decide ((l.length : Int) < (i : Int) + (s.size : Int)) = true := decide_eq_true (by omega)
  have HE : Hid (r = false) := hide (by rw [← HR.out]; exact fits_no hi (by show l.length < i + s.size; omega))
  clear hlen hx
  go_enter Try.func94, Try.ntmps94
  go_wp2_with fail
  go_ret
  exact ⟨by rw [HE.out]; rfl, blo w _⟩
 have d1 : decide (l.length < i + s.size) = false := decide_eq_false (by omega)
 have d2 : decide ((l.length : Int) < (i : Int) + (s.size : Int)) = false := decide_eq_false (by omega)
 have HF := hide (fits_at (r := ⟨s, wh, cl⟩) hx)
 have HX := hide hx
 obtain ⟨gx, cx⟩ := x
 obtain ⟨b, o, hab, hbw, e0, _⟩ := sy_cells hs hx
 subst hab
 have e0 : w.cell? ⟨b, o + i * 2, none⟩ = some (.int .i64 gx) := e0
 clear hx
 have hsw := hs.alloc (.cells #[.string s, .int .i64 wh, .slice ha hn hcap] 84)
 have k0 : (w.alloc (.cells #[.string s, .int .i64 wh, .slice ha hn hcap] 84)).cell? ⟨w.heap.size, 0, none⟩ = some (.string s) := (Box.new w _ _).at_ rfl
 have k1 : (w.alloc (.cells #[.string s, .int .i64 wh, .slice ha hn hcap] 84)).cell? ⟨w.heap.size, 1, none⟩ = some (.int .i64 wh) := (Box.new w _ _).at_ rfl
 have hb0 := blo w (.cells #[.string s, .int .i64 wh, .slice ha hn hcap] 84)
 have hchars : ∀ k (hk : k < s.size), (chars s)[k]? = some s[k] := fun k hk => chars_get hk
 have HCH := hide hchars
 have HLEN : Hid ((chars s).length = s.size) := hide (size_chars s).symm
 clear hchars
 have HD2 := hide d2
 go_enter Try.func94, Try.ntmps94
 go_wp2_with fail
 generalize w.alloc (.cells #[.string s, .int .i64 wh, .slice ha hn hcap] 84) = w1 at *
 go_loopg [8] s.size (fun gh t w' => ∃ (k : Nat), k ≤ s.size ∧ gh = s.size - k ∧ Hid (sameAt gx true ((chars s).take k) (l.drop i) = true) ∧ t = .int .i64 (k : Int) ∧ Below w1.heap.size w1 w')
 case atStart => exact ⟨0, by omega, by omega, hide rfl, rfl, Below.refl _ _⟩
 case round =>
  obtain ⟨k, hk, hg, HS, rfl, hb⟩ := hrel
  have HG := hide hg
  clear hg
  have q0 := cell_below k0 hb
  have q1 := cell_below k1 hb
  have hsr := hsw.below hb
  have f0 : wr.cell? ⟨b, o + i * 2, none⟩ = some (.int .i64 gx) := cell_below (cell_below e0 hb0) hb
  have hbr : b < wr.heap.size := World.block_lt_of_cell? _ _ f0
  have hwb : w.heap.size < wr.heap.size := World.block_lt_of_cell? _ _ q0
  by_cases hkl : k < s.size
  ·obtain ⟨y, hy⟩ : ∃ y, l[i + k]? = some y := ⟨l[i + k]'(by omega), List.getElem?_eq_getElem _⟩
   have hyd : (l.drop i)[k]? = some y := by rw [List.getElem?_drop]; exact hy
   obtain ⟨b', o', hab', _, y0, y1⟩ := sy_cells hsr hy
   cases hab'
   have HYD := hide hyd
   clear hy hyd
   obtain ⟨gy, cy⟩ := y
   have y0 : wr.cell? ⟨b, o + (i + k) * 2, none⟩ = some (.int .i64 gy) := y0
   have y1 : wr.cell? ⟨b, o + (i + k) * 2 + 1, none⟩ = some (.int .u8 (cy.toNat : Int)) := y1
   have hL := fun w' => ref_Letter cy w'
   unfold LetterR at hL
   have HSK := hide (HCH.out k hkl)
   by_cases t1 : low cy = s[k]
   case neg =>
    have c1 : (((low cy).toNat : Int) != ((s[k]).toNat : Int)) = true := bne_iff_ne.2 (fun e => t1 (UInt8.toNat_inj.1 (by omega)))
    have HE : Hid (r = false) := hide (by rw [← HR.out, HF.out, step_no HSK.out HYD.out (.inl t1)]; rfl)
    clear t1
    go_wp2_with (go_at_call 93; refine (hL _).mono ?_; rintro e w2 ⟨rfl, rfl⟩)
    go_quiet (fail)
    go_wp2
    go_ret
    exact ⟨by rw [HE.out]; rfl, hb0.trans ((belowN hb _).mono hb0.size)⟩
   have c1 : (((low cy).toNat : Int) != ((s[k]).toNat : Int)) = false := by rw [t1]; simp
   by_cases t2 : gy = gx
   case neg =>
    have c2 : (gy != gx) = true := bne_iff_ne.2 t2
    have HE : Hid (r = false) := hide (by rw [← HR.out, HF.out, step_no HSK.out HYD.out (.inr (.inl t2))]; rfl)
    clear t1 t2
    go_wp2_with (go_at_call 93; refine (hL _).mono ?_; rintro e w2 ⟨rfl, rfl⟩)
    go_quiet (fail)
    go_wp2
    go_ret
    exact ⟨by rw [HE.out]; rfl, hb0.trans ((belowN hb _).mono hb0.size)⟩
   subst t2
   have c2 : (gy != gy) = false := by simp
   cases t3 : isC cy
   ·have HS2 := hide (step_yes HSK.out HYD.out HS.out t1 rfl (.inr t3))
    rw [t3] at hL
    clear t1 t3
    rcases Nat.eq_zero_or_pos k with hk0 | hk0
    ·have d5 : decide (0 < k) = false := decide_eq_false (by omega)
     have d6 : decide ((0 : Int) < (k : Int)) = false := decide_eq_false (by omega)
     clear hk0
     go_wp2_with (go_at_call 93; refine (hL _).mono ?_; rintro e w2 ⟨rfl, rfl⟩)
     go_quiet (fail)
     go_wp2
     have hb3 : ∀ m, Below w1.heap.size w1 (wr.drewN m) := fun m => belowN hb m
     go_roundg (s.size - (k + 1))
     case measure => have := HG.out; omega
     case rel => exact ⟨k + 1, by omega, rfl, HS2, by go_num, hb3 _⟩
    ·have d5 : decide (0 < k) = true := decide_eq_true (by omega)
     have d6 : decide ((0 : Int) < (k : Int)) = true := decide_eq_true (by omega)
     clear hk0
     go_wp2_with (go_at_call 93; refine (hL _).mono ?_; rintro e w2 ⟨rfl, rfl⟩)
     go_quiet (fail)
     go_wp2
     have hb3 : ∀ m, Below w1.heap.size w1 (wr.drewN m) := fun m => belowN hb m
     go_roundg (s.size - (k + 1))
     case measure => have := HG.out; omega
     case rel => exact ⟨k + 1, by omega, rfl, HS2, by go_num, hb3 _⟩
   ·by_cases t4 : k = 0
    ·have HS2 := hide (step_yes HSK.out HYD.out HS.out t1 rfl (.inl t4))
     have d5 : decide (0 < k) = false := decide_eq_false (by omega)
     have d6 : decide ((0 : Int) < (k : Int)) = false := decide_eq_false (by omega)
     clear t4
     rw [t3] at hL
     clear t1 t3
     go_wp2_with (go_at_call 93; refine (hL _).mono ?_; rintro e w2 ⟨rfl, rfl⟩)
     go_quiet (fail)
     go_wp2
     have hb3 : ∀ m, Below w1.heap.size w1 (wr.drewN m) := fun m => belowN hb m
     go_roundg (s.size - (k + 1))
     case measure => have := HG.out; omega
     case rel => exact ⟨k + 1, by omega, rfl, HS2, by go_num, hb3 _⟩
    ·have d5 : decide (0 < k) = true := decide_eq_true (by omega)
     have d6 : decide ((0 : Int) < (k : Int)) = true := decide_eq_true (by omega)
     have HE : Hid (r = false) := hide (by rw [← HR.out, HF.out, step_no HSK.out HYD.out (.inr (.inr ⟨by omega, t3⟩))]; rfl)
     rw [t3] at hL
     clear t1 t3 t4
     go_wp2_with (go_at_call 93; refine (hL _).mono ?_; rintro e w2 ⟨rfl, rfl⟩)
     go_quiet (fail)
     go_wp2
     go_ret
     exact ⟨by rw [HE.out]; rfl, hb0.trans ((belowN hb _).mono hb0.size)⟩
  ·obtain rfl : k = s.size := by omega
   have hst := HS.out
   rw [← HLEN.out, List.take_length] at hst
   have HST : Hid (r = placeOk ⟨s, wh, cl⟩ l i) := hide (by rw [← HR.out, HF.out, hst]; rfl)
   have hW := fun w' => ref_Small s (by omega) w'
   cases hsm : small s
   ·have HE : Hid (r = true) := hide (by rw [HST.out]; exact place_any hsm)
    rw [hsm] at hW
    clear hsm hst
    go_wp2_with (go_at_call 100; refine (hW _).mono ?_; rintro e w2 ⟨rfl, rfl⟩)
    go_ret
    exact ⟨by rw [HE.out]; rfl, hb0.trans (hb.mono hb0.size)⟩
   rw [hsm] at hW
   have h2 := fun w' (h : Below wr.heap.size wr w') => ref_inWord l _ _ c ((i : Int)) i rfl w' (hsr.below h)
   have h3 := fun w' (h : Below wr.heap.size wr w') => ref_inWord l _ _ c ((i : Int) + (s.size : Int)) (i + s.size) rfl w' (hsr.below h)
   have HST2 : Hid (r = (if wh = 1 then !inWord l i && !inWord l (i + s.size) else if wh = 2 then !inWord l i && inWord l (i + s.size) else if wh = 3 then inWord l i else true)) := hide (by rw [HST.out]; exact place_small hsm)
   clear hsm hst
   generalize inWord l i = v1 at h2 HST2
   generalize inWord l (i + s.size) = v2 at h3 HST2
   go_wp2_with (first
    | (go_at_call 100; refine (hW _).mono ?_; rintro e w2 ⟨rfl, rfl⟩)
    | (go_at_call 102; refine (h2 _ (Below.refl _ _)).mono ?_; rintro e w2 ⟨rfl, hb2⟩; refine hold ?_))
   refine hide ?_
   go_wp2_with (go_at_call 102; refine (h3 _ hb2).mono ?_; rintro e w3 ⟨rfl, hb3⟩; refine hold ?_)
   refine hide ?_
   have q2 := cell_below (cell_below q1 hb2) hb3
   have hbe := hb0.trans ((hb.trans ((hb2.trans (hb3.mono hb2.size)).mono hb.size)).mono hb0.size)
   clear hb3 hb2 hb q0 q1 h2 h3 hW
   by_cases w1' : wh = 1
   ·subst w1'
    cases v1
    ·have HE : Hid (r = !v2) := hide (by rw [HST2.out, if_pos rfl]; rfl)
     go_wp2
     go_ret
     exact ⟨by rw [HE.out]; rfl, hbe⟩
    ·have HE : Hid (r = false) := hide (by rw [HST2.out, if_pos rfl]; rfl)
     go_wp2
     go_ret
     exact ⟨by rw [HE.out]; rfl, hbe⟩
   have e1 : (wh == 1) = false := beq_eq_false_iff_ne.2 w1'
   by_cases w2' : wh = 2
   ·subst w2'
    cases v1
    ·have HE : Hid (r = v2) := hide (by rw [HST2.out, if_neg (by decide), if_pos rfl]; rfl)
     go_wp2
     go_ret
     exact ⟨by rw [HE.out]; simp, hbe⟩
    ·have HE : Hid (r = false) := hide (by rw [HST2.out, if_neg (by decide), if_pos rfl]; rfl)
     go_wp2
     go_ret
     exact ⟨by rw [HE.out]; rfl, hbe⟩
   have e2 : (wh == 2) = false := beq_eq_false_iff_ne.2 w2'
   by_cases w3' : wh = 3
   ·subst w3'
    have HE : Hid (r = v1) := hide (by rw [HST2.out, if_neg (by decide), if_neg (by decide), if_pos rfl])
    go_wp2
    go_ret
    exact ⟨by rw [HE.out]; simp, hbe⟩
   have e3 : (wh == 3) = false := beq_eq_false_iff_ne.2 w3'
   have HE : Hid (r = true) := hide (by rw [HST2.out, if_neg w1', if_neg w2', if_neg w3'])
   clear w1' w2' w3'
   go_wp2
   go_ret
   exact ⟨by rw [HE.out]; rfl, hbe⟩
end Go.Proofs.Ytlpkicjijlcbfaa
end

section
/- Chapter 06: the error of tables, in parts; tables in a box. -/
namespace Go.Dx
open Go.RowKit
def langK (t : Ta) (k : Nat) : List Ru := if k = 0 then t.l0 else t.l1
theorem two_cases {p : Nat → Prop} (h0 : p 0) (h1 : p 1) : ∀ k, k < 2 → p k := by
 intro k hk
 rcases k with _ | _ | k
 ·exact h0
 ·exact h1
 ·omega
theorem ve_lim {t : Ta} {k : Nat} (h : 96 < (langK t k).length) : validE t = 4 := by
 unfold validE
 rw [if_pos]
 unfold langK at h
 split at h
 ·exact .inl h
 ·exact .inr h
theorem ve_len {t : Ta} (h : ∀ k, k < 2 → (langK t k).length ≤ 96) : ¬ (96 < t.l0.length ∨ 96 < t.l1.length) := by
 have h0 := h 0 (by omega)
 have h1 := h 1 (by omega)
 simp [langK] at h0 h1
 omega
theorem ve_bad {t : Ta} (h : ∀ k, k < 2 → (langK t k).length ≤ 96) (hg : goodT t = false) : validE t = 1 := by
 unfold validE
 rw [if_neg (ve_len h), hg]; rfl
theorem ve_dup {t : Ta} (h : ∀ k, k < 2 → (langK t k).length ≤ 96) (hg : goodT t = true) {k : Nat} (hd : dupB (langK t k) = true) : validE t = 7 := by
 unfold validE
 rw [if_neg (ve_len h), hg, if_neg (by simp), if_pos]
 unfold langK at hd
 split at hd <;> simp [hd]
theorem ve_miss {t : Ta} (h : ∀ k, k < 2 → (langK t k).length ≤ 96) (hg : goodT t = true) (hd : ∀ k, k < 2 → dupB (langK t k) = false) {k : Nat} (hm : missB (langK t k) = true) : validE t = 6 := by
 have h0 := hd 0 (by omega)
 have h1 := hd 1 (by omega)
 simp [langK] at h0 h1
 unfold validE
 rw [if_neg (ve_len h), hg, if_neg (by simp), h0, h1, if_neg (by simp), if_pos]
 unfold langK at hm
 split at hm <;> simp [hm]
theorem ve_ok {t : Ta} (h : ∀ k, k < 2 → (langK t k).length ≤ 96) (hg : goodT t = true) (hd : ∀ k, k < 2 → dupB (langK t k) = false) (hm : ∀ k, k < 2 → missB (langK t k) = false) : validE t = 0 := by
 have h0 := hd 0 (by omega)
 have h1 := hd 1 (by omega)
 have m0 := hm 0 (by omega)
 have m1 := hm 1 (by omega)
 simp [langK] at h0 h1 m0 m1
 unfold validE
 rw [if_neg (ve_len h), hg, if_neg (by simp), h0, h1, m0, m1]; rfl
theorem good_rule {t : Ta} {k : Nat} (h : (langK t k).all ruOk = false) : goodT t = false := by
 unfold goodT
 unfold langK at h
 split at h <;> simp [h]
theorem good_dig {t : Ta} (h : (decide (t.dig.length = 10) && okCells t.dig) = false) : goodT t = false := by unfold goodT; rw [h]; rfl
theorem good_cap {t : Ta} (h : indic t.cap = false) : goodT t = false := by unfold goodT; rw [h]; simp
theorem good_num {t : Ta} (h : indic t.num = false) : goodT t = false := by unfold goodT; rw [h]; simp
theorem good_fin {t : Ta} (h : indic t.fin = false) : goodT t = false := by unfold goodT; rw [h]; simp
theorem good_sw {t : Ta} (h : indic t.sw = false) : goodT t = false := by unfold goodT; rw [h]; simp
theorem isIn_step {l : List Ru} {j : Nat} {y : Ru} (h : l[j]? = some y) (n : ByteArray × Int) : isIn ((l.take (j + 1)).map nmOf) n = (isIn ((l.take j).map nmOf) n || (n.1.toList == y.text.toList && n.2 == y.whr)) := by
 rw [take_succ_get h, List.map_append]
 unfold isIn
 rw [List.any_append]; simp
theorem isIn_of {l : List Ru} {i j : Nat} {y : Ru} (h : l[j]? = some y) (hj : j < i) {n : ByteArray × Int} (hn : (n.1.toList == y.text.toList && n.2 == y.whr) = true) : isIn ((l.take i).map nmOf) n = true := by
 unfold isIn
 rw [List.any_eq_true]
 refine ⟨nmOf y, List.mem_map.2 ⟨y, ?_, rfl⟩, hn⟩
 exact List.mem_of_getElem? (i := j) (by rw [List.getElem?_take, if_pos hj]; exact h)
theorem rus_get {ps : List RH} {i : Nat} {x : RH} (h : ps[i]? = some x) : (rus ps)[i]? = some x.1 := by unfold rus; rw [List.getElem?_map, h]; rfl
theorem good_all {t : Ta} (hl : ∀ k, k < 2 → (langK t k).all ruOk = true) (h1 : (decide (t.dig.length = 10) && okCells t.dig) = true) (h2 : indic t.cap = true) (h3 : indic t.num = true) (h4 : indic t.fin = true) (h5 : indic t.sw = true) : goodT t = true := by
 have l0 := hl 0 (by omega)
 have l1 := hl 1 (by omega)
 simp [langK] at l0 l1
 unfold goodT
 simp only [Bool.and_eq_true, decide_eq_true_eq] at h1
 simp [h1.1, h1.2, h2, h3, h4, h5]
 exact ⟨l0, l1⟩
theorem sel_lang {w : World} {H : TH} {t : Ta} (hT : TaIs w H t) : ∀ k, k < 2 → ∃ a n c ps, [hdv H.r0, hdv H.r1][k]? = some (.slice a n c) ∧ Rul w a n c ps ∧ rus ps = langK t k := by
 refine two_cases ⟨_, _, _, _, rfl, hT.l0, ?_⟩ ⟨_, _, _, _, rfl, hT.l1, ?_⟩
 ·rw [hT.e0]; rfl
 ·rw [hT.e1]; rfl
structure TBox (w : World) (g : Nat) (H : TH) (t : Ta) : Prop where
 ok : TaIs w H t
 rules : ∀ k, k < 2 → ∃ a n c ps, w.cell? ⟨g, k, none⟩ = some (.slice a n c) ∧ Rul w a n c ps ∧ rus ps = langK t k
 d : w.cell? ⟨g, 2, none⟩ = some (hdv H.d)
 c : w.cell? ⟨g, 3, none⟩ = some (hdv H.c)
 n : w.cell? ⟨g, 4, none⟩ = some (hdv H.n)
 f : w.cell? ⟨g, 5, none⟩ = some (hdv H.f)
 s : w.cell? ⟨g, 6, none⟩ = some (hdv H.s)
def tcells (H : TH) : List Value := [hdv H.r0, hdv H.r1, hdv H.d, hdv H.c, hdv H.n, hdv H.f, hdv H.s]
theorem TBox.new {w : World} {H : TH} {t : Ta} (hT : TaIs w H t) (ty : TypeId) : TBox (w.alloc (.cells (tcells H).toArray ty)) w.heap.size H t := by
 have hx := Box.new w ty (tcells H).toArray
 have hb : Below w.heap.size w (w.alloc (.cells (tcells H).toArray ty)) := (Below.refl _ w).alloc (Nat.le_refl _) _
 refine ⟨hT.below hb, ?_, hx.at_ rfl, hx.at_ rfl, hx.at_ rfl, hx.at_ rfl, hx.at_ rfl⟩
 intro k hk
 obtain ⟨a, n, c, ps, h1, h2, h3⟩ := sel_lang hT k hk
 refine ⟨a, n, c, ps, hx.at_ ?_, h2.below hb, h3⟩
 rcases k with _ | _ | k
 ·exact h1
 ·exact h1
 ·omega
theorem TBox.below {w w' : World} {g : Nat} {H : TH} {t : Ta} (h : TBox w g H t) (hb : Below w.heap.size w w') : TBox w' g H t := by
 have key : ∀ {p : Addr} {u : Value}, w.cell? p = some u → w'.cell? p = some u := fun hc => by rw [hb.cell (World.block_lt_of_cell? w _ hc)]; exact hc
 refine ⟨h.ok.below hb, ?_, key h.d, key h.c, key h.n, key h.f, key h.s⟩
 intro k hk
 obtain ⟨a, n, c, ps, h1, h2, h3⟩ := h.rules k hk
 exact ⟨a, n, c, ps, key h1, h2.below hb, h3⟩
end Go.Dx
namespace Go.Proofs.Ytlpkicjijlcbfaa
open Go.RowKit Go.Dx
theorem digR (l : List UInt8) : cellsR l 10 10 = (decide (l.length = 10) && okCells l) := by
 unfold cellsR
 by_cases h : l.length = 10
 ·simp [h]
 ·have h2 : (decide (10 ≤ l.length) && decide (l.length ≤ 10)) = false := by simp; omega
  rw [h2]; simp [h]
theorem own_at {ps : List RH} {a : Option Addr} {n c : Nat} {u : UInt8} {v : Int} {r : Bool} {w : World} (hs : Rul w a n c ps) (hr : ownB (rus ps) u = r) (hv : v = (u.toNat : Int)) :
  Calls Try.prog 90 #[.slice a n c, .int .u8 v] w fun e w' => e = .returned (.bool r) ∧ w = w' := by
 subst hv; subst hr; exact ref_own ps a n c u w hs
end Go.Proofs.Ytlpkicjijlcbfaa
end

section
/- Chapter 08: a parameter is boxed. No program in sight. -/
namespace Go.Dx
open Go.RowKit
section
variable {P : Program} {w : World} {ops : Array Oper} {rest : List Oper} {act : Act} {Q : Exit → Act → World → Prop} {ty : TypeId} {pos : String} {after : Array Edge}
end
theorem tab_cells (H : TH) : H.v.cells = (tcells H).toArray := rfl
end Go.Dx
end

section
/- Chapter 06: the reference's Valid. -/
namespace Go.Proofs.Ytlpkicjijlcbfaa
open Go.RowKit Go.Dx

set_option maxRecDepth 100000 in
set_option maxHeartbeats 4000000 in
theorem ref6_Valid (H : TH) (t : Ta) (w : World) (hT : TaIs w H t) : Calls Try.prog 69 #[H.v] w fun e w' => e = .returned (.int .i64 (validE t)) ∧ Below w.heap.size w w' := by
 obtain ⟨r, HR⟩ : ∃ r, Hid (validE t = r) := ⟨_, hide rfl⟩
 rw [HR.out]
 have HX := TBox.new hT 29
 have hb0 := blo w (.cells (tcells H).toArray 29)
 clear hT
 obtain ⟨⟨a0, n0, c0⟩, ⟨a1, n1, c1⟩, ps0, ps1, ⟨ad, nd, cd⟩, ⟨ac, nc, cc⟩, ⟨an, nn, cn⟩, ⟨af, nf, cf⟩, ⟨aw, nw, cw⟩⟩ := H
 unfold TH.v
 unfold tcells at HX hb0
 simp only [hdv] at HX hb0 ⊢
 go_enter Try.func69, Try.ntmps69
 go_wp2_with fail
 generalize w.alloc (.cells _ 29) = w1 at *
 go_loopg [3] 2 (fun gh v w' => ∃ k : Nat, k ≤ 2 ∧ gh = 2 - k ∧ Hid (∀ j, j < k → (langK t j).length ≤ 96) ∧ v = .int .i64 (k : Int) ∧ w1 = w')
 case atStart => exact ⟨0, by omega, by omega, hide (fun j h => by omega), rfl, rfl⟩
 case round =>
  obtain ⟨k, hk, hg, HLEN, rfl, rfl⟩ := hrel
  have HG := hide hg
  clear hg
  by_cases hkl : k < 2
  ·obtain ⟨ak, nk, ck, psk, hck, hRk, hek⟩ := HX.rules k hkl
   have HN : Hid ((langK t k).length = nk) := hide (by rw [← hek, hRk.n_eq]; simp [rus])
   clear hRk hek
   by_cases h96 : 96 < nk
   ·have d1 : decide (96 < (nk : Int)) = true := decide_eq_true (by omega)
    have HE : Hid (r = 4) := hide (by rw [← HR.out]; exact ve_lim (k := k) (by rw [HN.out]; exact h96))
    clear h96
    go_wp2_with fail
    go_ret
    exact ⟨by rw [HE.out]; rfl, hb0⟩
   ·have d1 : decide (96 < (nk : Int)) = false := decide_eq_false (by omega)
    have HLEN2 : Hid (∀ j, j < k + 1 → (langK t j).length ≤ 96) := hide (fun j hj => by
     by_cases e : j = k
     ·rw [e, HN.out]; omega
     ·exact HLEN.out j (by omega))
    clear h96
    go_wp2_with fail
    go_roundg (2 - (k + 1))
    case measure => have := HG.out; omega
    case rel => exact ⟨k + 1, by omega, rfl, HLEN2, by go_num, rfl⟩
  ·obtain rfl : k = 2 := by omega
   clear hk hkl HG
   go_wp2_with fail
   go_loopg [4] 2 (fun gh v w' => ∃ k : Nat, k ≤ 2 ∧ gh = 2 - k ∧ Hid (∀ j, j < k → (langK t j).all ruOk = true) ∧ v = .int .i64 (k : Int) ∧ Below w1.heap.size w1 w')
   case atStart => exact ⟨0, by omega, by omega, hide (fun j h => by omega), rfl, Below.refl _ _⟩
   case round =>
    obtain ⟨k, hk, hg, HALL, rfl, hb⟩ := hrel
    have HG := hide hg
    clear hg
    by_cases hkl : k < 2
    ·obtain ⟨wo, rfl⟩ : ∃ wo : World, wo = wr := ⟨_, rfl⟩
     obtain ⟨ak, nk, ck, psk, hck, hRk, hek⟩ := (HX.below hb).rules k hkl
     have HEK := hide hek
     obtain rfl := hRk.n_eq
     have hm1 := Nat.le_trans hRk.top.le hRk.top.cap
     unfold maxLen at hm1
     have d0 : decide (k < 2) = true := decide_eq_true hkl
     have d0' : decide ((k : Int) < 2) = true := decide_eq_true (by omega)
     clear hek
     go_wp2_with fail
     go_loopg [5] psk.length (fun gh v w' => ∃ i : Nat, i ≤ psk.length ∧ gh = psk.length - i ∧ (psk.take i).any (fun p => badR p.1) = false ∧ v = .int .i64 (i : Int) ∧ Below wo.heap.size wo w')
     case atStart => exact ⟨0, by omega, by omega, rfl, rfl, Below.refl _ _⟩
     case round =>
      obtain ⟨i, hi, hgi, hti, rfl, hbi⟩ := hrel
      have HGI := hide hgi
      have HTI := hide hti
      clear hgi hti
      have hckr := cell_below hck hbi
      by_cases hil : i < psk.length
      ·obtain ⟨x, hx⟩ : ∃ x, psk[i]? = some x := ⟨psk[i], by simp [hil]⟩
       have HH := hide hx
       have hRr := hRk.below hbi
       obtain ⟨hrow, hsz⟩ := hRr.row x (List.mem_of_getElem? hx)
       clear hx
       obtain ⟨⟨s, wh, cl⟩, hh1, hh2, hh3⟩ := x
       have hc := ref_Right s wh cl hh1 hh2 hh3 (Nat.le_trans hsz (by decide)) wr hrow
       cases hq : ruOk ⟨s, wh, cl⟩
       ·have HE : Hid (r = 1) := hide (by
         rw [← HR.out]
         refine ve_bad (HLEN.out) (good_rule (k := k) ?_)
         rw [← HEK.out, rules_eq, show (rus psk).any badR = psk.any (fun p => badR p.1) by unfold rus; rw [List.any_map]; rfl, any_of_get (p := fun p : RH => badR p.1) HH.out (by show badR ⟨s, wh, cl⟩ = true; unfold badR; rw [hq]; rfl)]; rfl)
        rw [hq] at hc
        clear hq
        go_wp2_with (first
         | (with_reducible refine idx_r 43 _ _ _ _ _ _ rfl hRr.top _ _ i rfl rfl _ HH.out ?_; intro b o hcell hcell2 hcell3 hbo)
         | (go_at_call 88; refine hc.mono ?_; rintro e w2 ⟨rfl, hb2⟩))
        go_ret
        exact ⟨by rw [HE.out]; rfl, hb0.trans ((hb.trans ((hbi.trans (hb2.mono hbi.size)).mono hb.size)).mono hb0.size)⟩
       ·have HN := hide (any_take_no (p := fun p : RH => badR p.1) HH.out HTI.out (by show badR ⟨s, wh, cl⟩ = false; unfold badR; rw [hq]; rfl))
        rw [hq] at hc
        clear hq
        go_wp2_with (first
         | (with_reducible refine idx_r 43 _ _ _ _ _ _ rfl hRr.top _ _ i rfl rfl _ HH.out ?_; intro b o hcell hcell2 hcell3 hbo)
         | (go_at_call 88; refine hc.mono ?_; rintro e w2 ⟨rfl, hb2⟩))
        have hb3 := hbi.trans (hb2.mono hbi.size)
        go_roundg (psk.length - (i + 1))
        case measure => have := HGI.out; omega
        case rel => exact ⟨i + 1, by omega, rfl, HN.out, by go_num, hb3⟩
      ·obtain rfl : i = psk.length := by omega
       have HALL2 : Hid (∀ j, j < k + 1 → (langK t j).all ruOk = true) := hide (fun j hj => by
        by_cases e : j = k
        ·have := HTI.out
         rw [List.take_length] at this
         rw [e, ← HEK.out, rules_eq, show (rus psk).any badR = psk.any (fun p => badR p.1) by unfold rus; rw [List.any_map]; rfl, this]; rfl
        ·exact HALL.out j (by omega))
       have hb3 := hb.trans (hbi.mono hb.size)
       go_wp2
       go_roundg (2 - (k + 1))
       case measure => have := HG.out; omega
       case rel => exact ⟨k + 1, by omega, rfl, HALL2, by go_num, hb3⟩
    ·obtain rfl : k = 2 := by omega
     clear hk hkl HG
     have HXr := HX.below hb
     have kd : wr.cell? ⟨w.heap.size, 2, none⟩ = some (.slice ad nd cd) := HXr.d
     have kc : wr.cell? ⟨w.heap.size, 3, none⟩ = some (.slice ac nc cc) := HXr.c
     have kn : wr.cell? ⟨w.heap.size, 4, none⟩ = some (.slice an nn cn) := HXr.n
     have kf : wr.cell? ⟨w.heap.size, 5, none⟩ = some (.slice af nf cf) := HXr.f
     have ks : wr.cell? ⟨w.heap.size, 6, none⟩ = some (.slice aw nw cw) := HXr.s
     have h1 := ref_Cells t.dig ad nd cd 10 10 10 10 rfl rfl wr HXr.ok.d
     rw [digR] at h1
     have h2 := ref_Cells t.cap ac nc cc 1 4 1 4 rfl rfl wr HXr.ok.c
     rw [indic_cells] at h2
     have h3 := ref_Cells t.num an nn cn 1 4 1 4 rfl rfl wr HXr.ok.n
     rw [indic_cells] at h3
     have h4 := ref_Cells t.fin af nf cf 1 4 1 4 rfl rfl wr HXr.ok.f
     rw [indic_cells] at h4
     have h5 := ref_Cells t.sw aw nw cw 1 4 1 4 rfl rfl wr HXr.ok.s
     rw [indic_cells] at h5
     have HRw := HR
     cases q1 : (decide (t.dig.length = 10) && okCells t.dig)
     case false =>
      have HE : Hid (r = 1) := hide (by rw [← HR.out]; exact ve_bad HLEN.out (good_dig q1))
      rw [q1] at h1
      clear q1
      go_wp2_with (first | (go_at_call_of 89 cd; refine h1.mono ?_; rintro e w2 ⟨rfl, rfl⟩))
      go_ret
      exact ⟨by rw [HE.out]; rfl, hb0.trans (hb.mono hb0.size)⟩
     rw [q1] at h1
     cases q2 : indic t.cap
     case false =>
      have HE : Hid (r = 1) := hide (by rw [← HR.out]; exact ve_bad HLEN.out (good_cap q2))
      rw [q2] at h2
      clear q2
      go_wp2_with (first | (go_at_call_of 89 cd; refine h1.mono ?_; rintro e w2 ⟨rfl, rfl⟩) | (go_at_call_of 89 cc; refine h2.mono ?_; rintro e w2 ⟨rfl, rfl⟩))
      go_ret
      exact ⟨by rw [HE.out]; rfl, hb0.trans (hb.mono hb0.size)⟩
     rw [q2] at h2
     cases q3 : indic t.num
     case false =>
      have HE : Hid (r = 1) := hide (by rw [← HR.out]; exact ve_bad HLEN.out (good_num q3))
      rw [q3] at h3
      clear q3
      go_wp2_with (first | (go_at_call_of 89 cd; refine h1.mono ?_; rintro e w2 ⟨rfl, rfl⟩) | (go_at_call_of 89 cc; refine h2.mono ?_; rintro e w2 ⟨rfl, rfl⟩) | (go_at_call_of 89 cn; refine h3.mono ?_; rintro e w2 ⟨rfl, rfl⟩))
      go_ret
      exact ⟨by rw [HE.out]; rfl, hb0.trans (hb.mono hb0.size)⟩
     rw [q3] at h3
     cases q4 : indic t.fin
     case false =>
      have HE : Hid (r = 1) := hide (by rw [← HR.out]; exact ve_bad HLEN.out (good_fin q4))
      rw [q4] at h4
      clear q4
      go_wp2_with (first | (go_at_call_of 89 cd; refine h1.mono ?_; rintro e w2 ⟨rfl, rfl⟩) | (go_at_call_of 89 cc; refine h2.mono ?_; rintro e w2 ⟨rfl, rfl⟩) | (go_at_call_of 89 cn; refine h3.mono ?_; rintro e w2 ⟨rfl, rfl⟩) | (go_at_call_of 89 cf; refine h4.mono ?_; rintro e w2 ⟨rfl, rfl⟩))
      go_ret
      exact ⟨by rw [HE.out]; rfl, hb0.trans (hb.mono hb0.size)⟩
     rw [q4] at h4
     cases q5 : indic t.sw
     case false =>
      have HE : Hid (r = 1) := hide (by rw [← HR.out]; exact ve_bad HLEN.out (good_sw q5))
      rw [q5] at h5
      clear q5
      go_wp2_with (first | (go_at_call_of 89 cd; refine h1.mono ?_; rintro e w2 ⟨rfl, rfl⟩) | (go_at_call_of 89 cc; refine h2.mono ?_; rintro e w2 ⟨rfl, rfl⟩) | (go_at_call_of 89 cn; refine h3.mono ?_; rintro e w2 ⟨rfl, rfl⟩) | (go_at_call_of 89 cf; refine h4.mono ?_; rintro e w2 ⟨rfl, rfl⟩) | (go_at_call_of 89 cw; refine h5.mono ?_; rintro e w2 ⟨rfl, rfl⟩))
      go_ret
      exact ⟨by rw [HE.out]; rfl, hb0.trans (hb.mono hb0.size)⟩
     rw [q5] at h5
     have HGOOD : Hid (goodT t = true) := hide (good_all HALL.out q1 q2 q3 q4 q5)
     clear q1 q2 q3 q4 q5 HRw HALL
     go_wp2_with (first | (go_at_call_of 89 cd; refine h1.mono ?_; rintro e w2 ⟨rfl, rfl⟩) | (go_at_call_of 89 cc; refine h2.mono ?_; rintro e w2 ⟨rfl, rfl⟩) | (go_at_call_of 89 cn; refine h3.mono ?_; rintro e w2 ⟨rfl, rfl⟩) | (go_at_call_of 89 cf; refine h4.mono ?_; rintro e w2 ⟨rfl, rfl⟩) | (go_at_call_of 89 cw; refine h5.mono ?_; rintro e w2 ⟨rfl, rfl⟩))
     clear h1 h2 h3 h4 h5 kd kc kn kf ks HXr
     go_loopg [6] 2 (fun gh v w' => ∃ k : Nat, k ≤ 2 ∧ gh = 2 - k ∧ Hid (∀ j, j < k → dupB (langK t j) = false) ∧ v = .int .i64 (k : Int) ∧ Below w1.heap.size w1 w')
     case atStart => exact ⟨0, by omega, by omega, hide (fun j h => by omega), rfl, hb⟩
     case round =>
      clear hb
      obtain ⟨k, hk, hg, HDUP, rfl, hb⟩ := hrel
      have HG := hide hg
      clear hg
      by_cases hkl : k < 2
      ·obtain ⟨wo, rfl⟩ : ∃ wo : World, wo = wr := ⟨_, rfl⟩
       obtain ⟨ak, nk, ck, psk, hck, hRk, hek⟩ := (HX.below hb).rules k hkl
       have HEK := hide hek
       obtain rfl := hRk.n_eq
       have hm1 := Nat.le_trans hRk.top.le hRk.top.cap
       unfold maxLen at hm1
       have d0 : decide (k < 2) = true := decide_eq_true hkl
       have d0' : decide ((k : Int) < 2) = true := decide_eq_true (by omega)
       clear hek
       go_wp2_with fail
       go_loopg [8] psk.length (fun gh v w' => ∃ i : Nat, i ≤ psk.length ∧ gh = psk.length - i ∧ Hid (apart (rus psk) i) ∧ v = .int .i64 (i : Int) ∧ Below wo.heap.size wo w')
       case atStart => exact ⟨0, by omega, by omega, hide (apart_zero _), rfl, Below.refl _ _⟩
       case round =>
        obtain ⟨i, hi, hgi, HAP, rfl, hbi⟩ := hrel
        have HGI := hide hgi
        clear hgi
        by_cases hil : i < psk.length
        ·obtain ⟨wm, rfl⟩ : ∃ wm : World, wm = wr := ⟨_, rfl⟩
         obtain ⟨x, hx⟩ : ∃ x, psk[i]? = some x := ⟨psk[i], by simp [hil]⟩
         have HXI := hide hx
         have hRm := hRk.below hbi
         obtain ⟨bb, oo, hab, hbw, x0, x1, _⟩ := ru_cells hRm.top hx
         subst hab
         clear hx
         obtain ⟨⟨s, wh, cl⟩, hh⟩ := x
         have x0 : wm.cell? ⟨bb, oo + i * 3, none⟩ = some (.string s) := x0
         have x1 : wm.cell? ⟨bb, oo + i * 3 + 1, none⟩ = some (.int .i64 wh) := x1
         have e0 : decide (i < psk.length) = true := decide_eq_true hil
         have e0' : decide ((i : Int) < (psk.length : Int)) = true := decide_eq_true (by omega)
         go_wp2_with fail
         go_loopg [9] i (fun gh v w' => ∃ j : Nat, j ≤ i ∧ gh = i - j ∧ Hid (isIn (((rus psk).take j).map nmOf) (s, wh) = false) ∧ v = .int .i64 (j : Int) ∧ Below wm.heap.size wm w')
         case atStart => exact ⟨0, by omega, by omega, hide rfl, rfl, Below.refl _ _⟩
         case round =>
          obtain ⟨j, hj, hgj, HIN, rfl, hbj⟩ := hrel
          have HGJ := hide hgj
          clear hgj
          have hbt := hb.trans ((hbi.trans (hbj.mono hbi.size)).mono hb.size)
          by_cases hjl : j < i
          ·obtain ⟨y, hy⟩ : ∃ y, psk[j]? = some y := ⟨psk[j]'(by omega), List.getElem?_eq_getElem _⟩
           have HYJ := hide (rus_get hy)
           obtain ⟨b', o', hab', _, y0, y1, _⟩ := ru_cells (hRm.below hbj).top hy
           cases hab'
           clear hy
           obtain ⟨⟨s2, wh2, cl2⟩, hh2⟩ := y
           have y0 : wr.cell? ⟨bb, oo + j * 3, none⟩ = some (.string s2) := y0
           have y1 : wr.cell? ⟨bb, oo + j * 3 + 1, none⟩ = some (.int .i64 wh2) := y1
           have z0 := cell_below x0 hbj
           have z1 := cell_below x1 hbj
           have hjn : j < psk.length := by omega
           cases q1 : (s.toList == s2.toList)
           ·have HIN2 : Hid (isIn (((rus psk).take (j + 1)).map nmOf) (s, wh) = false) := hide (by rw [isIn_step HYJ.out, HIN.out]; simp only [q1]; rfl)
            go_wp2
            go_quiet (fail)
            go_wp2
            have hb3 := fun m => belowN hbj m
            go_roundg (i - (j + 1))
            case measure => have := HGJ.out; omega
            case rel => exact ⟨j + 1, by omega, rfl, HIN2, by go_num, hb3 _⟩
           ·by_cases q2 : wh = wh2
            ·have d2 : (wh == wh2) = true := beq_iff_eq.2 q2
             have HE : Hid (r = 7) := hide (by
              rw [← HR.out]
              refine ve_dup HLEN.out HGOOD.out (k := k) ?_
              rw [← HEK.out]
              exact dup_of (rus_get HXI.out) (isIn_of HYJ.out hjl (by show (s.toList == s2.toList && wh == wh2) = true; rw [q1, d2]; rfl)))
             clear q2
             go_wp2
             go_quiet (fail)
             go_wp2
             go_ret
             exact ⟨by rw [HE.out]; rfl, hb0.trans ((belowN hbt _).mono hb0.size)⟩
            ·have d2 : (wh == wh2) = false := beq_eq_false_iff_ne.2 q2
             have HIN2 : Hid (isIn (((rus psk).take (j + 1)).map nmOf) (s, wh) = false) := hide (by rw [isIn_step HYJ.out, HIN.out]; simp only [d2, Bool.and_false]; rfl)
             clear q2
             go_wp2
             go_quiet (fail)
             go_wp2
             have hb3 := fun m => belowN hbj m
             go_roundg (i - (j + 1))
             case measure => have := HGJ.out; omega
             case rel => exact ⟨j + 1, by omega, rfl, HIN2, by go_num, hb3 _⟩
          ·obtain rfl : j = i := by omega
           have HAP2 : Hid (apart (rus psk) (j + 1)) := hide (apart_step (rus_get HXI.out) HAP.out HIN.out)
           have hb3 := hbi.trans (hbj.mono hbi.size)
           go_wp2
           go_roundg (psk.length - (j + 1))
           case measure => have := HGI.out; omega
           case rel => exact ⟨j + 1, by omega, rfl, HAP2, by go_num, hb3⟩
        ·obtain rfl : i = psk.length := by omega
         have HDUP2 : Hid (∀ j, j < k + 1 → dupB (langK t j) = false) := hide (fun j hj => by
          by_cases e : j = k
          ·rw [e, ← HEK.out]; exact apart_all (by rw [show (rus psk).length = psk.length by unfold rus; simp]; exact HAP.out)
          ·exact HDUP.out j (by omega))
         have hb3 := hb.trans (hbi.mono hb.size)
         go_wp2
         go_roundg (2 - (k + 1))
         case measure => have := HG.out; omega
         case rel => exact ⟨k + 1, by omega, rfl, HDUP2, by go_num, hb3⟩
      ·obtain rfl : k = 2 := by omega
       clear hk hkl HG
       go_wp2_with fail
       go_loopg [10] 2 (fun gh v w' => ∃ k : Nat, k ≤ 2 ∧ gh = 2 - k ∧ Hid (∀ j, j < k → missB (langK t j) = false) ∧ v = .int .i64 (k : Int) ∧ wr = w')
       case atStart => exact ⟨0, by omega, by omega, hide (fun j h => by omega), rfl, rfl⟩
       case round =>
        obtain ⟨k, hk, hg, HMISS, rfl, rfl⟩ := hrel
        have HG := hide hg
        clear hg
        by_cases hkl : k < 2
        ·obtain ⟨ak, nk, ck, psk, hck, hRk, hek⟩ := (HX.below hb).rules k hkl
         have HEK := hide hek
         have d0 : decide (k < 2) = true := decide_eq_true hkl
         have d0' : decide ((k : Int) < 2) = true := decide_eq_true (by omega)
         clear hek
         go_wp2_with fail
         go_loopg [11] 26 (fun gh v w' => ∃ u : Nat, 97 ≤ u ∧ u ≤ 123 ∧ gh = 123 - u ∧ Hid (ownTo (langK t k) (u - 97)) ∧ v = .int .i64 (u : Int) ∧ wr = w')
         case atStart => exact ⟨97, by omega, by omega, by omega, hide (fun j h => by omega), rfl, rfl⟩
         case round =>
          obtain ⟨u, hu1, hu2, hgu, HOWN, rfl, rfl⟩ := hrel
          have HGU := hide hgu
          clear hgu
          by_cases hul : u ≤ 122
          ·have d3 : decide ((u : Int) ≤ 122) = true := decide_eq_true (by omega)
           have d3' : decide (u ≤ 122) = true := decide_eq_true hul
           have HU8 : Hid (((UInt8.ofNat u).toNat : Int) = (u : Int)) := hide (by rw [UInt8.toNat_ofNat']; omega)
           have HUU : Hid (97 + (u - 97) = u) := hide (by omega)
           cases q : ownB (rus psk) (UInt8.ofNat u)
           ·have HE : Hid (r = 6) := hide (by
             rw [← HR.out]
             refine ve_miss HLEN.out HGOOD.out HDUP.out (k := k) (miss_of (k := u - 97) (by omega) ?_)
             rw [HUU.out, ← HEK.out]; exact q)
            have HQ := hide q
            clear q
            go_wp2_with (go_at_call 90; refine (own_at hRk HQ.out HU8.out.symm).mono ?_; rintro e w2 ⟨rfl, rfl⟩)
            go_ret
            exact ⟨by rw [HE.out]; rfl, hb0.trans (hb.mono hb0.size)⟩
           ·have HOWN2 : Hid (ownTo (langK t k) (u + 1 - 97)) := hide (by
             have := ownTo_step HOWN.out (by rw [HUU.out, ← HEK.out]; exact q)
             rwa [show u - 97 + 1 = u + 1 - 97 by omega] at this)
            have HQ := hide q
            clear q
            go_wp2_with (go_at_call 90; refine (own_at hRk HQ.out HU8.out.symm).mono ?_; rintro e w2 ⟨rfl, rfl⟩)
            go_roundg (123 - (u + 1))
            case measure => have := HGU.out; omega
            case rel => exact ⟨u + 1, by omega, by omega, rfl, HOWN2, by go_num, rfl⟩
          ·obtain rfl : u = 123 := by omega
           have HMISS2 : Hid (∀ j, j < k + 1 → missB (langK t j) = false) := hide (fun j hj => by
            by_cases e : j = k
            ·rw [e]; exact miss_no HOWN.out
            ·exact HMISS.out j (by omega))
           go_wp2
           go_roundg (2 - (k + 1))
           case measure => have := HG.out; omega
           case rel => exact ⟨k + 1, by omega, rfl, HMISS2, by go_num, rfl⟩
        ·obtain rfl : k = 2 := by omega
         have HE : Hid (r = 0) := hide (by rw [← HR.out]; exact ve_ok HLEN.out HGOOD.out HDUP.out HMISS.out)
         go_wp2
         go_ret
         exact ⟨by rw [HE.out]; rfl, hb0.trans (hb.mono hb0.size)⟩
end Go.Proofs.Ytlpkicjijlcbfaa
end

section
/- Chapter 06: laws of the walk for Valid: an array of tables, a look-up in a set, a letter as a text. -/
namespace Go.Dx
open Go.RowKit
theorem run_look {P : Program} {w : World} {K : TypeId} (hK0 : NameKey P K) {t e : TypeId} (ht : P.underlying t = some (.map K e)) (hz : ∀ w, (zeroValue e).run P w = .ok (.bool false) w) {b : Nat} {ns : List (ByteArray × Int)} (hown : NSet w b ns) (n : ByteArray × Int) :
  (Instr.lookup t (.map (some b)) (nameV n) false).run P w = .ok (.bool (isIn ns n)) w := by
 obtain ⟨es, clock, hb, he⟩ := hown.ex
 obtain ⟨r, hr, hr2⟩ := find_key hK0 w n es.toList ns he
 have hck := name_key hK0 w es.isEmpty n
 cases r with
 | none =>
  cases hi : isIn ns n
  ·simp [Instr.lookup, run_underlying ht, MapKept.run_getObj_map hb, hck, hr, hz]
  ·rw [hi] at hr2; cases hr2
 | some q =>
  cases hi : isIn ns n
  ·rw [hi] at hr2; cases hr2
  ·rw [hi] at hr2
   have : q.2 = .bool true := by simpa using hr2
   obtain ⟨q1, q2⟩ := q
   subst this
   simp [Instr.lookup, run_underlying ht, MapKept.run_getObj_map hb, hck, hr]
theorem NSet.drewN {w : World} {b : Nat} {ns : List (ByteArray × Int)} (h : NSet w b ns) (n : Nat) : NSet (w.drewN n) b ns := ⟨h.ex⟩
theorem NSet.drew {w : World} {b : Nat} {ns : List (ByteArray × Int)} (h : NSet w b ns) : NSet w.drew b ns := ⟨h.ex⟩
theorem quiet_look {P : Program} {w : World} {ops : Array Oper} {rest : List Oper} {o : Oper} {a : Act} {Q : Act → Prop} {K : TypeId} (hK0 : NameKey P K) (m x : Operand) (t e : TypeId) (hop : o.op = Op.lookup t m x false) (ht : P.underlying t = some (.map K e))
  (hz : ∀ w, (zeroValue e).run P w = .ok (.bool false) w) (b : Nat) (ns : List (ByteArray × Int)) (hm : a.eval m = .map (some b)) (hown : NSet w b ns) (n : ByteArray × Int) (hx : a.eval x = nameV n) (hw : Region.wanted o (yielded ops a.tmps) = true)
  (hK : wpQuiet P ops (fun w' => ∃ n, w' = w.drewN n) Q rest (a.put o.dst (.bool (isIn ns n)))) : wpQuiet P ops (fun w' => ∃ n, w' = w.drewN n) Q (o :: rest) a := by
 refine quiet_in (.bool (isIn ns n)) hw ?_ hK
 rintro w' ⟨k, rfl⟩
 have hrun := run_look hK0 ht hz (hown.drewN k) n
 simp [execOp, hop, hm, hx, hrun, Result.andThen]
theorem encode_chr : ∀ u : Nat, u < 128 → chars (Utf8.encode (u : Int)) = [UInt8.ofNat u] := by decide +kernel
section
variable {P : Program} {w : World} {ops : Array Oper} {rest : List Oper} {act : Act} {Q : Exit → Act → World → Prop} {ty : TypeId} {pos : String} {after : Array Edge}
theorem index_wrap (d : Nat) (t e n : TypeId) (x y : Operand) (ht : P.underlying t = some (.array n e)) (hsz : (P.info? e).map (·.size) = some 1) (hag : IsAgg P e) (cs : List Value) (hx : act.eval x = .agg cs.toArray) (k : IntKind) (i : Nat) (hy : act.eval y = .int k (i : Int)) (hi : i < n)
  (u : Value) (hu : cs[i]? = some u) (hK : wpList P ops Q rest (act.put (some d) (.agg #[u])) w) :
  wpList P ops Q ({ dst := some d, op := .index t x y, type := ty, pos := pos, after := after, guard := none } :: rest) act w := by
 refine wpList_plain rfl fun K hK' => ?_
 obtain ⟨i0, hi0, hs0⟩ := Option.map_eq_some_iff.1 hsz
 have h3 : (0 : Int) ≤ i ∧ (i : Int) < n := by omega
 have hil := (List.getElem?_eq_some_iff.1 hu).1
 have hex : List.take 1 (List.drop i cs) = [u] := by
  rw [List.drop_eq_getElem_cons hil, List.take_succ_cons, List.take_zero, (List.getElem?_eq_some_iff.1 hu).2]
 have hrun : (Instr.index t (.agg cs.toArray) (.int k (i : Int))).run P w = .ok (.agg #[u]) w := by
  simp [Instr.index, asIntOf, run_underlying ht, sizeOf, typeInfo, hi0, hs0, h3, part, run_isAgg hag, hex, hi]
 unfold Oper.wp
 simp [execOp, hx, hy, hrun, Result.andThen]
 exact hK' _ _ hK
end
theorem four_cases {p : Nat → Prop} (h0 : p 0) (h1 : p 1) (h2 : p 2) (h3 : p 3) : ∀ k, k < 4 → p k := by
 intro k hk
 rcases k with _ | _ | _ | _ | k
 ·exact h0
 ·exact h1
 ·exact h2
 ·exact h3
 ·omega
def inds (t : Ta) : List (List UInt8) := [t.cap, t.num, t.fin, t.sw]
def gI (t : Ta) (k : Nat) : Bool := (decide (t.dig.length = 10) && okCells t.dig) && ((inds t).take k).all indic
theorem gI_step {t : Ta} {k : Nat} {l : List UInt8} (h : (inds t)[k]? = some l) : gI t (k + 1) = (gI t k && indic l) := by
 unfold gI
 rw [take_succ_get h, List.all_append]
 simp [Bool.and_assoc]
def gR (t : Ta) (k : Nat) : Bool := gI t 4 && (List.range k).all fun j => (langK t j).all ruOk
theorem gR_step {t : Ta} {k : Nat} : gR t (k + 1) = (gR t k && (langK t k).all ruOk) := by
 unfold gR
 rw [List.range_succ, List.all_append]
 simp [Bool.and_assoc]
theorem good_R (t : Ta) : goodT t = gR t 2 := by
 unfold goodT gR gI inds
 simp [List.range_succ, langK, Bool.and_assoc]
def HasSet (w : World) (v : Value) (bk lim : Nat) (l : List Ru) : Prop := ∃ b, v = .map (some b) ∧ b ≠ bk ∧ b < lim ∧ NSet w b (l.map nmOf)
theorem HasSet.below {w w' : World} {v : Value} {bk lim : Nat} {l : List Ru} (h : HasSet w v bk lim l) (hb : Below w.heap.size w w') : HasSet w' v bk lim l := by
 obtain ⟨b, h1, h2, h3, h4⟩ := h
 exact ⟨b, h1, h2, h3, h4.below hb⟩
theorem HasSet.grown {w w' : World} {v : Value} {bk lim g : Nat} {l : List Ru} (h : HasSet w v bk lim l) (hg : w.grownBy w' (some g)) (hne : g = bk ∨ lim ≤ g) : HasSet w' v bk lim l := by
 obtain ⟨b, h1, h2, h3, h4⟩ := h
 refine ⟨b, h1, h2, h3, h4.kept hg fun e => ?_⟩
 cases e
 omega
theorem HasSet.now {w : World} {v : Value} {bk lim : Nat} {l : List Ru} (h : HasSet w v bk lim l) : HasSet w v bk w.heap.size l := by
 obtain ⟨b, h1, h2, h3, h4⟩ := h
 exact ⟨b, h1, h2, h4.lt, h4⟩
end Go.Dx
namespace Go.Proofs.Ytlpkicjijlcbfaa
open Go.RowKit Go.Dx
theorem nameKey : NameKey Try.prog 143 := ⟨⟨_, _, Try.underlying143, by decide, by decide, rfl, rfl, Try.underlying9, Try.underlying3⟩, by kernel_rfl⟩
theorem zero_bool (w : World) : (zeroValue 4).run Try.prog w = .ok (.bool false) w := by kernel_rfl
theorem size_table : (Try.prog.info? 25).map (·.size) = some 1 := by kernel_rfl
theorem size_map : (Try.prog.info? 140).map (·.size) = some 1 := by kernel_rfl
theorem size_row : (Try.prog.info? 27).map (·.size) = some 1 := by kernel_rfl
theorem agg_table : IsAgg Try.prog 25 := .inr ⟨_, Try.underlying25⟩
section
variable {w : World} {ops : Array Oper} {rest : List Oper} {o : Oper} {act : Act} {Q : Exit → Act → World → Prop} {ty : TypeId} {pos : String} {after : Array Edge}
theorem idx_tab (d : Nat) (x y : Operand) (cs : List Value) (hx : act.eval x = .agg cs.toArray) (k : IntKind) (i : Nat) (hy : act.eval y = .int k (i : Int)) (hi : i < 2)
  (u : Value) (hu : cs[i]? = some u) (hK : wpList Try.prog ops Q rest (act.put (some d) (.agg #[u])) w) :
  wpList Try.prog ops Q ({ dst := some d, op := .index 26 x y, type := ty, pos := pos, after := after, guard := none } :: rest) act w :=
 index_wrap d 26 25 2 x y Try.underlying26 size_table agg_table cs hx k i hy hi u hu hK
theorem idx_bb (d : Nat) (x y : Operand) (a : Option Addr) (n c : Nat) (cs : List Value) (hx : act.eval x = .slice a n c) (ht : Sl w 1 a n c cs) (k : IntKind) (iv : Int) (i : Nat) (hy : act.eval y = .int k iv) (hiv : iv = (i : Int))
  (u : Value) (hu : cs[i]? = some u)
  (hK : ∀ b o, w.cell? ⟨b, o, none⟩ = some u → b < w.heap.size → wpList Try.prog ops Q rest (act.put (some d) (.pointer (some ⟨b, o, none⟩))) w) :
  wpList Try.prog ops Q ({ dst := some d, op := .indexAddr 137 x y, type := ty, pos := pos, after := after, guard := none } :: rest) act w :=
 index_sl d 137 x y 27 Try.underlying137 size_row a n c _ hx ht k iv i hy hiv u hu hK
theorem look_nm (hg : o.guard = none) (m x : Operand) (hop : o.op = Op.lookup 140 m x false) (b : Nat) (ns : List (ByteArray × Int)) (hm : act.eval m = .map (some b)) (hown : NSet w b ns) (n : ByteArray × Int) (hx : act.eval x = nameV n) (bv : Bool) (hbv : isIn ns n = bv)
  (hK : wpList Try.prog ops Q rest (act.put o.dst (.bool bv)) w) : wpList Try.prog ops Q (o :: rest) act w := by
 subst hbv
 exact look_name nameKey hg m x 140 4 hop Try.underlying140 zero_bool b ns hm hown n hx hK
theorem qlook_nm {Q : Act → Prop} (m x : Operand) (hop : o.op = Op.lookup 140 m x false) (b : Nat) (ns : List (ByteArray × Int)) (hm : act.eval m = .map (some b)) (hown : NSet w b ns) (n : ByteArray × Int) (hx : act.eval x = nameV n) (hw : Region.wanted o (yielded ops act.tmps) = true) (bv : Bool) (hbv : isIn ns n = bv)
  (hK : wpQuiet Try.prog ops (fun w' => ∃ n, w' = w.drewN n) Q rest (act.put o.dst (.bool bv))) : wpQuiet Try.prog ops (fun w' => ∃ n, w' = w.drewN n) Q (o :: rest) act := by
 subst hbv
 exact quiet_look nameKey m x 140 4 hop Try.underlying140 zero_bool b ns hm hown n hx hw hK
theorem qidx_arr {Q : Act → Prop} (d : Nat) (x y : Operand) (b i : Nat) (hx : act.eval x = .pointer (some ⟨b, 0, none⟩)) (hy : act.eval y = .int .i64 (i : Int)) (hi : i < 2)
  (hK : wpQuiet Try.prog ops (fun w' => ∃ n, w' = w.drewN n) Q rest (act.put (some d) (.pointer (some ⟨b, i, none⟩)))) :
  wpQuiet Try.prog ops (fun w' => ∃ n, w' = w.drewN n) Q ({ dst := some d, op := .indexAddr 141 x y, type := ty, pos := pos, after := after, guard := none } :: rest) act := by
 refine quiet_in _ rfl ?_ hK
 intro w' _
 have h2 : (0 : Int) ≤ i ∧ (i : Int) < 2 := by omega
 obtain ⟨i0, hi0, hs0⟩ := Option.map_eq_some_iff.1 size_map
 have hrun : (Instr.indexAt 141 (.pointer (some ⟨b, 0, none⟩)) (.int .i64 (i : Int))).run Try.prog w' = .ok (.pointer (some ⟨b, i, none⟩)) w' := by
  simp [Instr.indexAt, asIntOf, run_underlying Try.underlying141, sizeOf, typeInfo, hi0, hs0, h2, hi, Addr.add_lit, Instr.sureAddr]
 simp [execOp, hx, hy, hrun, Result.andThen]
theorem sidx_arr {Q : Act → Prop} (d : Nat) (x y : Operand) (b i : Nat) (hx : act.eval x = .pointer (some ⟨b, 0, none⟩)) (hy : act.eval y = .int .i64 (i : Int)) (hi : i < 2)
  (hK : wpStill Try.prog ops w Q rest (act.put (some d) (.pointer (some ⟨b, i, none⟩)))) :
  wpStill Try.prog ops w Q ({ dst := some d, op := .indexAddr 141 x y, type := ty, pos := pos, after := after, guard := none } :: rest) act := by
 refine still_at _ rfl ?_ hK
 have h2 : (0 : Int) ≤ i ∧ (i : Int) < 2 := by omega
 obtain ⟨i0, hi0, hs0⟩ := Option.map_eq_some_iff.1 size_map
 have hrun : (Instr.indexAt 141 (.pointer (some ⟨b, 0, none⟩)) (.int .i64 (i : Int))).run Try.prog w = .ok (.pointer (some ⟨b, i, none⟩)) w := by
  simp [Instr.indexAt, asIntOf, run_underlying Try.underlying141, sizeOf, typeInfo, hi0, hs0, h2, hi, Addr.add_lit, Instr.sureAddr]
 simp [execOp, hx, hy, hrun, Result.andThen]
theorem put_nm (hg : o.guard = none) (m x v : Operand) (hop : o.op = Op.mapUpdate 140 m x v) (b : Nat) (ns : List (ByteArray × Int)) (hm : act.eval m = .map (some b)) (hown : NSet w b ns) (n : ByteArray × Int) (hx : act.eval x = nameV n) (hv : act.eval v = .bool true) (hnew : isIn ns n = false)
  (hK : ∀ w', NSet w' b (ns ++ [n]) → w.grownBy w' (some b) → w'.heap.size = w.heap.size → wpList Try.prog ops Q rest (act.put o.dst undef) w') : wpList Try.prog ops Q (o :: rest) act w :=
 put_name nameKey hg m x v 140 4 hop Try.underlying140 b ns hm hown n hx hv hnew hK
end
end Go.Proofs.Ytlpkicjijlcbfaa
end

section
/- Chapter 06: the program's Valid. -/
namespace Go.Proofs.Ytlpkicjijlcbfaa
open Go.RowKit Go.Dx

set_option maxRecDepth 100000 in
set_option maxHeartbeats 8000000 in
theorem tab_Valid (H : TH) (t : Ta) (w : World) (hT : TaIs w H t) : Calls Try.prog 56 #[H.v] w fun e w' => e = .returned (.int .i64 (validE t)) ∧ Below w.heap.size w w' := by
 obtain ⟨r, HR⟩ : ∃ r, Hid (validE t = r) := ⟨_, hide rfl⟩
 rw [HR.out]
 have hmm := @run_makeMap Try.prog
 have HX := TBox.new hT 29
 have hSEL := sel_lang hT
 have B0 : (w.alloc (.cells (tcells H).toArray 29)).cell? ⟨w.heap.size, 0, none⟩ = some (hdv H.r0) := (Box.new w 29 (tcells H).toArray).at_ rfl
 have B1 : (w.alloc (.cells (tcells H).toArray 29)).cell? ⟨w.heap.size, 1, none⟩ = some (hdv H.r1) := (Box.new w 29 (tcells H).toArray).at_ rfl
 have hb0 := blo w (.cells (tcells H).toArray 29)
 clear hT
 obtain ⟨⟨a0, n0, c0⟩, ⟨a1, n1, c1⟩, ps0, ps1, ⟨ad, nd, cd⟩, ⟨ac, nc, cc⟩, ⟨an, nn, cn⟩, ⟨af, nf, cf⟩, ⟨aw, nw, cw⟩⟩ := H
 unfold TH.v
 unfold tcells at HX hb0 B0 B1
 simp only [hdv] at HX hb0 hSEL B0 B1 ⊢
 have HSEL : Hid (∀ k, k < 2 → ∃ a n c ps, [Value.slice a0 n0 c0, Value.slice a1 n1 c1][k]? = some (.slice a n c) ∧ Rul w a n c ps ∧ rus ps = langK t k) := hide hSEL
 clear hSEL
 go_enter Try.func56, Try.ntmps56
 go_wp2_with fail
 generalize w.alloc (.cells _ 29) = w1 at *
 go_loopg [20] 2 (fun gh v w' => ∃ k : Nat, k ≤ 2 ∧ gh = 2 - k ∧ Hid (∀ j, j < k → (langK t j).length ≤ 96) ∧ v = .int .i64 (k : Int) ∧ Below w1.heap.size w1 w')
 case atStart => exact ⟨0, by omega, by omega, hide (fun j h => by omega), rfl, Below.refl _ _⟩
 case round =>
  obtain ⟨k, hk, hg, HLEN, rfl, hb⟩ := hrel
  have HG := hide hg
  clear hg
  by_cases hkl : k < 2
  ·obtain ⟨ak, nk, ck, psk, hck, hRk, hek⟩ := HSEL.out k hkl
   have HCK := hide hck
   have HN : Hid ((langK t k).length = nk) := hide (by rw [← hek, hRk.n_eq]; simp [rus])
   clear hRk hek hck
   by_cases h96 : 96 < nk
   ·have d1 : decide (96 < (nk : Int)) = true := decide_eq_true (by omega)
    have HE : Hid (r = 4) := hide (by rw [← HR.out]; exact ve_lim (k := k) (by rw [HN.out]; exact h96))
    clear h96
    go_wp2_with (with_reducible refine idx_tab 22 _ _ [.slice a0 n0 c0, .slice a1 n1 c1] rfl _ k rfl hkl _ HCK.out ?_)
    go_ret
    exact ⟨by rw [HE.out]; rfl, hb0.trans ((hb.trans ((blo wr _).mono hb.size)).mono hb0.size)⟩
   ·have d1 : decide (96 < (nk : Int)) = false := decide_eq_false (by omega)
    have HLEN2 : Hid (∀ j, j < k + 1 → (langK t j).length ≤ 96) := hide (fun j hj => by
     by_cases e : j = k
     ·rw [e, HN.out]; omega
     ·exact HLEN.out j (by omega))
    clear h96
    go_wp2_with (with_reducible refine idx_tab 22 _ _ [.slice a0 n0 c0, .slice a1 n1 c1] rfl _ k rfl hkl _ HCK.out ?_)
    have hb3 : ∀ o, Below w1.heap.size w1 (wr.alloc o) := fun o => hb.trans ((blo wr o).mono hb.size)
    go_roundg (2 - (k + 1))
    case measure => have := HG.out; omega
    case rel => exact ⟨k + 1, by omega, rfl, HLEN2, by go_num, hb3 _⟩
  ·obtain rfl : k = 2 := by omega
   clear hk hkl HG
   have HXr := HX.below hb
   have kd : wr.cell? ⟨w.heap.size, 2, none⟩ = some (.slice ad nd cd) := HXr.d
   have kc : wr.cell? ⟨w.heap.size, 3, none⟩ = some (.slice ac nc cc) := HXr.c
   have kn : wr.cell? ⟨w.heap.size, 4, none⟩ = some (.slice an nn cn) := HXr.n
   have kf : wr.cell? ⟨w.heap.size, 5, none⟩ = some (.slice af nf cf) := HXr.f
   have ks : wr.cell? ⟨w.heap.size, 6, none⟩ = some (.slice aw nw cw) := HXr.s
   have hcd := tab_cells t.dig ad nd cd wr HXr.ok.d
   have hnd : nd = t.dig.length := HXr.ok.d.n_eq
   have HPOST : Hid (gI t 0 = (decide (nd = 10) && okCells t.dig)) := hide (by unfold gI; rw [hnd]; simp)
   clear hnd HXr
   go_upto_region 7 with fail
   go_cut [5] from 28 to 36 (fun v w' => v = .bool (gI t 0) ∧ wr = w')
   case first =>
    by_cases h10 : nd = 10
    ·have d1 : ((nd : Int) == 10) = true := beq_iff_eq.2 (by omega)
     have HG0 : Hid (gI t 0 = okCells t.dig) := hide (by rw [HPOST.out, decide_eq_true h10]; rfl)
     clear h10
     go_wp2_with (go_at_call 78; refine hcd.mono ?_; rintro e w2 ⟨rfl, rfl⟩)
     go_meet
     exact ⟨by rw [HG0.out], rfl⟩
    ·have d1 : ((nd : Int) == 10) = false := beq_eq_false_iff_ne.2 (by omega)
     have HG0 : Hid (gI t 0 = false) := hide (by rw [HPOST.out, decide_eq_false h10]; rfl)
     clear h10
     go_wp2_with fail
     go_meet
     exact ⟨by rw [HG0.out], rfl⟩
   case rest =>
    obtain ⟨rfl, rfl⟩ := hcut
    have h4 : Sl (wr.alloc (.cells #[.slice ac nc cc, .slice an nn cn, .slice af nf cf, .slice aw nw cw] 27)) 1 (some ⟨wr.heap.size, 0, none⟩) 4 4 [.slice ac nc cc, .slice an nn cn, .slice af nf cf, .slice aw nw cw] := Sl.fresh wr _ 1 4 [.slice ac nc cc, .slice an nn cn, .slice af nf cf, .slice aw nw cw] rfl (by decide)
    have hb2 := hb.trans ((blo wr (.cells #[.slice ac nc cc, .slice an nn cn, .slice af nf cf, .slice aw nw cw] 27)).mono hb.size)
    have hIN : ∀ i, i < 4 → ∃ l a n c, [Value.slice ac nc cc, .slice an nn cn, .slice af nf cf, .slice aw nw cw][i]? = some (.slice a n c) ∧ (inds t)[i]? = some l ∧ Sl w1 1 a n c (l.map B8) :=
     four_cases ⟨_, _, _, _, rfl, rfl, HX.ok.c⟩ ⟨_, _, _, _, rfl, rfl, HX.ok.n⟩ ⟨_, _, _, _, rfl, rfl, HX.ok.f⟩ ⟨_, _, _, _, rfl, rfl, HX.ok.s⟩
    have HINDS := hide hIN
    clear hIN hcd HPOST
    go_wp2_with fail
    clear kd kc kn kf ks
    generalize wr.alloc (.cells _ 27) = w2 at *
    go_loopg [5, 47] 4 (fun gh g v w' => ∃ (k : Nat) (gv : Bool), k ≤ 4 ∧ gh = 4 - k ∧ Hid (gI t k = gv) ∧ g = .bool gv ∧ v = .int .i64 (k : Int) ∧ w2 = w')
    case atStart => exact ⟨0, _, by omega, by omega, hide rfl, rfl, rfl, rfl⟩
    case round =>
     obtain ⟨k, gv, hk, hg, HGV, rfl, rfl, rfl⟩ := hrel
     have HG := hide hg
     clear hg
     by_cases hkl : k < 4
     ·obtain ⟨lk, ak, nk, ck, hck, hin, hsl⟩ := HINDS.out k hkl
      have HCK := hide hck
      have HSTEP := hide (gI_step (t := t) hin)
      have hcI := tab_indicator lk ak nk ck w2 (hsl.below hb2)
      clear hck hin hsl
      cases gv
      ·have HN : Hid (gI t (k + 1) = false) := hide (by rw [HSTEP.out, HGV.out]; rfl)
       go_wp2_with (with_reducible refine idx_bb 49 _ _ _ _ _ _ rfl h4 _ _ k rfl rfl _ HCK.out ?_; intro b o hcell hbo)
       go_roundg (4 - (k + 1))
       case measure => have := HG.out; omega
       case rel => exact ⟨k + 1, false, by omega, rfl, HN, rfl, by go_num, rfl⟩
      ·have HN : Hid (gI t (k + 1) = indic lk) := hide (by rw [HSTEP.out, HGV.out]; rfl)
       go_wp2_with (first
        | (with_reducible refine idx_bb 49 _ _ _ _ _ _ rfl h4 _ _ k rfl rfl _ HCK.out ?_; intro b o hcell hbo)
        | (go_at_call 79; refine hcI.mono ?_; rintro e w5 ⟨rfl, rfl⟩))
       go_roundg (4 - (k + 1))
       case measure => have := HG.out; omega
       case rel => exact ⟨k + 1, _, by omega, rfl, HN, rfl, by go_num, rfl⟩
     ·obtain rfl : k = 4 := by omega
      clear hk hkl HG HINDS h4
      have k0 := cell_below B0 hb2
      have k1 := cell_below B1 hb2
      have HGV2 : Hid (gR t 0 = gv) := hide (by rw [← HGV.out]; simp [gR])
      go_wp2_with fail
      go_loopg [5, 59] 2 (fun gh g v w' => ∃ (k : Nat) (gv : Bool), k ≤ 2 ∧ gh = 2 - k ∧ Hid (gR t k = gv) ∧ g = .bool gv ∧ v = .int .i64 (k : Int) ∧ Below w1.heap.size w1 w')
      case atStart => exact ⟨0, gv, by omega, by omega, HGV2, rfl, rfl, hb2⟩
      case round =>
       clear HGV2 HGV hb2 k0 k1
       obtain ⟨k, gv, hk, hg, HGV, rfl, rfl, hb⟩ := hrel
       have HG := hide hg
       clear hg
       by_cases hkl : k < 2
       ·obtain ⟨ak, nk, ck, psk, hck, hRk, hek⟩ := HSEL.out k hkl
        have HCK := hide hck
        have HEK := hide hek
        have hRr := (hRk.below hb0).below hb
        have hc := fun w' (h : Below wr.heap.size wr w') => contains_r psk ak nk ck w' (hRr.below h)
        have HSTEP := hide (gR_step (t := t) (k := k))
        clear hck hRk hek
        cases gv
        ·have HN : Hid (gR t (k + 1) = false) := hide (by rw [HSTEP.out, HGV.out]; rfl)
         go_wp2_with (with_reducible refine idx_tab 61 _ _ [.slice a0 n0 c0, .slice a1 n1 c1] rfl _ k rfl hkl _ HCK.out ?_)
         have hb3 : ∀ o, Below w1.heap.size w1 (wr.alloc o) := fun o => hb.trans ((blo wr o).mono hb.size)
         go_roundg (2 - (k + 1))
         case measure => have := HG.out; omega
         case rel => exact ⟨k + 1, false, by omega, rfl, HN, rfl, by go_num, hb3 _⟩
        ·have HN : Hid (gR t (k + 1) = (rus psk).all ruOk) := hide (by rw [HSTEP.out, HGV.out, ← HEK.out]; rfl)
         generalize (rus psk).all ruOk = bv at hc HN
         go_wp2_with (first
          | (with_reducible refine idx_tab 61 _ _ [.slice a0 n0 c0, .slice a1 n1 c1] rfl _ k rfl hkl _ HCK.out ?_)
          | (go_at_call 80; refine (hc _ (blo wr _)).mono ?_; rintro e w5 ⟨rfl, hb5⟩))
         have hb3 := hb.trans (((blo wr _).trans (hb5.mono (blo wr _).size)).mono hb.size)
         go_roundg (2 - (k + 1))
         case measure => have := HG.out; omega
         case rel => exact ⟨k + 1, bv, by omega, rfl, HN, by simp, by go_num, hb3⟩
       ·obtain rfl : k = 2 := by omega
        clear hk hkl HG
        cases gv
        ·have HE : Hid (r = 1) := hide (by rw [← HR.out]; exact ve_bad HLEN.out (by rw [good_R]; exact HGV.out))
         go_wp2_with fail
         go_ret
         exact ⟨by rw [HE.out]; rfl, hb0.trans (hb.mono hb0.size)⟩
        have HGOOD : Hid (goodT t = true) := hide (by rw [good_R]; exact HGV.out)
        clear HGV
        have k0 := cell_below B0 hb
        have k1 := cell_below B1 hb
        have hwb : w.heap.size < wr.heap.size := World.block_lt_of_cell? _ _ k0
        have hBk := Box.new wr 141 #[.map none, .map none]
        have hb3 := hb.trans ((blo wr (.cells #[.map none, .map none] 141)).mono hb.size)
        have HSZ : Hid ((wr.alloc (.cells #[.map none, .map none] 141)).heap.size = wr.heap.size + 1) := hide (by simp)
        go_wp2_with fail
        clear k0 k1 HSZ
        have hbw := hb.size
        clear hb
        obtain ⟨bk, hbk⟩ : ∃ bk, bk = wr.heap.size := ⟨_, rfl⟩
        rw [← hbk] at hBk hbw ⊢
        generalize wr.alloc (.cells _ 141) = w3 at *
        clear hbk hwb
        go_loopg [74] 2 (fun gh v w' => ∃ (k : Nat) (v0 v1 : Value), k ≤ 2 ∧ gh = 2 - k ∧ v = .int .i64 (k : Int) ∧ Box w' bk 141 [v0, v1] ∧ (1 ≤ k → HasSet w' v0 bk w'.heap.size (langK t 0)) ∧ (2 ≤ k → HasSet w' v1 bk w'.heap.size (langK t 1)) ∧ Hid (∀ j, j < k → dupB (langK t j) = false) ∧ Below w1.heap.size w1 w')
        case atStart => exact ⟨0, _, _, by omega, by omega, rfl, hBk, fun h => by omega, fun h => by omega, hide (fun j h => by omega), hb3⟩
        case round =>
         clear hBk hb3
         obtain ⟨k, v0, v1, hk, hg, rfl, hBk, hS0, hS1, HDUP, hb⟩ := hrel
         have HG := hide hg
         clear hg
         by_cases hkl : k < 2
         ·obtain ⟨wo, rfl⟩ : ∃ wo : World, wo = wr := ⟨_, rfl⟩
          obtain ⟨ak, nk, ck, psk, hck, hRk, hek⟩ := HSEL.out k hkl
          have HCK := hide hck
          have HEK := hide hek
          obtain rfl := hRk.n_eq
          have hm1 := Nat.le_trans hRk.top.le hRk.top.cap
          unfold maxLen at hm1
          have d0 : decide (k < 2) = true := decide_eq_true hkl
          have d0' : decide ((k : Int) < 2) = true := decide_eq_true (by omega)
          have hbo : bk < wo.heap.size := hBk.lt
          have hN0 : NSet ((wo.alloc (.cells #[.slice ak psk.length ck] 25)).alloc (.map #[] 0)) (wo.heap.size + 1) [] := by
           have := NSet.new (wo.alloc (.cells #[.slice ak psk.length ck] 25))
           rwa [show (wo.alloc (.cells #[.slice ak psk.length ck] 25)).heap.size = wo.heap.size + 1 by simp] at this
          have HN0 := hide hN0
          have HT0 : Hid (Box ((wo.alloc (.cells #[.slice ak psk.length ck] 25)).alloc (.map #[] 0)) wo.heap.size 25 [.slice ak psk.length ck]) := hide ((Box.new wo 25 #[.slice ak psk.length ck]).alloc _)
          have HB0 : Hid (Below w1.heap.size w1 ((wo.alloc (.cells #[.slice ak psk.length ck] 25)).alloc (.map #[] 0)) ∧ Below wo.heap.size wo ((wo.alloc (.cells #[.slice ak psk.length ck] 25)).alloc (.map #[] 0)) ∧ wo.heap.size ≤ ((wo.alloc (.cells #[.slice ak psk.length ck] 25)).alloc (.map #[] 0)).heap.size) := by
           have h2 : Below wo.heap.size wo ((wo.alloc (.cells #[.slice ak psk.length ck] 25)).alloc (.map #[] 0)) := (blo wo _).trans ((blo _ _).mono (by simp))
           exact hide ⟨hb.trans (h2.mono hb.size), h2, h2.size⟩
          have hkl2 : k < [v0, v1].length := hkl
          have hone : (Value.map (some (wo.heap.size + 1))).oneCell' = true := rfl
          have hcells : (Value.map (some (wo.heap.size + 1))).cells = #[Value.map (some (wo.heap.size + 1))] := rfl
          have hBk2 := (hBk.alloc (.cells #[.slice ak psk.length ck] 25)).alloc (.map #[] 0)
          clear hck hek hN0
          go_wp2_with (first
           | (with_reducible refine idx_tab 77 _ _ [.slice a0 n0 c0, .slice a1 n1 c1] rfl _ k rfl hkl _ HCK.out ?_)
           | (with_reducible refine store_cell 140 _ _ 141 bk k [v0, v1] (.map (some (wo.heap.size + 1))) size_map hBk2 rfl rfl hone hcells hkl2 ?_; intro w5 hx5 hg5 hs5; have c12 : w5.cell? ⟨wo.heap.size, 0, none⟩ = some (.slice ak psk.length ck) := (HT0.out.grown hg5 (by simp; omega)).at_ rfl))
          have hN5 : NSet w5 (wo.heap.size + 1) (((rus psk).take 0).map nmOf) := HN0.out.kept hg5 (by simp; omega)
          have hb5 := HB0.out.1.grown hg5 (by have := HB0.out.2.2; omega) (fun q hq => by cases hq; omega)
          have hS5 : 1 ≤ k → HasSet w5 v0 bk wo.heap.size (langK t 0) := fun h => ((hS0 h).below HB0.out.2.1).grown hg5 (.inl rfl)
          have hsz5 : wo.heap.size + 1 < w5.heap.size := hN5.lt
          clear hg5 hs5 HB0 HN0 HT0 hBk hBk2 hS0 c12
          obtain ⟨bm, hbm⟩ : ∃ bm, bm = wo.heap.size + 1 := ⟨_, rfl⟩
          obtain ⟨L, hL⟩ : ∃ L, L = [v0, v1].set k (Value.map (some (wo.heap.size + 1))) := ⟨_, rfl⟩
          have hLk : L[k]? = some (.map (some bm)) := by rw [hL, hbm, List.getElem?_set_self (by exact hkl)]
          rw [← hL] at hx5
          rw [← hbm] at hN5 hsz5
          have hbmk : bm ≠ bk := by omega
          have HLL := hide hL
          have HBM : Hid (bm = wo.heap.size + 1) := hide hbm
          have HLK := hide hLk
          clear hL hLk
          have hlim : wo.heap.size ≤ bm := by omega
          have hbk1 : w1.heap.size ≤ bm := by have := hb.size; omega
          clear hbm
          go_loopg [84] psk.length (fun gh v w' => ∃ j : Nat, j ≤ psk.length ∧ gh = psk.length - j ∧ v = .int .i64 (j : Int) ∧ Hid (apart (rus psk) j) ∧ NSet w' bm (((rus psk).take j).map nmOf) ∧ Box w' bk 141 L ∧ (1 ≤ k → HasSet w' v0 bk wo.heap.size (langK t 0)) ∧ Below w1.heap.size w1 w')
          case atStart => exact ⟨0, by omega, by omega, rfl, hide (apart_zero _), hN5, hx5, hS5, hb5⟩
          case round =>
           clear hN5 hx5 hS5 hb5 hsz5
           obtain ⟨j, hj, hgj, rfl, HAP, hNm, hBx, hS0, hbj⟩ := hrel
           have HGJ := hide hgj
           clear hgj
           by_cases hjl : j < psk.length
           ·obtain ⟨x, hx⟩ : ∃ x, psk[j]? = some x := ⟨psk[j], by simp [hjl]⟩
            have HH := hide hx
            have HRJ := hide (rus_get hx)
            have hRr := (hRk.below hb0).below hbj
            have hbkr : bk < wr.heap.size := hBx.lt
            have kk : wr.cell? ⟨bk, k, none⟩ = some (.map (some bm)) := hBx.at_ HLK.out
            clear hx
            obtain ⟨⟨s, wh, cl⟩, hh1, hh2, hh3⟩ := x
            have hNq := (hNm.alloc (.cells #[.string s, .int .i64 wh, .slice hh1 hh2 hh3] 84)).alloc (.cells #[.string s, .int .i64 wh] 143)
            have hBq := (hBx.alloc (.cells #[.string s, .int .i64 wh, .slice hh1 hh2 hh3] 84)).alloc (.cells #[.string s, .int .i64 wh] 143)
            have hbq : Below wr.heap.size wr ((wr.alloc (.cells #[.string s, .int .i64 wh, .slice hh1 hh2 hh3] 84)).alloc (.cells #[.string s, .int .i64 wh] 143)) := (blo wr _).trans ((blo _ _).mono (by simp))
            cases hq : isIn (((rus psk).take j).map nmOf) (s, wh)
            ·have HQ := hide hq
             have HAP2 : Hid (apart (rus psk) (j + 1)) := hide (apart_step HRJ.out HAP.out hq)
             have HTK : Hid (((rus psk).take (j + 1)).map nmOf = ((rus psk).take j).map nmOf ++ [(s, wh)]) := hide (by rw [take_succ_get HRJ.out, List.map_append]; rfl)
             clear hq
             go_wp2_with (with_reducible refine idx_r 86 _ _ _ _ _ _ rfl hRr.top _ _ j rfl rfl _ HH.out ?_; intro b o hcell hcell2 hcell3 hbo)
             refine wp_region_quiet_lit (by kernel_rfl) (by kernel_rfl) ?_
             go_big_quiet_step (fail)
             refine qidx_arr 94 _ _ bk k rfl rfl hkl ?_
             simp only [Act.put, List.setIfInBounds_toArray, List.set_cons_succ, List.set_cons_zero]
             go_big_quiet_step (fail)
             go_big_quiet_step (fail)
             refine qlook_nm _ _ rfl bm _ rfl hNq (s, wh) rfl rfl false HQ.out ?_
             simp only [Act.put, List.setIfInBounds_toArray, List.set_cons_succ, List.set_cons_zero]
             refine wpQuiet_nil ?_
             rintro _ ⟨nq, rfl⟩
             go_wp2
             refine wp_region_still_tail 4 (by kernel_rfl) (by kernel_rfl) ?_
             change wpStill _ _ (World.drew _) _ _ _
             simp only [List.take_succ_cons, List.take_zero, List.drop_succ_cons, List.drop_zero]
             still_step
             refine sidx_arr 99 _ _ bk k rfl rfl hkl ?_
             simp only [Act.put, List.setIfInBounds_toArray, List.set_cons_succ, List.set_cons_zero]
             repeat still_step
             refine wpStill_nil ?_
             change wpList _ _ _ _ _ (World.drew _)
             refine put_nm rfl _ _ _ rfl bm _ rfl (hNq.drewN _).drew (s, wh) rfl rfl HQ.out ?_
             intro w6 hN6 hg6 hs6
             rw [← HTK.out] at hN6
             have hB6 : Box w6 bk 141 L := ((hBq.drewN _).drew).grown hg6 (by simp; omega)
             have hS6 : 1 ≤ k → HasSet w6 v0 bk wo.heap.size (langK t 0) := fun h => by
              obtain ⟨b, e1, e2, e3, e4⟩ := (hS0 h).below hbq
              exact ⟨b, e1, e2, e3, ((e4.drewN _).drew).kept hg6 (by simp; omega)⟩
             have hb6 : Below w1.heap.size w1 w6 := (belowN (hbj.trans (hbq.mono hbj.size)) _).drew.grown hg6 (by have := hbq.size; have := hbj.size; show _ ≤ _; exact Nat.le_trans hbj.size hbq.size) (fun q hq => by cases hq; omega)
             go_wp2
             go_roundg (psk.length - (j + 1))
             case measure => have := HGJ.out; omega
             case rel => exact ⟨j + 1, by omega, rfl, by go_num, HAP2, hN6, hB6, hS6, hb6⟩
            ·have HE : Hid (r = 7) := hide (by
              rw [← HR.out]
              refine ve_dup HLEN.out HGOOD.out (k := k) ?_
              rw [← HEK.out]
              exact dup_of HRJ.out hq)
             have HQ := hide hq
             clear hq
             go_wp2_with (with_reducible refine idx_r 86 _ _ _ _ _ _ rfl hRr.top _ _ j rfl rfl _ HH.out ?_; intro b o hcell hcell2 hcell3 hbo)
             refine wp_region_quiet_lit (by kernel_rfl) (by kernel_rfl) ?_
             go_big_quiet_step (fail)
             refine qidx_arr 94 _ _ bk k rfl rfl hkl ?_
             simp only [Act.put, List.setIfInBounds_toArray, List.set_cons_succ, List.set_cons_zero]
             go_big_quiet_step (fail)
             go_big_quiet_step (fail)
             refine qlook_nm _ _ rfl bm _ rfl hNq (s, wh) rfl rfl true HQ.out ?_
             simp only [Act.put, List.setIfInBounds_toArray, List.set_cons_succ, List.set_cons_zero]
             refine wpQuiet_nil ?_
             rintro _ ⟨nq, rfl⟩
             go_wp2
             go_ret
             exact ⟨by rw [HE.out]; rfl, hb0.trans ((belowN (hbj.trans (hbq.mono hbj.size)) _).mono hb0.size)⟩
           ·obtain rfl : j = psk.length := by omega
            have HDUP2 : Hid (∀ j, j < k + 1 → dupB (langK t j) = false) := hide (fun j hj => by
             by_cases e : j = k
             ·rw [e, ← HEK.out]; exact apart_all (by rw [show (rus psk).length = psk.length by unfold rus; simp]; exact HAP.out)
             ·exact HDUP.out j (by omega))
            have hNf : NSet wr bm ((langK t k).map nmOf) := by
             have := hNm
             rw [List.take_of_length_le (by unfold rus; simp), HEK.out] at this
             exact this
            have HKN : Hid (∃ v0' v1', Box wr bk 141 [v0', v1'] ∧ (1 ≤ k + 1 → HasSet wr v0' bk wr.heap.size (langK t 0)) ∧ (2 ≤ k + 1 → HasSet wr v1' bk wr.heap.size (langK t 1))) := by
             have hl := HLL.out
             rw [← HBM.out] at hl
             rcases k with _ | _ | k
             ·refine hide ⟨.map (some bm), v1, ?_, fun _ => ⟨bm, rfl, hbmk, hNf.lt, hNf⟩, fun h => by omega⟩
              rw [hl] at hBx; exact hBx
             ·refine hide ⟨v0, .map (some bm), ?_, fun _ => (hS0 (by omega)).now, fun _ => ⟨bm, rfl, hbmk, hNf.lt, hNf⟩⟩
              rw [hl] at hBx; exact hBx
             ·omega
            clear hNm hNf hBx hS0
            go_wp2
            obtain ⟨v0', v1', g1, g2, g3⟩ := HKN.out
            go_roundg (2 - (k + 1))
            case measure => have := HG.out; omega
            case rel => exact ⟨k + 1, v0', v1', by omega, rfl, by go_num, g1, g2, g3, HDUP2, hbj⟩
         ·obtain rfl : k = 2 := by omega
          obtain ⟨b0, rfl, hn0, _, hN0⟩ := hS0 (by omega)
          obtain ⟨b1, rfl, hn1, _, hN1⟩ := hS1 (by omega)
          have q0 : wr.cell? ⟨bk, 0, none⟩ = some (.map (some b0)) := hBk.at_ rfl
          have q1 : wr.cell? ⟨bk, 1, none⟩ = some (.map (some b1)) := hBk.at_ rfl
          clear hk hkl HG hS0 hS1 hBk
          obtain ⟨wq, rfl⟩ : ∃ wq : World, wq = wr := ⟨_, rfl⟩
          go_wp2_with fail
          go_loopg [16] 26 (fun gh v w' => ∃ u : Nat, 97 ≤ u ∧ u ≤ 123 ∧ gh = 123 - u ∧ Hid (ownTo (langK t 0) (u - 97)) ∧ Hid (ownTo (langK t 1) (u - 97)) ∧ v = .int .u8 (u : Int) ∧ Below wq.heap.size wq w')
          case atStart => exact ⟨97, by omega, by omega, by omega, hide (fun j h => by omega), hide (fun j h => by omega), rfl, Below.refl _ _⟩
          case round =>
           obtain ⟨u, hu1, hu2, hgu, HO0, HO1, rfl, hbu⟩ := hrel
           have HGU := hide hgu
           clear hgu
           have p0 := cell_below q0 hbu
           have p1 := cell_below q1 hbu
           have hbkr : bk < wr.heap.size := World.block_lt_of_cell? _ _ p0
           have hbt := hb.trans (hbu.mono hb.size)
           by_cases hul : u ≤ 122
           ·have d3 : decide ((u : Int) ≤ 122) = true := decide_eq_true (by omega)
            have d3' : decide (u ≤ 122) = true := decide_eq_true hul
            have HUU : Hid (97 + (u - 97) = u) := hide (by omega)
            have HW : Hid (((u : Int) + 1) % 256 = ((u + 1 : Nat) : Int)) := hide (by omega)
            have hcs := encode_chr u (by omega)
            obtain ⟨S, hS⟩ : ∃ S, Utf8.encode (u : Int) = S := ⟨_, rfl⟩
            rw [hS] at hcs
            have o0 := own_in (langK t 0) _ S hcs
            have o1 := own_in (langK t 1) _ S hcs
            have hM0 := (hN0.below hbu).alloc (.cells #[.string S, .int .i64 0] 143)
            have hM1 := (hN1.below hbu).alloc (.cells #[.string S, .int .i64 0] 143)
            clear hcs
            cases z0 : ownB (langK t 0) (UInt8.ofNat u)
            ·have HZ0 : Hid (isIn ((langK t 0).map nmOf) (S, 0) = false) := hide (by rw [o0, z0])
             have HE : Hid (r = 6) := hide (by
              rw [← HR.out]
              refine ve_miss HLEN.out HGOOD.out HDUP.out (k := 0) (miss_of (k := u - 97) (by omega) ?_)
              rw [HUU.out]; exact z0)
             clear o0 o1 z0 hM1
             go_wp2_with (with_reducible refine look_nm rfl _ _ rfl b0 _ rfl hM0 (S, 0) rfl false HZ0.out ?_)
             go_ret
             exact ⟨by rw [HE.out]; rfl, hb0.trans ((hbt.trans ((blo wr _).mono hbt.size)).mono hb0.size)⟩
            have HZ0 : Hid (isIn ((langK t 0).map nmOf) (S, 0) = true) := hide (by rw [o0, z0])
            have HO0' : Hid (ownTo (langK t 0) (u + 1 - 97)) := hide (by
             have := ownTo_step HO0.out (by rw [HUU.out]; exact z0)
             rwa [show u - 97 + 1 = u + 1 - 97 by omega] at this)
            clear o0 z0
            cases z1 : ownB (langK t 1) (UInt8.ofNat u)
            ·have HZ1 : Hid (isIn ((langK t 1).map nmOf) (S, 0) = false) := hide (by rw [o1, z1])
             have HE : Hid (r = 6) := hide (by
              rw [← HR.out]
              refine ve_miss HLEN.out HGOOD.out HDUP.out (k := 1) (miss_of (k := u - 97) (by omega) ?_)
              rw [HUU.out]; exact z1)
             clear o1 z1
             go_wp2_with (first
              | (with_reducible refine look_nm rfl _ _ rfl b0 _ rfl hM0 (S, 0) rfl true HZ0.out ?_)
              | (refine unguard_any (by simp [Region.wanted, yielded]; done) ?_; with_reducible refine look_nm rfl _ _ rfl b1 _ rfl hM1 (S, 0) rfl false HZ1.out ?_))
             go_ret
             exact ⟨by rw [HE.out]; rfl, hb0.trans ((hbt.trans ((blo wr _).mono hbt.size)).mono hb0.size)⟩
            ·have HZ1 : Hid (isIn ((langK t 1).map nmOf) (S, 0) = true) := hide (by rw [o1, z1])
             have HO1' : Hid (ownTo (langK t 1) (u + 1 - 97)) := hide (by
              have := ownTo_step HO1.out (by rw [HUU.out]; exact z1)
              rwa [show u - 97 + 1 = u + 1 - 97 by omega] at this)
             clear o1 z1
             go_wp2_with (first
              | (with_reducible refine look_nm rfl _ _ rfl b0 _ rfl hM0 (S, 0) rfl true HZ0.out ?_)
              | (refine unguard_any (by simp [Region.wanted, yielded]; done) ?_; with_reducible refine look_nm rfl _ _ rfl b1 _ rfl hM1 (S, 0) rfl true HZ1.out ?_))
             have hbf : ∀ o, Below wq.heap.size wq (wr.alloc o) := fun o => hbu.trans ((blo wr o).mono hbu.size)
             go_roundg (123 - (u + 1))
             case measure => have := HGU.out; omega
             case rel => exact ⟨u + 1, by omega, by omega, rfl, HO0', HO1', by first | go_num | (rw [HW.out]), hbf _⟩
           ·obtain rfl : u = 123 := by omega
            have HE : Hid (r = 0) := hide (by rw [← HR.out]; exact ve_ok HLEN.out HGOOD.out HDUP.out (two_cases (miss_no HO0.out) (miss_no HO1.out)))
            go_wp2
            go_ret
            exact ⟨by rw [HE.out]; rfl, hb0.trans (hbt.mono hb0.size)⟩
end Go.Proofs.Ytlpkicjijlcbfaa
end
