import Derived.Test.YtalicdpocgomkaaWire7
namespace Go.Proofs.Ytalicdpocgomkaa
open Go.RowKit Go.Dx

/-- what has been written after k elements -/
def accTo {α : Type} (p : List UInt8) (g : α → List UInt8) (l : List α) (k : Nat) : List UInt8 := p ++ (l.take k).flatMap g
theorem acc_zero {α : Type} (p : List UInt8) (g : α → List UInt8) (l : List α) : accTo p g l 0 = p := by simp [accTo]
theorem acc_succ {α : Type} (p : List UInt8) (g : α → List UInt8) {l : List α} {k : Nat} {x : α} (h : l[k]? = some x) : accTo p g l (k + 1) = accTo p g l k ++ g x := by
  unfold accTo; rw [List.take_add_one, h]; simp
theorem acc_all {α : Type} (p : List UInt8) (g : α → List UInt8) (l : List α) : accTo p g l l.length = p ++ l.flatMap g := by unfold accTo; rw [List.take_length]
theorem acc_le {α : Type} (p : List UInt8) (g : α → List UInt8) (l : List α) (k : Nat) : (accTo p g l k).length ≤ (p ++ l.flatMap g).length := by
  unfold accTo
  have e : l.flatMap g = (l.take k).flatMap g ++ (l.drop k).flatMap g := by rw [← List.flatMap_append, List.take_append_drop]
  rw [e]; simp

set_option maxHeartbeats 400000 in
theorem wire_Ints (l : List Int) (hl : ∀ x ∈ l, -9223372036854775808 ≤ x ∧ x ≤ 9223372036854775807) (hT : (encInts l).length ≤ 140737488355000) (hN : l.length ≤ 140737488355000) (a : Option Addr) (n c : Nat) (w : World) (hs : Sl w 1 a n c (l.map I64)) :
    Calls Try.prog 62 #[.slice a n c] w (Gives 5 1 (encInts l).length ((encInts l).map B8) w) := by
  obtain rfl := hs.n_eq
  go_enter Try.func62, Try.ntmps62
  go_wp2_with fail
  refine (wire_Int _ (by omega) (by omega) _).mono ?_
  rintro e w1 ⟨a1, c1, rfl, ho1, hb1⟩
  go_wp2_with fail
  go_loopg [3, 11] l.length (fun g x i w' => ∃ (k : Nat) (a : Option Addr) (c : Nat) (xs : List UInt8), k ≤ l.length ∧ g = l.length - k ∧ xs = accTo (encInt l.length) encInt l k ∧ i = .int .i64 k ∧ x = .slice a xs.length c ∧ Own w' w.heap.size 5 1 a xs.length c (xs.map B8) ∧ Below w.heap.size w w')
  case atStart => exact ⟨0, a1, c1, encInt l.length, by omega, by omega, (acc_zero _ _ _).symm, rfl, rfl, ho1, hb1⟩
  case round =>
    obtain ⟨k, a2, c2, xs, hk, hg, hxs, rfl, rfl, hown, hb⟩ := hrel
    have HG := hide hg
    have hle : xs.length ≤ 140737488355000 := by rw [hxs]; exact Nat.le_trans (acc_le _ _ _ _) hT
    have HX := hide hxs
    clear hg hxs
    by_cases hkl : k < l.length
    · obtain ⟨x, hx⟩ : ∃ x, l[k]? = some x := ⟨l[k], by simp [hkl]⟩
      have hcx := hl x (List.mem_of_getElem? hx)
      obtain ⟨ys, HY⟩ : ∃ ys, Hid (ys = encInt x) := ⟨_, rfl⟩
      have HS : Hid (accTo (encInt l.length) encInt l (k + 1) = xs ++ ys) := by show _ = _; rw [HX.out, HY.out]; exact acc_succ _ _ hx
      have hsum : xs.length + ys.length ≤ 140737488355000 := by rw [← List.length_append, ← HS.out]; exact Nat.le_trans (acc_le _ _ _ _) hT
      have HH := hide hx
      have HC : Hid (∀ w, Calls Try.prog 58 #[.int .i64 x] w (Gives 5 1 ys.length (ys.map B8) w)) := fun w => by rw [HY.out]; exact wire_Int x hcx.1 hcx.2 w
      clear hx
      go_wp2_with (first
        | (with_reducible refine idx_i 13 _ _ _ _ _ l rfl (hs.below hb) _ _ k rfl rfl x HH.out ?_; intro b o hcell hbo)
        | (go_at_call 58; refine (HC.out _).mono ?_; rintro e w2 ⟨a3, c3, rfl, ho3, hb3⟩)
        | (at_builtin; refine app_bs rfl _ _ rfl w w.heap.size _ _ _ _ rfl (hown.below hb3) _ _ _ ys rfl ho3.sl (by omega) (Nat.le_trans hb.size hb3.size) (hb.trans (hb3.mono hb.size)) ?_; intro a' c' w' ho' hgr' hb'))
      go_roundg (l.length - (k + 1))
      case measure => have := HG.out; omega
      case rel => exact ⟨k + 1, a', c', xs ++ ys, by omega, rfl, HS.out.symm, by go_num, by rw [List.length_append], by rw [List.length_append, List.map_append]; exact ho', hb'⟩
    · obtain rfl : k = l.length := by omega
      go_wp2
      go_ret
      have e : encInts l = xs := by rw [HX.out, acc_all]; rfl
      rw [e]
      exact ⟨a2, c2, rfl, hown, hb⟩

set_option maxHeartbeats 400000 in
theorem wire_Strings (l : List ByteArray) (hl : ∀ x ∈ l, x.size ≤ 140737488355000) (hT : (encStrs l).length ≤ 140737488355000) (hN : l.length ≤ 140737488355000) (a : Option Addr) (n c : Nat) (w : World) (hs : Sl w 1 a n c (l.map Value.string)) :
    Calls Try.prog 52 #[.slice a n c] w (Gives 5 1 (encStrs l).length ((encStrs l).map B8) w) := by
  obtain rfl := hs.n_eq
  go_enter Try.func52, Try.ntmps52
  go_wp2_with fail
  refine (wire_Int _ (by omega) (by omega) _).mono ?_
  rintro e w1 ⟨a1, c1, rfl, ho1, hb1⟩
  go_wp2_with fail
  go_loopg [3, 11] l.length (fun g x i w' => ∃ (k : Nat) (a : Option Addr) (c : Nat) (xs : List UInt8), k ≤ l.length ∧ g = l.length - k ∧ xs = accTo (encInt l.length) (fun s : ByteArray => encBytes s.data.toList) l k ∧ i = .int .i64 k ∧ x = .slice a xs.length c ∧ Own w' w.heap.size 5 1 a xs.length c (xs.map B8) ∧ Below w.heap.size w w')
  case atStart => exact ⟨0, a1, c1, encInt l.length, by omega, by omega, (acc_zero _ _ _).symm, rfl, rfl, ho1, hb1⟩
  case round =>
    obtain ⟨k, a2, c2, xs, hk, hg, hxs, rfl, rfl, hown, hb⟩ := hrel
    have HG := hide hg
    have hle : xs.length ≤ 140737488355000 := by rw [hxs]; exact Nat.le_trans (acc_le _ _ _ _) hT
    have HX := hide hxs
    clear hg hxs
    by_cases hkl : k < l.length
    · obtain ⟨x, hx⟩ : ∃ x, l[k]? = some x := ⟨l[k], by simp [hkl]⟩
      have hcx := hl x (List.mem_of_getElem? hx)
      obtain ⟨ys, HY⟩ : ∃ ys, Hid (ys = (fun s : ByteArray => encBytes s.data.toList) x) := ⟨_, rfl⟩
      have HS : Hid (accTo (encInt l.length) (fun s : ByteArray => encBytes s.data.toList) l (k + 1) = xs ++ ys) := by show _ = _; rw [HX.out, HY.out]; exact acc_succ _ _ hx
      have hsum : xs.length + ys.length ≤ 140737488355000 := by rw [← List.length_append, ← HS.out]; exact Nat.le_trans (acc_le _ _ _ _) hT
      have HH := hide hx
      have HC : Hid (∀ w, Calls Try.prog 60 #[.string x] w (Gives 5 1 ys.length (ys.map B8) w)) := fun w => by rw [HY.out]; exact wire_Bytes x hcx w
      clear hx
      go_wp2_with (first
        | (with_reducible refine idx_s 13 _ _ _ _ _ l rfl (hs.below hb) _ _ k rfl rfl x HH.out ?_; intro b o hcell hbo)
        | (go_at_call 60; refine (HC.out _).mono ?_; rintro e w2 ⟨a3, c3, rfl, ho3, hb3⟩)
        | (at_builtin; refine app_bs rfl _ _ rfl w w.heap.size _ _ _ _ rfl (hown.below hb3) _ _ _ ys rfl ho3.sl (by omega) (Nat.le_trans hb.size hb3.size) (hb.trans (hb3.mono hb.size)) ?_; intro a' c' w' ho' hgr' hb'))
      go_roundg (l.length - (k + 1))
      case measure => have := HG.out; omega
      case rel => exact ⟨k + 1, a', c', xs ++ ys, by omega, rfl, HS.out.symm, by go_num, by rw [List.length_append], by rw [List.length_append, List.map_append]; exact ho', hb'⟩
    · obtain rfl : k = l.length := by omega
      go_wp2
      go_ret
      have e : encStrs l = xs := by rw [HX.out, acc_all]; rfl
      rw [e]
      exact ⟨a2, c2, rfl, hown, hb⟩

set_option maxHeartbeats 400000 in
theorem ref_Ints (l : List Int) (hl : ∀ x ∈ l, -9223372036854775808 ≤ x ∧ x ≤ 9223372036854775807) (hT : (encInts l).length ≤ 140737488355000) (hN : l.length ≤ 140737488355000) (a : Option Addr) (n c : Nat) (w : World) (hs : Sl w 1 a n c (l.map I64)) :
    Calls Try.prog 63 #[.slice a n c] w (Gives 5 1 (encInts l).length ((encInts l).map B8) w) := by
  obtain rfl := hs.n_eq
  go_enter Try.func63, Try.ntmps63
  go_wp2_with fail
  refine (ref_Int _ (by omega) (by omega) _).mono ?_
  rintro e w1 ⟨a1, c1, rfl, ho1, hb1⟩
  go_wp2_with fail
  go_loopg [3, 4] l.length (fun g x i w' => ∃ (k : Nat) (a : Option Addr) (c : Nat) (xs : List UInt8), k ≤ l.length ∧ g = l.length - k ∧ xs = accTo (encInt l.length) encInt l k ∧ i = .int .i64 k ∧ x = .slice a xs.length c ∧ Own w' w.heap.size 5 1 a xs.length c (xs.map B8) ∧ Below w.heap.size w w')
  case atStart => exact ⟨0, a1, c1, encInt l.length, by omega, by omega, (acc_zero _ _ _).symm, rfl, rfl, ho1, hb1⟩
  case round =>
    obtain ⟨k, a2, c2, xs, hk, hg, hxs, rfl, rfl, hown, hb⟩ := hrel
    have HG := hide hg
    have hle : xs.length ≤ 140737488355000 := by rw [hxs]; exact Nat.le_trans (acc_le _ _ _ _) hT
    have HX := hide hxs
    clear hg hxs
    by_cases hkl : k < l.length
    · obtain ⟨x, hx⟩ : ∃ x, l[k]? = some x := ⟨l[k], by simp [hkl]⟩
      have hcx := hl x (List.mem_of_getElem? hx)
      obtain ⟨ys, HY⟩ : ∃ ys, Hid (ys = encInt x) := ⟨_, rfl⟩
      have HS : Hid (accTo (encInt l.length) encInt l (k + 1) = xs ++ ys) := by show _ = _; rw [HX.out, HY.out]; exact acc_succ _ _ hx
      have hsum : xs.length + ys.length ≤ 140737488355000 := by rw [← List.length_append, ← HS.out]; exact Nat.le_trans (acc_le _ _ _ _) hT
      have HH := hide hx
      have HC : Hid (∀ w, Calls Try.prog 59 #[.int .i64 x] w (Gives 5 1 ys.length (ys.map B8) w)) := fun w => by rw [HY.out]; exact ref_Int x hcx.1 hcx.2 w
      clear hx
      go_wp2_with (first
        | (with_reducible refine idx_i 17 _ _ _ _ _ l rfl (hs.below hb) _ _ k rfl rfl x HH.out ?_; intro b o hcell hbo)
        | (go_at_call 59; refine (HC.out _).mono ?_; rintro e w2 ⟨a3, c3, rfl, ho3, hb3⟩)
        | (at_builtin; refine app_bs rfl _ _ rfl w w.heap.size _ _ _ _ rfl (hown.below hb3) _ _ _ ys rfl ho3.sl (by omega) (Nat.le_trans hb.size hb3.size) (hb.trans (hb3.mono hb.size)) ?_; intro a' c' w' ho' hgr' hb'))
      go_roundg (l.length - (k + 1))
      case measure => have := HG.out; omega
      case rel => exact ⟨k + 1, a', c', xs ++ ys, by omega, rfl, HS.out.symm, by go_num, by rw [List.length_append], by rw [List.length_append, List.map_append]; exact ho', hb'⟩
    · obtain rfl : k = l.length := by omega
      go_wp2
      go_ret
      have e : encInts l = xs := by rw [HX.out, acc_all]; rfl
      rw [e]
      exact ⟨a2, c2, rfl, hown, hb⟩

set_option maxHeartbeats 400000 in
theorem ref_Strings (l : List ByteArray) (hl : ∀ x ∈ l, x.size ≤ 140737488355000) (hT : (encStrs l).length ≤ 140737488355000) (hN : l.length ≤ 140737488355000) (a : Option Addr) (n c : Nat) (w : World) (hs : Sl w 1 a n c (l.map Value.string)) :
    Calls Try.prog 64 #[.slice a n c] w (Gives 5 1 (encStrs l).length ((encStrs l).map B8) w) := by
  obtain rfl := hs.n_eq
  go_enter Try.func64, Try.ntmps64
  go_wp2_with fail
  refine (ref_Int _ (by omega) (by omega) _).mono ?_
  rintro e w1 ⟨a1, c1, rfl, ho1, hb1⟩
  go_wp2_with fail
  go_loopg [3, 4] l.length (fun g x i w' => ∃ (k : Nat) (a : Option Addr) (c : Nat) (xs : List UInt8), k ≤ l.length ∧ g = l.length - k ∧ xs = accTo (encInt l.length) (fun s : ByteArray => encBytes s.data.toList) l k ∧ i = .int .i64 k ∧ x = .slice a xs.length c ∧ Own w' w.heap.size 5 1 a xs.length c (xs.map B8) ∧ Below w.heap.size w w')
  case atStart => exact ⟨0, a1, c1, encInt l.length, by omega, by omega, (acc_zero _ _ _).symm, rfl, rfl, ho1, hb1⟩
  case round =>
    obtain ⟨k, a2, c2, xs, hk, hg, hxs, rfl, rfl, hown, hb⟩ := hrel
    have HG := hide hg
    have hle : xs.length ≤ 140737488355000 := by rw [hxs]; exact Nat.le_trans (acc_le _ _ _ _) hT
    have HX := hide hxs
    clear hg hxs
    by_cases hkl : k < l.length
    · obtain ⟨x, hx⟩ : ∃ x, l[k]? = some x := ⟨l[k], by simp [hkl]⟩
      have hcx := hl x (List.mem_of_getElem? hx)
      obtain ⟨ys, HY⟩ : ∃ ys, Hid (ys = (fun s : ByteArray => encBytes s.data.toList) x) := ⟨_, rfl⟩
      have HS : Hid (accTo (encInt l.length) (fun s : ByteArray => encBytes s.data.toList) l (k + 1) = xs ++ ys) := by show _ = _; rw [HX.out, HY.out]; exact acc_succ _ _ hx
      have hsum : xs.length + ys.length ≤ 140737488355000 := by rw [← List.length_append, ← HS.out]; exact Nat.le_trans (acc_le _ _ _ _) hT
      have HH := hide hx
      have HC : Hid (∀ w, Calls Try.prog 61 #[.string x] w (Gives 5 1 ys.length (ys.map B8) w)) := fun w => by rw [HY.out]; exact ref_Bytes x hcx w
      clear hx
      go_wp2_with (first
        | (with_reducible refine idx_s 17 _ _ _ _ _ l rfl (hs.below hb) _ _ k rfl rfl x HH.out ?_; intro b o hcell hbo)
        | (go_at_call 61; refine (HC.out _).mono ?_; rintro e w2 ⟨a3, c3, rfl, ho3, hb3⟩)
        | (at_builtin; refine app_bs rfl _ _ rfl w w.heap.size _ _ _ _ rfl (hown.below hb3) _ _ _ ys rfl ho3.sl (by omega) (Nat.le_trans hb.size hb3.size) (hb.trans (hb3.mono hb.size)) ?_; intro a' c' w' ho' hgr' hb'))
      go_roundg (l.length - (k + 1))
      case measure => have := HG.out; omega
      case rel => exact ⟨k + 1, a', c', xs ++ ys, by omega, rfl, HS.out.symm, by go_num, by rw [List.length_append], by rw [List.length_append, List.map_append]; exact ho', hb'⟩
    · obtain rfl : k = l.length := by omega
      go_wp2
      go_ret
      have e : encStrs l = xs := by rw [HX.out, acc_all]; rfl
      rw [e]
      exact ⟨a2, c2, rfl, hown, hb⟩

end Go.Proofs.Ytalicdpocgomkaa
