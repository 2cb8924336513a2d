import Derived.Test.YtalicdpocgomkaaDoorHash12
namespace Go.Proofs.YtalicdpocgomkaaDoor
open Go.RowKit Go.Dx

def hexd (n : Nat) : UInt8 := [48, 49, 50, 51, 52, 53, 54, 55, 56, 57, 97, 98, 99, 100, 101, 102].getD n 0
def hexL (l : List UInt8) : List UInt8 := l.flatMap fun c => [hexd (c.toNat / 16), hexd (c.toNat % 16)]
theorem hexL_len (l : List UInt8) : (hexL l).length = 2 * l.length := by
  unfold hexL
  induction l with
  | nil => rfl
  | cons x l ih => rw [List.flatMap_cons, List.length_append, ih]; simp; omega
theorem hexL_snoc (l : List UInt8) (c : UInt8) : hexL (l ++ [c]) = hexL l ++ [hexd (c.toNat / 16), hexd (c.toNat % 16)] := by simp [hexL]
def hexT : ByteArray := ⟨#[48, 49, 50, 51, 52, 53, 54, 55, 56, 57, 97, 98, 99, 100, 101, 102]⟩
theorem hexT_size : hexT.size = 16 := rfl
theorem hexT_get : ∀ i : Fin 16, (hexT[i.1]'(by rw [hexT_size]; exact i.2)) = hexd i.1 := by decide
section
variable {w : World} {ops : Array Oper} {rest : List Oper} {o : Oper} {act : Act} {Q : Exit → Act → World → Prop}
/-- 'append(out, d, e)' on []byte -/
theorem app_b2 (hg : o.guard = none) (s x : Operand) (hop : o.op = Op.call { callee := Callee.builtin Builtin.append, args := #[s, x], argTypes := #[22, 22] })
    (w0 : World) (B : Nat) (a : Option Addr) (n c : Nat) (xs : List Value) (hs : act.eval s = .slice a n c) (hown : Own w B 5 1 a n c xs)
    (u v : Int) (hx : act.eval x = .slice (some ⟨w.heap.size, 0, none⟩) 2 2)
    (hn : n + 2 ≤ 140737488355328) (hB : B ≤ w.heap.size) (hbel : Below B w0 w)
    (hK : ∀ a' c' w', Own w' B 5 1 a' (n + 2) c' (xs ++ [.int .u8 u, .int .u8 v]) → w.grownBy w' (a.map (·.block)) → Below B w0 w' → wpList Tryd.prog ops Q rest (act.put o.dst (.slice a' (n + 2) c')) w') :
    wpList Tryd.prog ops Q (o :: rest) act (w.alloc (.cells #[.int .u8 u, .int .u8 v] 5)) :=
  append_lit hg s x 22 hop 5 (.int .u8 0) 1 1 Tryd.underlying22 info_u8 rfl w0 B a n c xs hs hown 2 [.int .u8 u, .int .u8 v] hx rfl (by simp [Value.oneCell']) (by omega) (by unfold maxLen; omega) hB hbel hK
end
set_option maxRecDepth 100000 in
set_option maxHeartbeats 1000000 in
theorem hex_any (x : ByteArray) (hx : x.size ≤ 1000000) (w : World) :
    Calls Tryd.prog 25 #[.string x] w fun e w' => e = .returned (.string ⟨(hexL x.data.toList).toArray⟩) ∧ Below w.heap.size w w' := by
  have hxl : x.data.toList.length = x.size := Array.length_toList
  have hxl := hide hxl
  have h16 := hexT_size
  go_enter Tryd.func25, Tryd.ntmps25
  go_wp2_with fail
  obtain ⟨T, hT⟩ : ∃ T : ByteArray, Hid (hexT = T) := ⟨_, rfl⟩
  change Code.wp _ _ _ { tmps := #[.string x, undef, .string ⟨#[]⟩, .string hexT, _, _, _, _, _, _, _, _, _, _, _, _, _, _, _, _, _, _, _, _, _, _, _, _, _], defers := [] } w
  rw [hT.out]
  rw [hT.out] at h16
  go_loopg [4, 5] x.size (fun g o i w' => ∃ (k : Nat) (a : Option Addr) (c : Nat), k ≤ x.size ∧ g = x.size - k ∧ i = .int .i64 k ∧ o = .slice a (2 * k) c ∧ Own w' w.heap.size 5 1 a (2 * k) c ((hexL (x.data.toList.take k)).map B8) ∧ Below w.heap.size w w')
  case atStart => exact ⟨0, none, 0, by omega, by omega, rfl, rfl, Own.nil _ _ _ _, Below.refl _ _⟩
  case round =>
    obtain ⟨k, a, c, hk, hg, rfl, rfl, oP, hb⟩ := hrel
    have HG := hide hg
    clear hg
    by_cases hlt : k < x.size
    · have i0 : (0 : Int) ≤ (k : Int) := by omega
      have i1 : (k : Int) < (x.size : Int) := by omega
      have hd16 : x[k].toNat / 16 < 16 := by have := UInt8.toNat_lt x[k]; omega
      have hm16 : x[k].toNat % 16 < 16 := by omega
      obtain ⟨d1, hd1⟩ : ∃ d, d = x[k].toNat / 16 := ⟨_, rfl⟩
      obtain ⟨d2, hd2⟩ : ∃ d, d = x[k].toNat % 16 := ⟨_, rfl⟩
      have w1 : IntKind.u8.wrap ((x[k].toNat : Int) / 16) = (d1 : Int) := by rw [IntKind.wrap_u8']; omega
      have w2 : (x[k].toNat : Int).tmod 16 = (d2 : Int) := by rw [Int.tmod_eq_emod_of_nonneg (by omega)]; omega
      have c1 : (d1 : Int) < 16 := by omega
      have c2 : (d2 : Int) < 16 := by omega
      have c3 : (0 : Int) ≤ (d1 : Int) := by omega
      have c4 : (0 : Int) ≤ (d2 : Int) := by omega
      have HD1 := hide hd1
      have HD2 := hide hd2
      clear hd16 hm16 hd1 hd2
      go_wp2_with fail
      refine wp_region_pure_tail 13 (by kernel_rfl) (by kernel_rfl) (fun _ _ _ _ _ h => h) ?_
      simp only [List.take_succ_cons, List.take_zero, List.drop_succ_cons, List.drop_zero]
      repeat (refine pure_cons (v := ?_) (by rfl) ?_ ?_; rotate_left 1; (intro W; go_simp; with_reducible rfl); simp only [Act.put, List.setIfInBounds_toArray, List.set_cons_succ, List.set_cons_zero])
      change wpList _ _ _ _ _ _
      go_wp2_with (at_builtin; refine app_b2 (o := ⟨some 26, _, _, _, _, _⟩) rfl _ _ rfl w w.heap.size _ _ _ _ rfl oP.drew _ _ rfl (by omega) hb.size hb.drew ?_; intro a7 c7 w7 oD hg7 hb7)
      go_roundg (x.size - (k + 1))
      case measure => have := HG.out; omega
      case rel =>
        refine ⟨k + 1, a7, c7, by omega, rfl, by go_num, rfl, ?_, hb7⟩
        rw [take_next (str_get x k (by omega)), hexL_snoc, List.map_append, ← HD1.out, ← HD2.out]
        have e1 : T[d1] = hexd d1 := by have h := hexT_get ⟨d1, by omega⟩; simp only [hT.out] at h; exact h
        have e2 : T[d2] = hexd d2 := by have h := hexT_get ⟨d2, by omega⟩; simp only [hT.out] at h; exact h
        rw [e1, e2] at oD
        exact oD
    · obtain rfl : k = x.size := by omega
      rw [List.take_of_length_le (by rw [hxl.out]; exact Nat.le_refl _)] at oP
      go_wp2_with (with_reducible refine to_str 28 _ _ _ _ (hexL x.data.toList) rfl oP.sl ?_)
      go_ret
      exact ⟨rfl, hb⟩
end Go.Proofs.YtalicdpocgomkaaDoor
