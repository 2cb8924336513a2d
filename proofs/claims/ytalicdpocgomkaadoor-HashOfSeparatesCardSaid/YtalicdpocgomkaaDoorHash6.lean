import Derived.Test.YtalicdpocgomkaaDoorHash2
import Derived.Test.YtalicdpocgomkaaDoorHashP
import Derived.Test.YtalicdpocgomkaaDoorBox
namespace Go.Proofs.YtalicdpocgomkaaDoor
open Go.RowKit Go.Dx

/-- the zeros behind a message of n bytes and the mark -/
def padN (n : Nat) : Nat := (119 - n % 64) % 64
def lenByte (n i : Nat) : UInt8 := UInt8.ofNat (8 * n / 2 ^ (56 - 8 * i))
/-- the length in bits, its first k bytes of eight -/
def lenB (n k : Nat) : List UInt8 := (List.range k).map (lenByte n)
theorem lenB_succ (n k : Nat) : lenB n (k + 1) = lenB n k ++ [lenByte n k] := by simp [lenB, List.range_succ]
theorem lenB_length (n k : Nat) : (lenB n k).length = k := by simp [lenB]
/-- the padding behind a message of n bytes -/
def padTail (n : Nat) : List UInt8 := [128] ++ List.replicate (padN n) 0 ++ lenB n 8
def pad (m : List UInt8) : List UInt8 := m ++ padTail m.length
theorem lenByte_int (n i j : Nat) (hj : j = 56 - 8 * i) : (8 * (n : Int)) / 2 ^ j % 256 = ((lenByte n i).toNat : Int) := by
  subst hj
  unfold lenByte
  rw [UInt8.toNat_ofNat']
  simp
set_option maxRecDepth 100000 in
set_option maxHeartbeats 1000000 in
theorem padded_any (l : List UInt8) (hl : l.length ≤ 1000000000) (a : Option Addr) (n c : Nat) (w : World) (hs : Sl w 1 a n c (l.map B8)) :
    Calls Tryd.prog 27 #[.slice a n c] w (Gives 5 1 (pad l).length ((pad l).map B8) w) := by
  obtain rfl := hs.n_eq
  obtain ⟨N, hN⟩ : ∃ N, N = l.length := ⟨_, rfl⟩
  rw [← hN] at hs hl ⊢
  have HN := hide hN
  clear hN
  have oA := Own.built w w.heap.size 5 1 0 #[] (Nat.le_refl _) rfl (Nat.zero_le _)
  have b1 : Below w.heap.size w (w.alloc (.cells #[] 5)) := (Below.refl _ _).alloc (Nat.le_refl _) _
  go_enter Tryd.func27, Tryd.ntmps27
  go_wp2_with (first
    | (at_builtin; refine app_bs (o := ⟨some 8, _, _, _, _, _⟩) rfl _ _ rfl w w.heap.size _ _ _ _ rfl oA _ _ _ _ rfl (hs.alloc _) (by omega) (by simp) b1 ?_; intro a3 c3 w3 oB hg3 hb3; rw [Nat.zero_add] at oB)
    | (at_builtin; refine app_b (o := ⟨some 11, _, _, _, _, _⟩) rfl _ _ rfl w w.heap.size _ _ _ _ rfl oB _ rfl (by omega) hb3.size hb3 ?_; intro a4 c4 w4 oC hg4 hb4))
  have oC : Own w4 w.heap.size 5 1 a4 (N + 1) c4 ((l ++ [128] ++ List.replicate 0 0).map B8) := by
    have oC : Own w4 w.heap.size 5 1 a4 (N + 1) c4 ([] ++ l.map B8 ++ [B8 128]) := oC
    simpa using oC
  clear hg3 hg4 hb3 oB oA b1
  go_loopg [3] (padN N) (fun g x w' => ∃ (M : Nat) (a : Option Addr) (c : Nat), N + 1 ≤ M ∧ M ≤ N + 1 + padN N ∧ g = padN N - (M - N - 1) ∧ x = .slice a M c ∧ Own w' w.heap.size 5 1 a M c ((l ++ [128] ++ List.replicate (M - N - 1) 0).map B8) ∧ Below w.heap.size w w')
  case atStart => exact ⟨N + 1, a4, c4, by omega, by omega, by omega, rfl, by rw [show N + 1 - N - 1 = 0 by omega]; exact oC, hb4⟩
  case round =>
    obtain ⟨M, a5, c5, hM0, hM1, hg, rfl, oC, hb⟩ := hrel
    have HG := hide hg
    clear hg
    have hp : padN N ≤ 63 := by unfold padN; omega
    by_cases hlt : M < N + 1 + padN N
    · have ht : ((M : Int) % 64 != 56) = true := by
        unfold padN at hlt
        simp
        omega
      go_wp2_with (at_builtin; refine app_b (o := ⟨some 18, _, _, _, _, _⟩) rfl _ _ rfl w w.heap.size _ _ _ _ rfl oC _ rfl (by omega) hb.size hb ?_; intro a6 c6 w6 oD hg6 hb6)
      go_roundg (padN N - (M + 1 - N - 1))
      case measure => have := HG.out; omega
      case rel =>
        refine ⟨M + 1, a6, c6, by omega, by omega, by omega, rfl, ?_, hb6⟩
        rw [show M + 1 - N - 1 = (M - N - 1) + 1 by omega, List.replicate_succ']
        have oD : Own w6 w.heap.size 5 1 a6 (M + 1) c6 ((l ++ [128] ++ List.replicate (M - N - 1) 0).map B8 ++ [B8 0]) := oD
        simpa using oD
    · have hM : M = N + 1 + padN N := by omega
      have ht : ((M : Int) % 64 != 56) = false := by
        unfold padN at hM
        simp
        omega
      have e1 : M - N - 1 = padN N := by omega
      rw [e1] at oC
      have HM := hide hM
      clear hM e1 HG hlt
      go_wp2
      obtain ⟨wo, rfl⟩ : ∃ wo : World, wo = wr := ⟨_, rfl⟩
      go_loopg [3, 5] 8 (fun g x i w' => ∃ (k : Nat) (a : Option Addr) (c : Nat), k ≤ 8 ∧ g = 8 - k ∧ i = .int .i64 k ∧ x = .slice a (M + k) c ∧ Own w' w.heap.size 5 1 a (M + k) c ((l ++ [128] ++ List.replicate (padN N) 0 ++ lenB N k).map B8) ∧ Below w.heap.size w w')
      case atStart => exact ⟨0, a5, c5, by omega, by omega, rfl, rfl, by simpa [lenB] using oC, hb⟩
      case round =>
        clear oC hb
        obtain ⟨k, a6, c6, hk, hg, rfl, rfl, oC, hb⟩ := hrel
        have HG := hide hg
        clear hg
        by_cases hlt : k < 8
        · go_wp2_with (at_builtin; refine app_b (o := ⟨some 35, _, _, _, _, _⟩) rfl _ _ rfl w w.heap.size _ _ _ _ rfl oC _ rfl (by omega) hb.size hb ?_; intro a7 c7 w7 oD hg7 hb7)
          go_roundg (8 - (k + 1))
          case measure => have := HG.out; omega
          case rel =>
            refine ⟨k + 1, a7, c7, by omega, rfl, by go_num, rfl, ?_, hb7⟩
            rw [lenByte_int N k _ rfl] at oD
            rw [lenB_succ, ← List.append_assoc, List.map_append]
            exact oD
        · obtain rfl : k = 8 := by omega
          have e : pad l = l ++ [128] ++ List.replicate (padN N) 0 ++ lenB N 8 := by unfold pad padTail; rw [← HN.out]; simp
          have el : (pad l).length = M + 8 := by
            rw [e]
            simp only [List.length_append, List.length_replicate, lenB_length, List.length_singleton]
            have := HM.out
            have := HN.out
            omega
          have el := hide el
          have e := hide e
          go_wp2
          go_ret
          unfold Gives
          rw [el.out, e.out]
          exact ⟨a6, c6, rfl, oC, hb⟩
end Go.Proofs.YtalicdpocgomkaaDoor
