import Derived.Test.YtalicdpocgomkaaWire8
namespace Go.Proofs.Ytalicdpocgomkaa
open Go.RowKit Go.Dx

set_option maxHeartbeats 400000 in
theorem wire_Digests (fl : List UInt8) (a : Option Addr) (n c : Nat) (w : World) (hs : Sl w 16 a n c (fl.map B8)) (hT : fl.length ≤ 140737488355000) :
    Calls Try.prog 65 #[.slice a n c] w (Gives 5 1 (encInt n ++ fl).length ((encInt n ++ fl).map B8) w) := by
  have hfl : fl.length = n * 16 := by have := hs.len; simpa using this
  have h9 := encInt_le (n : Int)
  have hn16 : n * 16 ≤ 140737488355000 := by omega
  obtain ⟨R, HR⟩ : ∃ R, Hid (R = encInt n ++ fl) := ⟨_, rfl⟩
  rw [← HR.out]
  go_enter Try.func65, Try.ntmps65
  go_wp2_with fail
  refine (wire_Int _ (by omega) (by omega) _).mono ?_
  rintro e w1 ⟨a1, c1, rfl, ho1, hb1⟩
  go_wp2_with fail
  go_loopg [3, 11] n (fun g x i w' => ∃ (k : Nat) (a : Option Addr) (c : Nat) (xs : List UInt8), k ≤ n ∧ g = n - k ∧ xs = encInt n ++ fl.take (k * 16) ∧ i = .int .i64 k ∧ x = .slice a xs.length c ∧ Own w' w.heap.size 5 1 a xs.length c (xs.map B8) ∧ Below w.heap.size w w')
  case atStart => exact ⟨0, a1, c1, encInt n, by omega, by omega, by simp, rfl, rfl, ho1, hb1⟩
  case round =>
    obtain ⟨k, a2, c2, xs, hk, hg, hxs, rfl, rfl, hown, hb⟩ := hrel
    have HG := hide hg
    have hle : xs.length ≤ 9 + k * 16 := by rw [hxs]; simp; omega
    have HX := hide hxs
    have HFL := hide hfl
    clear hg hxs hfl
    by_cases hkl : k < n
    · obtain ⟨b, off, rfl, hbb, hc⟩ := (hs.below hb).ex (by simp; have := HFL.out; omega)
      obtain ⟨ys, HY⟩ : ∃ ys, Hid (ys = (fl.drop (k * 16)).take 16) := ⟨_, rfl⟩
      have HYL : Hid (ys.length = 16) := by show _ = _; rw [HY.out, List.length_take, List.length_drop]; have := HFL.out; omega
      have HS : Hid (encInt n ++ fl.take ((k + 1) * 16) = xs ++ ys) := by
        show _ = _; rw [HX.out, HY.out, List.append_assoc, Nat.add_mul, Nat.one_mul, List.take_add]
      have hcy : Hid (∀ j u, (ys.map B8)[j]? = some u → wr.cell? ((⟨b, off + k * 16, none⟩ : Addr).add j) = some u) := by
        intro j u hj
        rw [Addr.add_lit, Nat.add_assoc]
        apply hc
        rw [HY.out, List.map_take, List.map_drop, List.getElem?_take] at hj
        split at hj
        · rwa [List.getElem?_drop] at hj
        · cases hj
      clear hc
      go_wp2_with (first
        | (with_reducible refine load_dig 14 _ _ rfl (ys.map B8) (by rw [List.length_map]; exact HYL.out) hcy.out ?_)
        | (with_reducible refine store_dig _ _ _ _ rfl (ys.map B8) rfl (by rw [List.length_map]; exact HYL.out) rfl (one_map _ (fun _ => rfl) _) ?_)
        | (at_builtin; refine app_bs rfl _ _ rfl w w.heap.size _ _ _ _ rfl (hown.alloc _) (some ⟨wr.heap.size, 0, none⟩) 16 16 ys rfl (Sl.fresh _ _ 1 16 _ (by rw [List.length_map]; exact HYL.out) (by decide)) (by omega) (by have := hb.size; simp; omega) (hb.alloc hb.size _) ?_; intro a' c' w' ho' hgr' hb'))
      go_roundg (n - (k + 1))
      case measure => have := HG.out; omega
      case rel =>
        refine ⟨k + 1, a', c', xs ++ ys, by omega, rfl, HS.out.symm, by go_num, by rw [List.length_append, HYL.out], ?_, hb'⟩
        rw [List.length_append, HYL.out, List.map_append]; exact ho'
    · obtain rfl : k = n := by omega
      go_wp2
      go_ret
      have e : R = xs := by rw [HR.out, HX.out, List.take_of_length_le (by have := HFL.out; omega)]
      rw [e]
      exact ⟨a2, c2, rfl, hown, hb⟩
end Go.Proofs.Ytalicdpocgomkaa
