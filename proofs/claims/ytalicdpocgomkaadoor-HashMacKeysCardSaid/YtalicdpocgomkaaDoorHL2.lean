import Derived.Test.YtalicdpocgomkaaDoorHash19
namespace Go.Proofs.YtalicdpocgomkaaDoor
open Go.RowKit Go.Dx

theorem rmac_at {key text : ByteArray} {r : List UInt8} (h : macL key.data.toList text.data.toList = r) (hk : key.size ≤ 100000) (ht : text.size ≤ 100000) {w : World} (hL : LaidR w) :
    Calls Tryd.prog 19 #[.string key, .string text] w fun e w' => e = .returned (.string ⟨r.toArray⟩) ∧ Below w.heap.size w w' := by subst h; exact rmac_any key text hk ht w hL
set_option maxRecDepth 100000 in
set_option maxHeartbeats 2000000 in
theorem walk_Mac (x y : ByteArray) (hx : x.size ≤ reachBytes) (hy : y.size ≤ reachBytes) (w : World) (hL : Laid w) (hR : LaidR w) :
    Calls Tryd.prog 5 #[.string x, .string y] w fun e w' => e = .returned (.bool true) ∧ Below w.heap.size w w' := by
  unfold reachBytes at hx hy
  have b0 : Below w.heap.size w w ∧ w.heap.size ≤ w.heap.size := ⟨Below.refl _ _, Nat.le_refl _⟩
  by_cases q1 : 400 < x.size
  · go_enter Tryd.func5, Tryd.ntmps5
    go_wp2_with (go_at_call 10; refine (law2_sanity w hL).mono ?_; rintro e w1 ⟨rfl, hb⟩)
    go_ret
    exact ⟨rfl, hb⟩
  by_cases q2 : 400 < y.size
  · go_enter Tryd.func5, Tryd.ntmps5
    go_wp2_with (go_at_call 10; refine (law2_sanity w hL).mono ?_; rintro e w1 ⟨rfl, hb⟩)
    go_ret
    exact ⟨rfl, hb⟩
  obtain ⟨M, hM⟩ : ∃ M, Hid (macL x.data.toList y.data.toList = M) := ⟨_, rfl⟩
  have hL := hide hL
  have hR := hide hR
  go_enter Tryd.func5, Tryd.ntmps5
  go_wp2_with fail
  refine (law2_sanity w hL.out).mono ?_
  rintro e w1 ⟨rfl, h1⟩
  have b1 := bnext b0 h1
  clear h1 b0
  go_wp2_with fail
  refine (mac_at hM.out (by omega) (by omega) (hL.out.below b1.1)).mono ?_
  rintro e w2 ⟨rfl, h1⟩
  have b2 := bnext b1 h1
  clear h1 b1
  go_wp2_with fail
  refine (rmac_at hM.out (by omega) (by omega) (hR.out.below b2.1)).mono ?_
  rintro e w3 ⟨rfl, h1⟩
  have b3 := bnext b2 h1
  clear h1 b2
  go_wp2_with fail
  go_ret
  exact ⟨rfl, b3.1⟩

theorem keyL_sha (k : List UInt8) : keyL (sha k) = sha k := by unfold keyL; rw [if_neg (by rw [sha_len]; omega)]
theorem mac_long {k t : List UInt8} (h : 64 < k.length) : macL (sha k) t = macL k t := by
  have e : keyL k = sha k := by unfold keyL; rw [if_pos h]
  unfold macL
  rw [keyL_sha, e]
theorem pad64_zero1 {k : List UInt8} (h : k.length < 64) : pad64 (k ++ [0]) = pad64 k := by
  unfold pad64
  obtain ⟨d, hd⟩ : ∃ d, 64 - k.length = d + 1 := ⟨63 - k.length, by omega⟩
  rw [List.length_append, List.length_singleton, hd, show 64 - (k.length + 1) = d by omega, List.replicate_succ, List.append_assoc]
  rfl
theorem mac_short {k t : List UInt8} (h : k.length < 64) : macL (k ++ [0]) t = macL k t := by
  have e1 : keyL k = k := by unfold keyL; rw [if_neg (by omega)]
  have e2 : keyL (k ++ [0]) = k ++ [0] := by unfold keyL; rw [if_neg (by rw [List.length_append, List.length_singleton]; omega)]
  unfold macL padK
  rw [e1, e2, pad64_zero1 h]
set_option maxRecDepth 100000 in
set_option maxHeartbeats 2000000 in
theorem walk_Keys (x y : ByteArray) (hx : x.size ≤ reachBytes) (hy : y.size ≤ reachBytes) (w : World) (hL : Laid w) :
    Calls Tryd.prog 6 #[.string x, .string y] w fun e w' => e = .returned (.bool true) ∧ Below w.heap.size w w' := by
  unfold reachBytes at hx hy
  have b0 : Below w.heap.size w w ∧ w.heap.size ≤ w.heap.size := ⟨Below.refl _ _, Nat.le_refl _⟩
  by_cases q1 : 400 < x.size
  · go_enter Tryd.func6, Tryd.ntmps6
    go_wp2_with (go_at_call 10; refine (law2_sanity w hL).mono ?_; rintro e w1 ⟨rfl, hb⟩)
    go_ret
    exact ⟨rfl, hb⟩
  by_cases q2 : 400 < y.size
  · go_enter Tryd.func6, Tryd.ntmps6
    go_wp2_with (go_at_call 10; refine (law2_sanity w hL).mono ?_; rintro e w1 ⟨rfl, hb⟩)
    go_ret
    exact ⟨rfl, hb⟩
  have hxl : x.data.toList.length = x.size := Array.length_toList
  have hL := hide hL
  obtain ⟨M, hM⟩ : ∃ M, Hid (macL x.data.toList y.data.toList = M) := ⟨_, rfl⟩
  by_cases q3 : 64 < x.size
  · have hlong := mac_long (k := x.data.toList) (t := y.data.toList) (by omega)
    rw [hM.out] at hlong
    obtain ⟨S, hS⟩ : ∃ S, Hid (sha x.data.toList = S) := ⟨_, rfl⟩
    have hSl : S.length = 32 := by rw [← hS.out, sha_len]
    rw [hS.out] at hlong
    have HL := hide hlong
    have HSl := hide hSl
    have hxl2 := hide hxl
    clear hlong hSl hxl
    go_enter Tryd.func6, Tryd.ntmps6
    go_wp2_with fail
    refine (law2_sanity w hL.out).mono ?_
    rintro e w1 ⟨rfl, h1⟩
    have b1 := bnext b0 h1
    clear h1 b0
    go_wp2_with fail
    refine (mac_at hM.out (by omega) (by omega) (hL.out.below b1.1)).mono ?_
    rintro e w2 ⟨rfl, h1⟩
    have b2 := bnext b1 h1
    clear h1 b1
    go_wp2_with (with_reducible refine to_bytes 25 _ x rfl (by unfold maxLen; omega) ?_; intro a3 c3 w3 s3 h1 hp3)
    have b3 := bnext b2 h1
    clear h1 b2 hp3
    refine (hsum_at hS.out (by rw [hxl2.out]; omega) (hL.out.below b3.1) s3).mono ?_
    rintro e w4 ⟨rfl, h1⟩
    have b4 := bnext b3 h1
    clear h1 b3 s3
    go_wp2_with fail
    refine (bytes32_any S HSl.out _).mono ?_
    rintro e w5 ⟨rfl, h1⟩
    have b5 := bnext b4 h1
    clear h1 b4
    have hXs : (⟨S.toArray⟩ : ByteArray).size ≤ 100000 := by show S.toArray.size ≤ _; rw [List.size_toArray, HSl.out]; omega
    have HL2 : Hid (macL (⟨S.toArray⟩ : ByteArray).data.toList y.data.toList = M) := HL
    generalize (⟨S.toArray⟩ : ByteArray) = X at *
    go_wp2_with fail
    refine (mac_at HL2.out hXs (by omega) (hL.out.below b5.1)).mono ?_
    rintro e w6 ⟨rfl, h1⟩
    have b6 := bnext b5 h1
    clear h1 b5
    go_wp2_with fail
    go_ret
    exact ⟨rfl, b6.1⟩
  · by_cases q4 : x.size < 64
    · have hshort := mac_short (k := x.data.toList) (t := y.data.toList) (by omega)
      rw [hM.out] at hshort
      have hXd : (x ++ (⟨#[0]⟩ : ByteArray)).data.toList = x.data.toList ++ [0] := by simp
      have hXs : (x ++ (⟨#[0]⟩ : ByteArray)).size ≤ 100000 := by
        have e : (x ++ (⟨#[0]⟩ : ByteArray)).size = (x ++ (⟨#[0]⟩ : ByteArray)).data.toList.length := Array.length_toList.symm
        rw [e, hXd, List.length_append, List.length_singleton]; omega
      rw [← hXd] at hshort
      have HS := hide hshort
      have HXs := hide hXs
      clear hshort hXd hXs hxl
      go_enter Tryd.func6, Tryd.ntmps6
      go_wp2_with fail
      refine (law2_sanity w hL.out).mono ?_
      rintro e w1 ⟨rfl, h1⟩
      have b1 := bnext b0 h1
      clear h1 b0
      go_wp2_with fail
      refine (mac_at hM.out (by omega) (by omega) (hL.out.below b1.1)).mono ?_
      rintro e w2 ⟨rfl, h1⟩
      have b2 := bnext b1 h1
      clear h1 b1
      go_wp2_with fail
      refine (mac_at HS.out HXs.out (by omega) (hL.out.below b2.1)).mono ?_
      rintro e w3 ⟨rfl, h1⟩
      have b3 := bnext b2 h1
      clear h1 b2
      go_wp2_with fail
      go_ret
      exact ⟨rfl, b3.1⟩
    · have hMl : M.length = 32 := by rw [← hM.out]; unfold macL; rw [sha_len]
      have hXs : (⟨M.toArray⟩ : ByteArray).size = 32 := by show M.toArray.size = 32; rw [List.size_toArray, hMl]
      have hMA := mac_at hM.out (by omega) (by omega) (w := w)
      clear hMl hxl hMA
      go_enter Tryd.func6, Tryd.ntmps6
      go_wp2_with fail
      refine (law2_sanity w hL.out).mono ?_
      rintro e w1 ⟨rfl, h1⟩
      have b1 := bnext b0 h1
      clear h1 b0
      go_wp2_with fail
      refine (mac_at hM.out (by omega) (by omega) (hL.out.below b1.1)).mono ?_
      rintro e w2 ⟨rfl, h1⟩
      have b2 := bnext b1 h1
      clear h1 b1
      generalize (⟨M.toArray⟩ : ByteArray) = X at *
      go_wp2_with fail
      go_ret
      exact ⟨rfl, b2.1⟩
end Go.Proofs.YtalicdpocgomkaaDoor
