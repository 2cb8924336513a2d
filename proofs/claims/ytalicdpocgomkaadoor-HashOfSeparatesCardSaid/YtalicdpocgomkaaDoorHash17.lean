import Derived.Test.YtalicdpocgomkaaDoorHash16
namespace Go.Proofs.YtalicdpocgomkaaDoor
open Go.RowKit Go.Dx

theorem pad64_get {x : ByteArray} {i : Nat} (h : i < x.size) : (pad64 x.data.toList)[i]? = some (x[i]'h) := by
  have hl : x.data.toList.length = x.size := Array.length_toList
  unfold pad64
  rw [List.getElem?_append_left (by omega), str_get]
theorem pad64_zero {x : ByteArray} {i : Nat} (h : x.size ≤ i) (h2 : i < 64) : (pad64 x.data.toList)[i]? = some 0 := by
  have hl : x.data.toList.length = x.size := Array.length_toList
  unfold pad64
  rw [List.getElem?_append_right (by omega), List.getElem?_replicate, if_pos (by omega)]
theorem padK_next {x : ByteArray} {c u : UInt8} {i : Nat} (h : (pad64 x.data.toList)[i]? = some u) : (padK x.data.toList c).take (i + 1) = (padK x.data.toList c).take i ++ [u ^^^ c] :=
  take_next (by unfold padK; rw [List.getElem?_map, h]; rfl)
set_option maxRecDepth 100000 in
set_option maxHeartbeats 2000000 in
theorem padKey_any (c : UInt8) (key : ByteArray) (hk : key.size ≤ 100000) (w : World) (hL : LaidR w) :
    Calls Tryd.prog 32 #[.string key, B8 c] w (Gives 5 1 64 ((padK (keyL key.data.toList) c).map B8) w) := by
  have hkl : key.data.toList.length = key.size := Array.length_toList
  by_cases h64 : 64 < key.size
  · have hK : keyL key.data.toList = sha key.data.toList := by unfold keyL; rw [if_pos (by omega)]
    rw [hK]
    obtain ⟨S, hS⟩ : ∃ S, Hid (sha key.data.toList = S) := ⟨_, rfl⟩
    have hSl : S.length = 32 := by rw [← hS.out, sha_len]
    have HSl := hide hSl
    have hSum := hide (ref_Sum key.data.toList (by omega))
    rw [hS.out] at hSum ⊢
    clear hK hSl hkl
    go_enter Tryd.func32, Tryd.ntmps32
    go_wp2_with (with_reducible refine to_bytes 14 _ key rfl (by unfold maxLen; omega) ?_; intro a2 c2 w2 s2 hb2 hp2)
    refine (hSum.out _ _ _ _ (hL.below hb2) s2).mono ?_
    rintro e w3 ⟨rfl, h3⟩
    have b3 := hb2.trans (h3.mono hb2.size)
    clear h3 hb2 hp2 s2
    go_wp2_with fail
    refine (bytes32_any S HSl.out _).mono ?_
    rintro e w4 ⟨rfl, h4⟩
    have b4 := b3.trans (h4.mono b3.size)
    clear h4 b3 hSum
    have hX : (⟨S.toArray⟩ : ByteArray).data.toList = S := rfl
    have hXs : (⟨S.toArray⟩ : ByteArray).size ≤ 64 := by show S.toArray.size ≤ 64; rw [List.size_toArray, HSl.out]; omega
    generalize (⟨S.toArray⟩ : ByteArray) = X at *
    have HX := hide hX
    have HXl := hide (show X.data.toList.length ≤ 64 from hXs)
    clear hX HSl hS hXs
    go_wp2_with fail
    go_loopg [6, 7] 64 (fun g o i w' => ∃ (k : Nat) (a2 : Option Addr) (c2 : Nat), k ≤ 64 ∧ g = 64 - k ∧ i = .int .i64 k ∧ o = .slice a2 k c2 ∧ Own w' w.heap.size 5 1 a2 k c2 (((padK X.data.toList c).take k).map B8) ∧ Below w.heap.size w w')
    case atStart => exact ⟨0, none, 0, by omega, by omega, rfl, rfl, Own.nil _ _ _ _, b4⟩
    case round =>
      clear b4
      obtain ⟨k, a3, c3, hk, hg, rfl, rfl, oP, hb⟩ := hrel
      have HG := hide hg
      clear hg
      by_cases hlt : k < 64
      · have i0 : (0 : Int) ≤ (k : Int) := by omega
        by_cases hX2 : k < X.size
        · have i1 : (k : Int) < (X.size : Int) := by omega
          have HN := hide (padK_next (c := c) (pad64_get hX2))
          go_wp2_with (at_builtin; refine app_b (o := ⟨some 33, _, _, _, _, _⟩) rfl _ _ rfl w w.heap.size _ _ _ _ rfl oP _ rfl (by omega) hb.size hb ?_; intro a7 c7 w7 oD hg7 hb7)
          go_roundg (64 - (k + 1))
          case measure => have := HG.out; omega
          case rel => exact ⟨k + 1, a7, c7, by omega, rfl, by go_num, rfl, by rw [HN.out, List.map_append]; rw [x_xor] at oD; exact oD, hb7⟩
        · have HN := hide (padK_next (c := c) (pad64_zero (x := X) (i := k) (by omega) hlt))
          go_wp2_with (at_builtin; refine app_b (o := ⟨some 33, _, _, _, _, _⟩) rfl _ _ rfl w w.heap.size _ _ _ _ rfl oP _ rfl (by omega) hb.size hb ?_; intro a7 c7 w7 oD hg7 hb7)
          go_roundg (64 - (k + 1))
          case measure => have := HG.out; omega
          case rel => exact ⟨k + 1, a7, c7, by omega, rfl, by go_num, rfl, by rw [HN.out, List.map_append]; have e := x_xor 0 c; have oD := oD; rw [show bits .xor .u8 0 (c.toNat : Int) = (((0 : UInt8) ^^^ c).toNat : Int) from e] at oD; exact oD, hb7⟩
      · obtain rfl : k = 64 := by omega
        have e : (padK X.data.toList c).take 64 = padK X.data.toList c := List.take_of_length_le (by rw [padK_len HXl.out]; exact Nat.le_refl _)
        rw [e] at oP
        have oP := hide oP
        clear e
        go_wp2_with fail
        go_ret
        exact ⟨a3, c3, rfl, by rw [← HX.out]; exact oP.out, hb⟩
  · have hK : keyL key.data.toList = key.data.toList := by unfold keyL; rw [if_neg (by omega)]
    rw [hK]
    clear hK
    obtain ⟨X, rfl⟩ : ∃ X, X = key := ⟨_, rfl⟩
    have HXl := hide (show X.data.toList.length ≤ 64 by omega)
    have b4 : Below w.heap.size w w := Below.refl _ _
    clear hkl
    go_enter Tryd.func32, Tryd.ntmps32
    go_wp2_with fail
    go_loopg [6, 7] 64 (fun g o i w' => ∃ (k : Nat) (a2 : Option Addr) (c2 : Nat), k ≤ 64 ∧ g = 64 - k ∧ i = .int .i64 k ∧ o = .slice a2 k c2 ∧ Own w' w.heap.size 5 1 a2 k c2 (((padK X.data.toList c).take k).map B8) ∧ Below w.heap.size w w')
    case atStart => exact ⟨0, none, 0, by omega, by omega, rfl, rfl, Own.nil _ _ _ _, b4⟩
    case round =>
      clear b4
      obtain ⟨k, a3, c3, hk, hg, rfl, rfl, oP, hb⟩ := hrel
      have HG := hide hg
      clear hg
      by_cases hlt : k < 64
      · have i0 : (0 : Int) ≤ (k : Int) := by omega
        by_cases hX2 : k < X.size
        · have i1 : (k : Int) < (X.size : Int) := by omega
          have HN := hide (padK_next (c := c) (pad64_get hX2))
          go_wp2_with (at_builtin; refine app_b (o := ⟨some 33, _, _, _, _, _⟩) rfl _ _ rfl w w.heap.size _ _ _ _ rfl oP _ rfl (by omega) hb.size hb ?_; intro a7 c7 w7 oD hg7 hb7)
          go_roundg (64 - (k + 1))
          case measure => have := HG.out; omega
          case rel => exact ⟨k + 1, a7, c7, by omega, rfl, by go_num, rfl, by rw [HN.out, List.map_append]; rw [x_xor] at oD; exact oD, hb7⟩
        · have HN := hide (padK_next (c := c) (pad64_zero (x := X) (i := k) (by omega) hlt))
          go_wp2_with (at_builtin; refine app_b (o := ⟨some 33, _, _, _, _, _⟩) rfl _ _ rfl w w.heap.size _ _ _ _ rfl oP _ rfl (by omega) hb.size hb ?_; intro a7 c7 w7 oD hg7 hb7)
          go_roundg (64 - (k + 1))
          case measure => have := HG.out; omega
          case rel => exact ⟨k + 1, a7, c7, by omega, rfl, by go_num, rfl, by rw [HN.out, List.map_append]; have e := x_xor 0 c; have oD := oD; rw [show bits .xor .u8 0 (c.toNat : Int) = (((0 : UInt8) ^^^ c).toNat : Int) from e] at oD; exact oD, hb7⟩
      · obtain rfl : k = 64 := by omega
        have e : (padK X.data.toList c).take 64 = padK X.data.toList c := List.take_of_length_le (by rw [padK_len HXl.out]; exact Nat.le_refl _)
        rw [e] at oP
        have oP := hide oP
        clear e
        go_wp2_with fail
        go_ret
        exact ⟨a3, c3, rfl, oP.out, hb⟩
set_option maxRecDepth 100000 in
set_option maxHeartbeats 2000000 in
theorem rmac_any (key text : ByteArray) (hk : key.size ≤ 100000) (ht : text.size ≤ 100000) (w : World) (hL : LaidR w) :
    Calls Tryd.prog 19 #[.string key, .string text] w fun e w' => e = .returned (.string ⟨(macL key.data.toList text.data.toList).toArray⟩) ∧ Below w.heap.size w w' := by
  have hp1 := hide (padKey_any 0x36 key hk)
  have hp2 := hide (padKey_any 0x5c key hk)
  have l1 := padK_len (keyL_len key.data.toList) 0x36
  have l2 := padK_len (keyL_len key.data.toList) 0x5c
  obtain ⟨P1, hP1⟩ : ∃ P, Hid (padK (keyL key.data.toList) 0x36 = P) := ⟨_, rfl⟩
  obtain ⟨P2, hP2⟩ : ∃ P, Hid (padK (keyL key.data.toList) 0x5c = P) := ⟨_, rfl⟩
  rw [hP1.out] at hp1 l1
  rw [hP2.out] at hp2 l2
  have htl : text.data.toList.length = text.size := Array.length_toList
  have HTL := hide htl
  have L1 := hide l1
  have L2 := hide l2
  have B36 : Value.int .u8 54 = B8 0x36 := rfl
  have B5c : Value.int .u8 92 = B8 0x5c := rfl
  have B36 := hide B36
  have B5c := hide B5c
  clear htl l1 l2
  go_enter Tryd.func19, Tryd.ntmps19
  go_wp2_with fail
  refine (hp1.out _ hL).mono ?_
  rintro e w2 ⟨a2, c2, rfl, o2, h2⟩
  go_wp2_with (at_builtin; refine app_str (o := ⟨some 11, _, _, _, _, _⟩) rfl _ _ rfl w w.heap.size _ _ _ _ rfl o2 text rfl (by omega) h2.size h2 ?_; intro a3 c3 w3 o3 hg3 h3)
  clear o2 hg3
  refine (hp2.out _ (hL.below h3)).mono ?_
  rintro e w4 ⟨a4, c4, rfl, o4, h4⟩
  have b4 := h3.trans (h4.mono h3.size)
  have o3 := o3.below h4
  have s3 : Sl w4 1 a3 (64 + text.size) c3 ((P1 ++ text.data.toList).map B8) := by rw [List.map_append]; exact o3.sl
  have o4 := o4.mono (B' := w.heap.size) h3.size
  clear h4 o3 h2
  go_wp2_with fail
  refine (ref_Sum (P1 ++ text.data.toList) (by rw [List.length_append, L1.out, HTL.out]; omega) _ _ _ _ (hL.below b4) s3).mono ?_
  rintro e w5 ⟨rfl, h5⟩
  have o4 := o4.below h5
  have b5 := b4.trans (h5.mono b4.size)
  clear h5 b4 h3 s3
  go_wp2_with fail
  refine (bytes32_any _ (sha_len _) _).mono ?_
  rintro e w6 ⟨rfl, h6⟩
  have o4 := o4.below h6
  have b6 := b5.trans (h6.mono b5.size)
  clear h6 b5
  obtain ⟨I, hI⟩ : ∃ I, Hid (sha (P1 ++ text.data.toList) = I) := ⟨_, rfl⟩
  have hIl : I.length = 32 := by rw [← hI.out, sha_len]
  have HIl := hide hIl
  rw [hI.out]
  have hXs : (⟨I.toArray⟩ : ByteArray).size = 32 := by show I.toArray.size = 32; rw [List.size_toArray, HIl.out]
  have hXd : (⟨I.toArray⟩ : ByteArray).data.toList = I := rfl
  obtain ⟨X, hX⟩ : ∃ X, Hid ((⟨I.toArray⟩ : ByteArray) = X) := ⟨_, rfl⟩
  rw [hX.out] at hXs hXd ⊢
  have HXs := hide hXs
  have hXs2 : X.size ≤ 32 := by omega
  have HXd := hide hXd
  clear hXs hXd hIl hX
  go_wp2_with (at_builtin; refine app_str (o := ⟨some 18, _, _, _, _, _⟩) rfl _ _ rfl w w.heap.size _ _ _ _ rfl o4 X rfl (by omega) b6.size b6 ?_; intro a7 c7 w7 o7 hg7 h7)
  have s7 : Sl w7 1 a7 (64 + X.size) c7 ((P2 ++ I).map B8) := by rw [List.map_append, ← HXd.out]; exact o7.sl
  clear o4 hg7 o7 b6
  refine (ref_Sum (P2 ++ I) (by rw [List.length_append, L2.out, HIl.out]; omega) _ _ _ _ (hL.below h7) s7).mono ?_
  rintro e w8 ⟨rfl, h8⟩
  have b8 := h7.trans (h8.mono h7.size)
  clear h8 h7 s7
  go_wp2_with fail
  refine (bytes32_any _ (sha_len _) _).mono ?_
  rintro e w9 ⟨rfl, h9⟩
  have b9 := b8.trans (h9.mono b8.size)
  clear h9 b8
  go_wp2_with fail
  go_ret
  exact ⟨by unfold macL; rw [hP1.out, hP2.out, hI.out]; rfl, b9⟩
end Go.Proofs.YtalicdpocgomkaaDoor
