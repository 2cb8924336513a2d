import Derived.Test.YtalicdpocgomkaaWire6
namespace Go.Proofs.Ytalicdpocgomkaa
open Go.RowKit Go.Dx

abbrev RS (r : ByteArray × Int × Int) : Value := .tuple #[.string r.1, .int .i64 r.2.1, .int .i64 r.2.2]

set_option maxHeartbeats 400000 in
theorem ref_Bytes (s : ByteArray) (hs : s.size ≤ 140737488355000) (w : World) :
    Calls Try.prog 61 #[.string s] w (Gives 5 1 (encBytes s.data.toList).length ((encBytes s.data.toList).map B8) w) := by
  have h9 := encInt_le (s.size : Int)
  have el : (encBytes s.data.toList).length = (encInt (s.size : Int)).length + s.size := by unfold encBytes; rw [List.length_append, Array.length_toList]; rfl
  have em : (encBytes s.data.toList).map B8 = (encInt (s.size : Int)).map B8 ++ s.data.toList.map B8 := by unfold encBytes; rw [List.map_append, Array.length_toList]; rfl
  rw [el, em]
  clear el em
  go_enter Try.func61, Try.ntmps61
  go_wp2_with fail
  refine (ref_Int _ (by omega) (by omega) _).mono ?_
  rintro e w1 ⟨a, c, rfl, ho, hb⟩
  go_wp2_with (first
    | (with_reducible refine to_bytes 7 _ s rfl (by unfold maxLen; omega) ?_; intro a2 c2 w2 hs2 hb2 hp2)
    | (at_builtin; refine app_bs rfl _ _ rfl w w.heap.size _ _ _ _ rfl (ho.below hb2) _ _ _ s.data.toList rfl hs2 (by omega) (Nat.le_trans hb.size hb2.size) (hb.trans (hb2.mono hb.size)) ?_; intro a' c' w' ho' hgr' hb'))
  go_ret
  exact ⟨a', c', rfl, ho', hb'⟩

set_option maxHeartbeats 400000 in
theorem wire_GetBytes (l : List UInt8) (a : Option Addr) (n c : Nat) (w : World) (hs : Sl w 1 a n c (l.map B8)) :
    Calls Try.prog 69 #[.slice a n c] w fun e w' => e = .returned (RS (decBytes l)) ∧ w = w' := by
  have hm := Nat.le_trans hs.le hs.cap
  unfold maxLen at hm
  have HG := hide (wire_count l a n c 1 (by omega) (by omega) w hs)
  by_cases hE : cntErr l 1 = 0
  · obtain ⟨A, N, e1, e2, e3, hA, hAN, hN⟩ := cnt_facts (by omega) hE
    have hn := hs.n_eq
    simp at hAN
    have hF : decBytes l = (⟨((l.drop A).take N).toArray⟩, (A : Int) + N, 0) := by unfold decBytes; rw [if_pos hE, e1, e2]; rfl
    have HF := hide hF
    rw [e1, e2, hE] at HG
    have hnl : l.length ≤ n := by omega
    clear hF e1 e2 e3 hE hn
    go_enter Try.func69, Try.ntmps69
    go_wp2_with (first
      | (go_at_call 99; refine HG.out.mono ?_; rintro e w' ⟨rfl, rfl⟩)
      | (with_reducible refine cut_b 22 _ _ _ _ _ _ _ rfl hs _ _ _ _ A (A + N) rfl rfl rfl (by go_num) (by omega) (by omega) ?_; intro a2 hs2 hp2)
      | (with_reducible refine to_str 23 _ _ _ _ _ rfl hs2 ?_))
    go_ret3
    exact ⟨by rw [HF.out]; rfl, rfl⟩
  · have hF : decBytes l = (⟨#[]⟩, 0, cntErr l 1) := by unfold decBytes; rw [if_neg hE]
    have HF := hide hF
    have hb := neq_int hE
    clear hF hE
    go_enter Try.func69, Try.ntmps69
    go_wp2_with (go_at_call 99; refine HG.out.mono ?_; rintro e w' ⟨rfl, rfl⟩)
    go_ret3
    exact ⟨by rw [HF.out]; rfl, rfl⟩

set_option maxHeartbeats 400000 in
theorem ref_GetBytes (l : List UInt8) (a : Option Addr) (n c : Nat) (w : World) (hs : Sl w 1 a n c (l.map B8)) (hlen : l.length ≤ 4503599627370496) :
    Calls Try.prog 70 #[.slice a n c] w fun e w' => e = .returned (RS (decBytes l)) ∧ Below w.heap.size w w' := by
  have HG := hide (ref_count l a n c 1 (by omega) (by omega) w hs hlen)
  by_cases hE : cntErr l 1 = 0
  · obtain ⟨A, N, e1, e2, e3, hA, hAN, hN⟩ := cnt_facts (by omega) hE
    have hn := hs.n_eq
    simp at hAN
    have hF : decBytes l = (⟨((l.drop A).take N).toArray⟩, (A : Int) + N, 0) := by unfold decBytes; rw [if_pos hE, e1, e2]; rfl
    have HF := hide hF
    rw [if_pos hE, e1, e2] at HG
    have hnl : l.length ≤ n := by omega
    clear hF e1 e2 e3 hE hn
    go_enter Try.func70, Try.ntmps70
    go_wp2_with (first
      | (go_at_call 100; refine HG.out.mono ?_; rintro e w' ⟨rfl, hb⟩)
      | (with_reducible refine cut_b 22 _ _ _ _ _ _ _ rfl (hs.below hb) _ _ _ _ A (A + N) rfl rfl rfl (by go_num) (by omega) (by omega) ?_; intro a2 hs2 hp2)
      | (with_reducible refine to_str 23 _ _ _ _ _ rfl hs2 ?_))
    go_ret3
    exact ⟨by rw [HF.out]; rfl, hb⟩
  · have hF : decBytes l = (⟨#[]⟩, 0, cntErr l 1) := by unfold decBytes; rw [if_neg hE]
    have HF := hide hF
    have hb := neq_int hE
    rw [if_neg hE] at HG
    clear hF hE
    go_enter Try.func70, Try.ntmps70
    go_wp2_with (go_at_call 100; refine HG.out.mono ?_; rintro e w' ⟨rfl, hb⟩)
    go_ret3
    exact ⟨by rw [HF.out]; rfl, hb⟩
end Go.Proofs.Ytalicdpocgomkaa
