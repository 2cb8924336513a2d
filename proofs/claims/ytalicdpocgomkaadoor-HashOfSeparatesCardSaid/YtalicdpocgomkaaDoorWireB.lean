/- wire.Bytes and the reference's. -/
import Derived.Test.YtalicdpocgomkaaDoorWire2
namespace Go.Proofs.YtalicdpocgomkaaDoor
open Go.RowKit Go.Dx

set_option maxHeartbeats 400000 in
theorem wire_Bytes (s : ByteArray) (hs : s.size ≤ 140737488355000) (w : World) :
    Calls Tryd.prog 33 #[.string s] w (Gives 5 1 (encBytes s.data.toList).length ((encBytes s.data.toList).map B8) w) := by
  have h9 := encInt_le (s.size : Int)
  have el : (encBytes s.data.toList).length = (encInt (s.size : Int)).length + s.size := by unfold encBytes; rw [List.length_append, Array.length_toList]; rfl
  have em : (encBytes s.data.toList).map B8 = (encInt (s.size : Int)).map B8 ++ s.data.toList.map B8 := by unfold encBytes; rw [List.map_append, Array.length_toList]; rfl
  rw [el, em]
  clear el em
  go_enter Tryd.func33, Tryd.ntmps33
  go_wp2_with fail
  refine (wire_Int _ (by omega) (by omega) _).mono ?_
  rintro e w1 ⟨a, c, rfl, ho, hb⟩
  go_wp2_with (refine app_str rfl _ _ rfl w w.heap.size _ _ _ _ rfl ho _ rfl (by omega) hb.size hb ?_; intro a' c' w' ho' hgr' hb')
  go_ret
  exact ⟨a', c', rfl, ho', hb'⟩
set_option maxHeartbeats 400000 in
theorem ref_Bytes (s : ByteArray) (hs : s.size ≤ 140737488355000) (w : World) :
    Calls Tryd.prog 35 #[.string s] w (Gives 5 1 (encBytes s.data.toList).length ((encBytes s.data.toList).map B8) w) := by
  have h9 := encInt_le (s.size : Int)
  have el : (encBytes s.data.toList).length = (encInt (s.size : Int)).length + s.size := by unfold encBytes; rw [List.length_append, Array.length_toList]; rfl
  have em : (encBytes s.data.toList).map B8 = (encInt (s.size : Int)).map B8 ++ s.data.toList.map B8 := by unfold encBytes; rw [List.map_append, Array.length_toList]; rfl
  rw [el, em]
  clear el em
  go_enter Tryd.func35, Tryd.ntmps35
  go_wp2_with fail
  refine (ref_Int _ (by omega) (by omega) _).mono ?_
  rintro e w1 ⟨a, c, rfl, ho, hb⟩
  go_wp2_with (first
    | (with_reducible refine to_bytes 7 _ s rfl (by unfold maxLen; omega) ?_; intro a2 c2 w2 hs2 hb2 hp2)
    | (at_builtin; refine app_bs rfl _ _ rfl w w.heap.size _ _ _ _ rfl (ho.below hb2) _ _ _ s.data.toList rfl hs2 (by omega) (Nat.le_trans hb.size hb2.size) (hb.trans (hb2.mono hb.size)) ?_; intro a' c' w' ho' hgr' hb'))
  go_ret
  exact ⟨a', c', rfl, ho', hb'⟩

end Go.Proofs.YtalicdpocgomkaaDoor
