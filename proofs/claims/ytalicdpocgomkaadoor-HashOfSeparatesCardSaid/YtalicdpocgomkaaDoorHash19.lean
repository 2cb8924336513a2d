import Derived.Test.YtalicdpocgomkaaDoorHash13
import Derived.Test.YtalicdpocgomkaaDoorHash14
import Derived.Test.YtalicdpocgomkaaDoorHash18
import Derived.Lib.SlBytesConst
namespace Go.Proofs.YtalicdpocgomkaaDoor
open Go.RowKit Go.Dx

def hx1 : List UInt8 := [98, 97, 55, 56, 49, 54, 98, 102, 56, 102, 48, 49, 99, 102, 101, 97, 52, 49, 52, 49, 52, 48, 100, 101, 53, 100, 97, 101, 50, 50, 50, 51, 98, 48, 48, 51, 54, 49, 97, 51, 57, 54, 49, 55, 55, 97, 57, 99, 98, 52, 49, 48, 102, 102, 54, 49, 102, 50, 48, 48, 49, 53, 97, 100]
def hx2 : List UInt8 := [53, 98, 100, 99, 99, 49, 52, 54, 98, 102, 54, 48, 55, 53, 52, 101, 54, 97, 48, 52, 50, 52, 50, 54, 48, 56, 57, 53, 55, 53, 99, 55, 53, 97, 48, 48, 51, 102, 48, 56, 57, 100, 50, 55, 51, 57, 56, 51, 57, 100, 101, 99, 53, 56, 98, 57, 54, 52, 101, 99, 51, 56, 52, 51]
def hx3 : List UInt8 := [51, 54, 99, 100, 53, 48, 56, 53, 48, 51, 50, 57, 102, 56, 56, 52, 48, 54, 101, 51, 49, 98, 98, 56, 97, 55, 100, 56, 102, 98, 54, 50]
set_option maxRecDepth 100000 in
theorem ex1 : hexL (sha [97, 98, 99]) = hx1 := by decide +kernel
set_option maxRecDepth 100000 in
theorem ex2 : hexL (macL [74, 101, 102, 101] [119, 104, 97, 116, 32, 100, 111, 32, 121, 97, 32, 119, 97, 110, 116, 32, 102, 111, 114, 32, 110, 111, 116, 104, 105, 110, 103, 63]) = hx2 := by decide +kernel
set_option maxRecDepth 100000 in
theorem ex3 : hexL ((sha (inputL 8 [⟨#[97]⟩, ⟨#[]⟩])).take 16) = hx3 := by decide +kernel
theorem hsum_at {l r : List UInt8} (h : sha l = r) (hl : l.length ≤ 100000000) {a : Option Addr} {n c : Nat} {w : World} (hL : Laid w) (hs : Sl w 1 a n c (l.map B8)) :
    Calls Tryd.prog 11 #[.slice a n c] w fun e w' => e = .returned (.agg (r.map B8).toArray) ∧ Below w.heap.size w w' := by subst h; exact hsum_any l hl a n c w hL hs
theorem ssum_at {l r : List UInt8} (h : sha l = r) (hl : l.length ≤ 500000000) {w : World} (hL : Laid w) :
    Calls Tryd.prog 17 #[SV l] w fun e w' => e = .returned (.agg (r.map B8).toArray) ∧ Below w.heap.size w w' := by subst h; exact ssum_any l hl w hL
theorem of_at {t : Int} {ps : List ByteArray} {r : List UInt8} (h : (sha (inputL t ps)).take 16 = r) (hn : ps.length ≤ 1000) (hsz : ∀ s ∈ ps, s.size ≤ 10000) {a : Option Addr} {n c : Nat} {w : World} (hL : Laid w) (hs : Sl w 1 a n c (ps.map Value.string)) :
    Calls Tryd.prog 21 #[.int .i64 t, .slice a n c] w fun e w' => e = .returned (.agg (r.map B8).toArray) ∧ Below w.heap.size w w' := by subst h; exact of_any t ps hn hsz hL hs
theorem mac_at {key text : ByteArray} {r : List UInt8} (h : macL key.data.toList text.data.toList = r) (hk : key.size ≤ 100000) (ht : text.size ≤ 100000) {w : World} (hL : Laid w) :
    Calls Tryd.prog 18 #[.string key, .string text] w fun e w' => e = .returned (.string ⟨r.toArray⟩) ∧ Below w.heap.size w w' := by subst h; exact mac_any key text hk ht w hL
theorem hex_at {l : List UInt8} {r : List UInt8} (h : hexL l = r) (hl : l.length ≤ 1000000) {w : World} :
    Calls Tryd.prog 25 #[.string ⟨l.toArray⟩] w fun e w' => e = .returned (.string ⟨r.toArray⟩) ∧ Below w.heap.size w w' := by subst h; exact hex_any ⟨l.toArray⟩ (by show l.toArray.size ≤ _; rw [List.size_toArray]; exact hl) w
theorem equal_at {x y : ByteArray} {b : Bool} (h : decide (x = y) = b) (hx : x.size ≤ 9223372036854775807) {w : World} :
    Calls Tryd.prog 24 #[.string x, .string y] w fun e w' => e = .returned (.bool b) ∧ Below w.heap.size w w' := by subst h; exact (equal_any x y hx w).mono fun e w' ⟨h1, m, h2⟩ => ⟨h1, h2 ▸ Still.below m⟩
theorem guard_32 : Tryd.prog.eqGuardType Tryd.prog.depth 24 = false := by kernel_rfl
theorem bnext {B : Nat} {w0 w w' : World} (h : Below B w0 w ∧ B ≤ w.heap.size) (hb : Below w.heap.size w w') : Below B w0 w' ∧ B ≤ w'.heap.size := ⟨h.1.trans (hb.mono h.2), Nat.le_trans h.2 hb.size⟩
theorem Sl.fresh_fz (w : World) (e : TypeId) (fz : Nat × Nat) (n : Nat) (us : List Value) (hn : us.length = n) (hm : n ≤ maxLen) : Sl (w.alloc (.cells us.toArray e fz)) 1 (some ⟨w.heap.size, 0, none⟩) n n us :=
  ⟨by omega, Nat.le_refl _, hm, (fun h => by cases h), fun p hp j u hj => by
    cases hp
    rw [Addr.add_lit, Nat.zero_add, cell_of_row _ w.heap.size j us.toArray e _ (heap_alloc_new w _)]
    simpa using hj⟩
set_option maxRecDepth 100000 in
set_option maxHeartbeats 4000000 in
theorem law2_sanity (w : World) (hL : Laid w) : Calls Tryd.prog 10 #[] w fun e w' => e = .returned (.bool true) ∧ Below w.heap.size w w' := by
  have h16 := zero_16
  have h32 := zero_32
  obtain ⟨Z, hZ⟩ : ∃ Z, Hid (zero16.map B8 = Z) := ⟨_, rfl⟩
  obtain ⟨Y, hY⟩ : ∃ Y, Hid (zero32.map B8 = Y) := ⟨_, rfl⟩
  rw [hZ.out] at h16
  rw [hY.out] at h32
  have hYl : Y.length = 32 := by rw [← hY.out, zero32_len]
  have hZl : Z.length = 16 := by rw [← hZ.out]; rfl
  have HYl := hide hYl
  have HZl := hide hZl
  clear hYl hZl
  obtain ⟨S, hS⟩ : ∃ S, Hid (sha [97, 98, 99] = S) := ⟨_, rfl⟩
  obtain ⟨D, hD⟩ : ∃ S, Hid ((sha (inputL 8 [⟨#[97]⟩, ⟨#[]⟩])).take 16 = S) := ⟨_, rfl⟩
  obtain ⟨M, hM⟩ : ∃ S, Hid (macL [74, 101, 102, 101] [119, 104, 97, 116, 32, 100, 111, 32, 121, 97, 32, 119, 97, 110, 116, 32, 102, 111, 114, 32, 110, 111, 116, 104, 105, 110, 103, 63] = S) := ⟨_, rfl⟩
  have hSl : S.length = 32 := by rw [← hS.out, sha_len]
  have hDl : D.length = 16 := by rw [← hD.out, List.length_take, sha_len]; rfl
  have hMl : M.length = 32 := by rw [← hM.out]; unfold macL; rw [sha_len]
  have HSl := hide hSl
  have HDl := hide hDl
  have HMl := hide hMl
  have e1 := ex1
  have e2 := ex2
  have e3 := ex3
  rw [hS.out] at e1
  rw [hM.out] at e2
  rw [hD.out] at e3
  have e1 := hide e1
  have e2 := hide e2
  have e3 := hide e3
  have hzS : (Tryd.prog.info? 24).map (·.size) = some (S.map B8).length := by rw [List.length_map, HSl.out]; exact size_32
  have hzD : (Tryd.prog.info? 44).map (·.size) = some (D.map B8).length := by rw [List.length_map, HDl.out]; exact size_dig'
  have HzS := hide hzS
  have HzD := hide hzD
  have hL := hide hL
  clear hSl hDl hMl hzS hzD
  have b0 : Below w.heap.size w w ∧ w.heap.size ≤ w.heap.size := ⟨Below.refl _ _, Nat.le_refl _⟩
  go_enter Tryd.func10, Tryd.ntmps10
  have hcv := fun (w : World) (C : Array Value) (n c : Nat) => Lib.run_convert_bytes_const (P := Tryd.prog) w 22 5 C n c Tryd.underlying22 Tryd.underlying5
  go_wp2_with fail
  clear hcv
  have s1 : Sl (w.alloc (.cells #[.int .u8 97, .int .u8 98, .int .u8 99] 5 (3, 4))) 1 (some ⟨w.heap.size, 0, none⟩) 3 3 (([97, 98, 99] : List UInt8).map B8) := Sl.fresh_fz w 5 (3, 4) 3 (([97, 98, 99] : List UInt8).map B8) rfl (by decide)
  have b1 : Below w.heap.size w (w.alloc (.cells #[.int .u8 97, .int .u8 98, .int .u8 99] 5 (3, 4))) ∧ w.heap.size ≤ (w.alloc (.cells #[.int .u8 97, .int .u8 98, .int .u8 99] 5 (3, 4))).heap.size := ⟨b0.1.alloc b0.2 _, by simp⟩
  clear b0
  refine (hsum_at hS.out (by decide) (hL.out.below b1.1) s1).mono ?_
  rintro e w2 ⟨rfl, h1⟩
  have b2 := bnext b1 h1
  clear h1 b1 s1
  go_wp2_with (with_reducible refine hold_store ?_)
  refine hide ?_
  refine store_all 24 _ _ 24 w2.heap.size Y (S.map B8) (.agg (S.map B8).toArray) HzS.out (Box.new w2 _ _) (by rfl) (by rfl) rfl (by rw [List.length_map, HSl.out, HYl.out]) (one_map _ (fun _ => rfl) _) ?_
  intro w3 x1 hg3 hs3
  have b3 : Below w.heap.size w w3 ∧ w.heap.size ≤ w3.heap.size := ⟨(b2.1.alloc b2.2 _).grown hg3 (by simp; have := b2.2; omega) (fun k hk => by cases hk; exact b2.2), by rw [hs3]; simp; have := b2.2; omega⟩
  generalize w2.heap.size = G1 at *
  clear hg3 hs3 b2
  go_wp2_with fail
  refine (Begin_at _).mono ?_
  rintro e w4 ⟨rfl, h1⟩
  have b4 := bnext b3 h1
  have x1 := x1.under h1
  clear h1 b3
  go_wp2_with fail
  refine (add_at (m := []) (r := [97]) rfl (by decide) _ (hL.out.below b4.1)).mono ?_
  rintro e w5 ⟨rfl, h1⟩
  have b5 := bnext b4 h1
  have x1 := x1.under h1
  clear h1 b4
  go_wp2_with fail
  refine (add_at (m := [97]) (r := [97, 98, 99]) rfl (by decide) _ (hL.out.below b5.1)).mono ?_
  rintro e w6 ⟨rfl, h1⟩
  have b6 := bnext b5 h1
  have x1 := x1.under h1
  clear h1 b5
  go_wp2_with fail
  refine (ssum_at hS.out (by decide) (hL.out.below b6.1)).mono ?_
  rintro e w7 ⟨rfl, h1⟩
  have b7 := bnext b6 h1
  have x1 := x1.under h1
  clear h1 b6
  go_wp2_with (with_reducible refine hold_store ?_)
  refine hide ?_
  refine store_all 24 _ _ 24 w7.heap.size Y (S.map B8) (.agg (S.map B8).toArray) HzS.out (Box.new w7 _ _) (by rfl) (by rfl) rfl (by rw [List.length_map, HSl.out, HYl.out]) (one_map _ (fun _ => rfl) _) ?_
  intro w8 x2 hg8 hs8
  have hlt := x1.lt
  have x1 := (x1.alloc (.cells Y.toArray 24)).grown hg8 (by simp; omega)
  have b8 : Below w.heap.size w w8 ∧ w.heap.size ≤ w8.heap.size := ⟨(b7.1.alloc b7.2 _).grown hg8 (by simp; have := b7.2; omega) (fun k hk => by cases hk; exact b7.2), by rw [hs8]; simp; have := b7.2; omega⟩
  generalize w7.heap.size = G2 at *
  clear hg8 hs8 b7 hlt
  go_wp2_with fail
  have s9 : Sl (w8.alloc (.cells #[.string ⟨#[97]⟩, .string ⟨#[]⟩] 9)) 1 (some ⟨w8.heap.size, 0, none⟩) 2 2 (([⟨#[97]⟩, ⟨#[]⟩] : List ByteArray).map Value.string) := Sl.fresh w8 9 1 2 (([⟨#[97]⟩, ⟨#[]⟩] : List ByteArray).map Value.string) rfl (by decide)
  have b9 : Below w.heap.size w (w8.alloc (.cells #[.string ⟨#[97]⟩, .string ⟨#[]⟩] 9)) ∧ w.heap.size ≤ (w8.alloc (.cells #[.string ⟨#[97]⟩, .string ⟨#[]⟩] 9)).heap.size := ⟨b8.1.alloc b8.2 _, by simp; have := b8.2; omega⟩
  have x1 := x1.alloc (.cells #[.string ⟨#[97]⟩, .string ⟨#[]⟩] 9)
  have x2 := x2.alloc (.cells #[.string ⟨#[97]⟩, .string ⟨#[]⟩] 9)
  clear b8
  refine (of_at hD.out (by decide) (by intro s hs; simp at hs; rcases hs with rfl | rfl <;> decide) (hL.out.below b9.1) s9).mono ?_
  rintro e w10 ⟨rfl, h1⟩
  have b10 := bnext b9 h1
  have x1 := x1.under h1
  have x2 := x2.under h1
  clear h1 b9 s9
  go_wp2_with (with_reducible refine hold_store ?_)
  refine hide ?_
  refine store_all 44 _ _ 44 w10.heap.size Z (D.map B8) (.agg (D.map B8).toArray) HzD.out (Box.new w10 _ _) (by rfl) (by rfl) rfl (by rw [List.length_map, HDl.out, HZl.out]) (one_map _ (fun _ => rfl) _) ?_
  intro w11 x3 hg11 hs11
  have hlt1 := x1.lt
  have hlt2 := x2.lt
  have x1 := (x1.alloc (.cells Z.toArray 44)).grown hg11 (by simp; omega)
  have x2 := (x2.alloc (.cells Z.toArray 44)).grown hg11 (by simp; omega)
  have b11 : Below w.heap.size w w11 ∧ w.heap.size ≤ w11.heap.size := ⟨(b10.1.alloc b10.2 _).grown hg11 (by simp; have := b10.2; omega) (fun k hk => by cases hk; exact b10.2), by rw [hs11]; simp; have := b10.2; omega⟩
  generalize w10.heap.size = G3 at *
  clear hg11 hs11 b10 hlt1 hlt2
  go_wp2_with fail
  refine (mac_at (key := ⟨#[74, 101, 102, 101]⟩) (text := ⟨#[119, 104, 97, 116, 32, 100, 111, 32, 121, 97, 32, 119, 97, 110, 116, 32, 102, 111, 114, 32, 110, 111, 116, 104, 105, 110, 103, 63]⟩) hM.out (by decide) (by decide) (hL.out.below b11.1)).mono ?_
  rintro e w12 ⟨rfl, h1⟩
  have b12 := bnext b11 h1
  have x1 := x1.under h1
  have x2 := x2.under h1
  have x3 := x3.under h1
  clear h1 b11
  go_wp2_with fail
  refine (equal_at (b := true) (by decide) (by decide)).mono ?_
  rintro e w13 ⟨rfl, h1⟩
  have b13 := bnext b12 h1
  have x1 := x1.under h1
  have x2 := x2.under h1
  have x3 := x3.under h1
  clear h1 b12
  go_wp2_with fail
  refine (equal_at (b := false) (by decide) (by decide)).mono ?_
  rintro e w14 ⟨rfl, h1⟩
  have b14 := bnext b13 h1
  have x1 := x1.under h1
  have x2 := x2.under h1
  have x3 := x3.under h1
  clear h1 b13
  go_wp2_with fail
  refine (equal_at (b := false) (by decide) (by decide)).mono ?_
  rintro e w15 ⟨rfl, h1⟩
  have b15 := bnext b14 h1
  have x1 := x1.under h1
  have x2 := x2.under h1
  have x3 := x3.under h1
  clear h1 b14 h16 h32
  go_wp2_with (with_reducible refine load_box 22 24 _ 24 _ 0 _ (S.map B8) isAgg_32 HzS.out x1 rfl (fun j u hj => by rw [Nat.zero_add]; exact hj) ?_)
  refine (bytes32_any S HSl.out _).mono ?_
  rintro e w16 ⟨rfl, h1⟩
  have b16 := bnext b15 h1
  have x1 := x1.under h1
  have x2 := x2.under h1
  have x3 := x3.under h1
  clear h1 b15
  go_wp2_with fail
  refine (hex_at e1.out (by rw [HSl.out]; omega)).mono ?_
  rintro e w17 ⟨rfl, h1⟩
  have b17 := bnext b16 h1
  have x1 := x1.under h1
  have x2 := x2.under h1
  have x3 := x3.under h1
  clear h1 b16
  unfold hx1
  go_wp2_with (first
    | (with_reducible refine load_box_g 27 24 _ 24 _ 0 _ (S.map B8) isAgg_32 HzS.out x1 rfl (fun j u hj => by rw [Nat.zero_add]; exact hj) rfl ?_)
    | (with_reducible refine load_box_g 28 24 _ 24 _ 0 _ (S.map B8) isAgg_32 HzS.out x2 rfl (fun j u hj => by rw [Nat.zero_add]; exact hj) rfl ?_)
    | (with_reducible refine eql_bytes_g 29 24 _ _ _ _ Tryd.underlying24 Tryd.underlying5 size_u8 guard_32 S S rfl rfl HSl.out HSl.out rfl ?_; rw [decide_eq_true (Eq.refl S)]))
  refine (hex_at e2.out (by rw [HMl.out]; omega)).mono ?_
  rintro e w18 ⟨rfl, h1⟩
  have b18 := bnext b17 h1
  have x3 := x3.under h1
  clear h1 b17 x1 x2
  unfold hx2
  go_wp2_with (with_reducible refine load_box_g 37 44 _ 44 _ 0 _ (D.map B8) isAgg_dig HzD.out x3 rfl (fun j u hj => by rw [Nat.zero_add]; exact hj) rfl ?_)
  refine (text_any D HDl.out _).mono ?_
  rintro e w19 ⟨rfl, h1⟩
  have b19 := bnext b18 h1
  clear h1 b18 x3
  go_wp2_with fail
  refine (hex_at e3.out (by rw [HDl.out]; omega)).mono ?_
  rintro e w20 ⟨rfl, h1⟩
  have b20 := bnext b19 h1
  clear h1 b19
  unfold hx3
  go_wp2_with fail
  go_ret
  exact ⟨rfl, b20.1⟩
end Go.Proofs.YtalicdpocgomkaaDoor
