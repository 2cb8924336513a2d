import Derived.Test.YtalicdpocgomkaaWire16
namespace Go.Proofs.Ytalicdpocgomkaa
open Go.RowKit Go.Dx

theorem bstep {B : Nat} {w0 w w' : World} {o : Obj} (h : Below B w0 w ∧ B ≤ w.heap.size) (hb : Below (w.alloc o).heap.size (w.alloc o) w') : Below B w0 w' ∧ B ≤ w'.heap.size := by
  have h1 := hb.size
  have h2 := h.2
  simp at h1
  exact ⟨(h.1.alloc h.2 o).trans (hb.mono (by simp; omega)), by omega⟩
theorem GetInt_at {l : List UInt8} {r : Int × Int × Int} (h : decInt l = r) {a : Option Addr} {n c : Nat} {w : World} (hs : Sl w 1 a n c (l.map B8)) :
    Calls Try.prog 67 #[.slice a n c] w fun e w' => e = .returned (R3 r) ∧ Below w.heap.size w w' := by subst h; exact (wire_GetInt l a n c w hs).mono fun e w' ⟨h1, h2⟩ => ⟨h1, h2 ▸ Below.refl _ _⟩
theorem GetBytes_at {l : List UInt8} {r : ByteArray × Int × Int} (h : decBytes l = r) {a : Option Addr} {n c : Nat} {w : World} (hs : Sl w 1 a n c (l.map B8)) :
    Calls Try.prog 69 #[.slice a n c] w fun e w' => e = .returned (RS r) ∧ Below w.heap.size w w' := by subst h; exact (wire_GetBytes l a n c w hs).mono fun e w' ⟨h1, h2⟩ => ⟨h1, h2 ▸ Below.refl _ _⟩
theorem GetInts_at {l : List UInt8} {r : List Int × Int × Int} (h : decSeq decInt l = r) (hl : l.length ≤ 1000000000) {a : Option Addr} {n c : Nat} {w : World} (hs : Sl w 1 a n c (l.map B8)) :
    Calls Try.prog 71 #[.slice a n c] w (Gives3 3 1 r.1.length (r.1.map I64) r.2.1 r.2.2 w) := by subst h; exact wire_GetInts l a n c w hs hl
theorem GetStrings_at {l : List UInt8} {r : List ByteArray × Int × Int} (h : decSeq decBytes l = r) (hl : l.length ≤ 1000000000) {a : Option Addr} {n c : Nat} {w : World} (hs : Sl w 1 a n c (l.map B8)) :
    Calls Try.prog 73 #[.slice a n c] w (Gives3 9 1 r.1.length (r.1.map Value.string) r.2.1 r.2.2 w) := by subst h; exact wire_GetStrings l a n c w hs hl
theorem GetDigests_at {l : List UInt8} {r : Nat × List UInt8 × Int × Int} (h : decDigs l = r) (hl : l.length ≤ 1000000000) {a : Option Addr} {n c : Nat} {w : World} (hs : Sl w 1 a n c (l.map B8)) :
    Calls Try.prog 76 #[.slice a n c] w (Gives3 116 16 r.1 (r.2.1.map B8) r.2.2.1 r.2.2.2 w) := by subst h; exact wire_GetDigests l a n c w hs hl
theorem Int_at {x : Int} {r : List UInt8} (h : encInt x = r) (h0 : -9223372036854775808 ≤ x) (h1 : x ≤ 9223372036854775807) {w : World} :
    Calls Try.prog 58 #[.int .i64 x] w (Gives 5 1 r.length (r.map B8) w) := by subst h; exact wire_Int x h0 h1 w
theorem Same_at {l1 l2 : List UInt8} {r : Bool} (h : decide (l1 = l2) = r) {a1 a2 : Option Addr} {n1 n2 c1 c2 : Nat} {w : World} (h1 : Sl w 1 a1 n1 c1 (l1.map B8)) (h2 : Sl w 1 a2 n2 c2 (l2.map B8)) :
    Calls Try.prog 42 #[.slice a1 n1 c1, .slice a2 n2 c2] w fun e w' => e = .returned (.bool r) ∧ Below w.heap.size w w' := by subst h; exact (ref_Same _ _ _ _ _ _ _ _ _ h1 h2).mono fun e w' ⟨h1, n, h2⟩ => ⟨h1, h2 ▸ Still.below n⟩
theorem SameInts_at {l1 l2 : List Int} {r : Bool} (h : decide (l1 = l2) = r) {a1 a2 : Option Addr} {n1 n2 c1 c2 : Nat} {w : World} (h1 : Sl w 1 a1 n1 c1 (l1.map I64)) (h2 : Sl w 1 a2 n2 c2 (l2.map I64)) :
    Calls Try.prog 19 #[.slice a1 n1 c1, .slice a2 n2 c2] w fun e w' => e = .returned (.bool r) ∧ Below w.heap.size w w' := by subst h; exact (ref_SameInts _ _ _ _ _ _ _ _ _ h1 h2).mono fun e w' ⟨h1, n, h2⟩ => ⟨h1, h2 ▸ Still.below n⟩
theorem SameTexts_at {l1 l2 : List ByteArray} {r : Bool} (h : decide (l1 = l2) = r) {a1 a2 : Option Addr} {n1 n2 c1 c2 : Nat} {w : World} (h1 : Sl w 1 a1 n1 c1 (l1.map Value.string)) (h2 : Sl w 1 a2 n2 c2 (l2.map Value.string)) :
    Calls Try.prog 75 #[.slice a1 n1 c1, .slice a2 n2 c2] w fun e w' => e = .returned (.bool r) ∧ Below w.heap.size w w' := by subst h; exact (ref_SameTexts _ _ _ _ _ _ _ _ _ h1 h2).mono fun e w' ⟨h1, n, h2⟩ => ⟨h1, h2 ▸ Still.below n⟩
theorem SameDigests_at {l1 l2 : List UInt8} {r : Bool} (h : decide (l1 = l2) = r) {a1 a2 : Option Addr} {n1 n2 c1 c2 : Nat} {w : World} (h1 : Sl w 16 a1 n1 c1 (l1.map B8)) (h2 : Sl w 16 a2 n2 c2 (l2.map B8)) :
    Calls Try.prog 78 #[.slice a1 n1 c1, .slice a2 n2 c2] w fun e w' => e = .returned (.bool r) ∧ Below w.heap.size w w' := by subst h; exact (ref_SameDigests _ _ _ _ _ _ _ _ _ h1 h2).mono fun e w' ⟨h1, n, h2⟩ => ⟨h1, h2 ▸ Still.below n⟩
theorem bs0 {B : Nat} {w0 w w' : World} (h : Below B w0 w ∧ B ≤ w.heap.size) (hb : Below w.heap.size w w') : Below B w0 w' ∧ B ≤ w'.heap.size :=
  ⟨h.1.trans (hb.mono h.2), Nat.le_trans h.2 hb.size⟩

theorem Digests_at {fl r : List UInt8} {n : Nat} (h : encInt n ++ fl = r) (hT : fl.length ≤ 140737488355000) {a : Option Addr} {c : Nat} {w : World} (hs : Sl w 16 a n c (fl.map B8)) :
    Calls Try.prog 65 #[.slice a n c] w (Gives 5 1 r.length (r.map B8) w) := by subst h; exact wire_Digests fl a n c w hs hT
theorem Strings_at {l : List ByteArray} {r : List UInt8} (h : encStrs l = r) (hl : ∀ x ∈ l, x.size ≤ 140737488355000) (hT : r.length ≤ 140737488355000) (hN : l.length ≤ 140737488355000) {a : Option Addr} {n c : Nat} {w : World} (hs : Sl w 1 a n c (l.map Value.string)) :
    Calls Try.prog 52 #[.slice a n c] w (Gives 5 1 r.length (r.map B8) w) := by subst h; exact wire_Strings l hl hT hN a n c w hs
theorem Ints_at {l : List Int} {r : List UInt8} (h : encInts l = r) (hl : ∀ x ∈ l, -9223372036854775808 ≤ x ∧ x ≤ 9223372036854775807) (hT : r.length ≤ 140737488355000) (hN : l.length ≤ 140737488355000) {a : Option Addr} {n c : Nat} {w : World} (hs : Sl w 1 a n c (l.map I64)) :
    Calls Try.prog 62 #[.slice a n c] w (Gives 5 1 r.length (r.map B8) w) := by subst h; exact wire_Ints l hl hT hN a n c w hs
theorem Bytes_at {s : ByteArray} {r : List UInt8} (h : encBytes s.data.toList = r) (hs : s.size ≤ 140737488355000) {w : World} :
    Calls Try.prog 60 #[.string s] w (Gives 5 1 r.length (r.map B8) w) := by subst h; exact wire_Bytes s hs w
theorem lit_d (w : World) (b : Nat) (hb : b = w.heap.size) (fl : List UInt8) (L : Array Value) (hL : L = (fl.map B8).toArray) (n : Nat) (hn : fl.length = n * 16) (hm : n ≤ maxLen) : Sl (w.alloc (.cells L 116)) 16 (some ⟨b, 0, none⟩) n n (fl.map B8) := by
  subst hL hb; exact Sl.fresh w _ 16 n _ (by simp [hn]) hm
section
variable {w : World} {ops : Array Oper} {rest : List Oper} {act : Act} {Q : Exit → Act → World → Prop} {ty : TypeId} {pos : String} {after : Array Edge} {g : Option (Nat × Bool)}
theorem unguard {dst : Option Nat} {op : Op} (hw : Region.wanted { dst := dst, op := op, type := ty, pos := pos, after := after, guard := g } (yielded ops act.tmps) = true)
    (h : wpList Try.prog ops Q ({ dst := dst, op := op, type := ty, pos := pos, after := after, guard := none } :: rest) act w) :
    wpList Try.prog ops Q ({ dst := dst, op := op, type := ty, pos := pos, after := after, guard := g } :: rest) act w := by
  have h2 : Region.wanted { dst := dst, op := op, type := ty, pos := pos, after := after, guard := none } (yielded ops act.tmps) = true := rfl
  unfold wpList at h ⊢
  rw [if_pos h2] at h
  rw [if_pos hw]
  exact h
theorem load_dig_g (d : Nat) (x : Operand) (p : Addr) (hx : act.eval x = .pointer (some p)) (cs : List Value) (hl : cs.length = 16) (hc : ∀ j u, cs[j]? = some u → w.cell? (p.add j) = some u)
    (hw : Region.wanted { dst := some d, op := .load 116 x, type := ty, pos := pos, after := after, guard := g } (yielded ops act.tmps) = true)
    (hK : wpList Try.prog ops Q rest (act.put (some d) (.agg cs.toArray)) w) :
    wpList Try.prog ops Q ({ dst := some d, op := .load 116 x, type := ty, pos := pos, after := after, guard := g } :: rest) act w :=
  unguard hw (load_dig d x p hx cs hl hc hK)
theorem build_dig_g (d : Nat) (x : Operand) (us : List Value) (hx : act.eval x = .agg us.toArray) (hl : us.length = 16)
    (hw : Region.wanted { dst := some d, op := .buildSlice 70 1 #[(0, x)], type := ty, pos := pos, after := after, guard := g } (yielded ops act.tmps) = true)
    (hK : wpList Try.prog ops Q rest (act.put (some d) (.slice (some ⟨w.heap.size, 0, none⟩) 1 1)) (w.alloc (.cells us.toArray 116))) :
    wpList Try.prog ops Q ({ dst := some d, op := .buildSlice 70 1 #[(0, x)], type := ty, pos := pos, after := after, guard := g } :: rest) act w :=
  unguard hw (build_dig d x us hx hl hK)
end
theorem L1 : #[Value.int .u8 130, .int .u8 1, .int .u8 0, .int .u8 9] = (List.map B8 [130, 1, 0, 9]).toArray := by rfl
theorem L2 : #[Value.int .u8 130, .int .u8 1] = (List.map B8 [130, 1]).toArray := by rfl
theorem L3 : #[Value.int .u8 129, .int .u8 0] = (List.map B8 [129, 0]).toArray := by rfl
theorem L4 : #[Value.int .u8 129, .int .u8 2, .int .u8 97, .int .u8 98, .int .u8 7] = (List.map B8 [129, 2, 97, 98, 7]).toArray := by rfl
theorem L5 : #[Value.int .u8 129, .int .u8 2, .int .u8 129, .int .u8 1, .int .u8 127] = (List.map B8 [129, 2, 129, 1, 127]).toArray := by rfl
theorem L6 : #[Value.int .u8 129, .int .u8 2, .int .u8 128, .int .u8 129, .int .u8 1, .int .u8 97, .int .u8 5] = (List.map B8 [129, 2, 128, 129, 1, 97, 5]).toArray := by rfl
theorem L7 : #[Value.string ⟨#[]⟩, .string ⟨#[97]⟩] = (List.map Value.string [⟨#[]⟩, ⟨#[97]⟩]).toArray := by rfl
theorem L8 : #[Value.int .u8 129, .int .u8 2, .int .u8 128, .int .u8 129, .int .u8 1, .int .u8 97] = (List.map B8 [129, 2, 128, 129, 1, 97]).toArray := by rfl
theorem L9 : #[Value.int .u8 125, .int .u8 254, .int .u8 255] = (List.map B8 [125, 254, 255]).toArray := by rfl
theorem L10 : #[Value.int .i64 1, .int .i64 (-1)] = (List.map I64 [1, -1]).toArray := by rfl
theorem L11 : #[Value.int .u8 129, .int .u8 2, .int .u8 97, .int .u8 98] = (List.map B8 [129, 2, 97, 98]).toArray := by rfl
set_option maxRecDepth 100000 in
set_option maxHeartbeats 2000000 in
theorem law1_sanity (w : World) : Calls Try.prog 57 #[] w fun e w' => e = .returned (.bool true) ∧ Below w.heap.size w w' := by
  go_enter Try.func57, Try.ntmps57
  have b0 : Below w.heap.size w w ∧ w.heap.size ≤ w.heap.size := ⟨Below.refl _ _, Nat.le_refl _⟩
  go_wp2_with fail
  refine (GetInt_at d1 (lit_b _ _ (by simp) _ _ L1 4 rfl (by decide))).mono ?_
  rintro e w1 ⟨rfl, h1⟩
  have b1 := bstep b0 h1
  clear h1 b0
  go_wp2_with fail
  refine (GetInt_at d2 (lit_b _ _ (by simp) _ _ L2 2 rfl (by decide))).mono ?_
  rintro e w2 ⟨rfl, h1⟩
  have b2 := bstep b1 h1
  clear h1 b1
  go_wp2_with fail
  refine (GetInt_at d3 (lit_b _ _ (by simp) _ _ L3 2 rfl (by decide))).mono ?_
  rintro e w3 ⟨rfl, h1⟩
  have b3 := bstep b2 h1
  clear h1 b2
  go_wp2_with fail
  refine (GetBytes_at d4 (lit_b _ _ (by simp) _ _ L4 5 rfl (by decide))).mono ?_
  rintro e w4 ⟨rfl, h1⟩
  have b4 := bstep b3 h1
  clear h1 b3
  go_wp2_with fail
  refine (GetInts_at d5 (by decide) (lit_b _ _ (by simp) _ _ L5 5 rfl (by decide))).mono ?_
  rintro e w5 ⟨a13, c13, rfl, o13, h1⟩
  have b5 := bstep b4 h1
  clear h1 b4
  go_wp2_with fail
  refine (Digests_at d11 (by decide) (lit_d _ _ (by simp) dgl _ rfl 1 rfl (by decide))).mono ?_
  rintro e w6 ⟨a58, c58, rfl, o58, h1⟩
  have b6 := bstep ⟨b5.1.alloc b5.2 _, by simp; omega⟩ h1
  go_wp2_with fail
  refine (GetDigests_at d12 (by decide) o58.sl).mono ?_
  rintro e w7 ⟨a17, c17, rfl, o17, h2⟩
  have b7 := bs0 b6 h2
  have B7 := (((lit_d w5 _ rfl dgl _ rfl 1 rfl (by decide)).alloc _).below h1).below h2
  have o13 := (((o13.sl.alloc _).alloc _).below h1).below h2
  have o17 := o17.sl
  clear h1 h2 b5 b6 o58
  generalize w5.heap.size = bx at *
  go_wp2_with fail
  refine (GetStrings_at d6 (by decide) (lit_b _ _ (by simp) _ _ L6 7 rfl (by decide))).mono ?_
  rintro e w8 ⟨a20, c20, rfl, o20, h1⟩
  have b8 := bstep b7 h1
  have B8 := (B7.alloc _).below h1
  have o13 := (o13.alloc _).below h1
  have o17 := (o17.alloc _).below h1
  have o20 := o20.sl
  clear h1 b7 B7
  go_wp2_with fail
  refine (SameTexts_at (r := true) (by decide +kernel) (o20.alloc _) (lit_s _ _ (by simp) _ _ L7 2 rfl (by decide))).mono ?_
  rintro e w9 ⟨rfl, h1⟩
  have b9 := bstep b8 h1
  have B9 := (B8.alloc _).below h1
  have o13 := (o13.alloc _).below h1
  have o17 := (o17.alloc _).below h1
  clear h1 b8 B8 o20
  go_wp2_with fail
  refine (Strings_at d10 (by decide) (by decide) (by decide) (lit_s _ _ (by simp) _ _ L7 2 rfl (by decide))).mono ?_
  rintro e w10 ⟨a82, c82, rfl, o82, h1⟩
  have b10 := bstep b9 h1
  have B10 := (B9.alloc _).below h1
  have o13 := (o13.alloc _).below h1
  have o17 := (o17.alloc _).below h1
  clear h1 b9 B9
  go_wp2_with fail
  refine (Same_at (r := true) (by decide +kernel) (o82.sl.alloc _) (lit_b _ _ (by simp) _ _ L8 6 rfl (by decide))).mono ?_
  rintro e w11 ⟨rfl, h1⟩
  have b11 := bstep b10 h1
  have B11 := (B10.alloc _).below h1
  have o13 := (o13.alloc _).below h1
  have o17 := (o17.alloc _).below h1
  clear h1 b10 B10 o82
  go_wp2_with fail
  refine (Int_at d7 (by decide) (by decide)).mono ?_
  rintro e w12 ⟨a88, c88, rfl, o88, h1⟩
  have b12 := bs0 b11 h1
  have B12 := B11.below h1
  have o13 := o13.below h1
  have o17 := o17.below h1
  clear h1 b11 B11
  go_wp2_with fail
  refine (Same_at (r := true) (by decide +kernel) (o88.sl.alloc _) (lit_b _ _ (by simp) _ _ L9 3 rfl (by decide))).mono ?_
  rintro e w13 ⟨rfl, h1⟩
  have b13 := bstep b12 h1
  have B13 := (B12.alloc _).below h1
  have o13 := (o13.alloc _).below h1
  have o17 := (o17.alloc _).below h1
  clear h1 b12 B12 o88
  go_wp2_with fail
  refine (SameInts_at (r := true) (by decide +kernel) (o13.alloc _) (lit_i _ _ (by simp) _ _ L10 2 rfl (by decide))).mono ?_
  rintro e w14 ⟨rfl, h1⟩
  have b14 := bstep b13 h1
  have B14 := (B13.alloc _).below h1
  have o17 := (o17.alloc _).below h1
  clear h1 b13 B13 o13
  go_wp2_with fail
  refine (Bytes_at (s := ⟨#[97, 98]⟩) d8 (by decide)).mono ?_
  rintro e w15 ⟨a1, c1, rfl, o1, h1⟩
  have b15 := bs0 b14 h1
  have B15 := B14.below h1
  have o17 := o17.below h1
  clear h1 b14 B14
  go_wp2_with fail
  refine (Same_at (r := true) (by decide +kernel) (o1.sl.alloc _) (lit_b _ _ (by simp) _ _ L11 4 rfl (by decide))).mono ?_
  rintro e w16 ⟨rfl, h1⟩
  have b16 := bstep b15 h1
  have B16 := (B15.alloc _).below h1
  have o17 := (o17.alloc _).below h1
  clear h1 b15 B15 o1
  go_wp2_with fail
  refine (Ints_at d9 (by decide) (by decide) (by decide) (lit_i _ _ (by simp) _ _ L10 2 rfl (by decide))).mono ?_
  rintro e w17 ⟨a2, c2, rfl, o2, h1⟩
  have b17 := bstep b16 h1
  have B17 := (B16.alloc _).below h1
  have o17 := (o17.alloc _).below h1
  clear h1 b16 B16
  go_wp2_with fail
  refine (Same_at (r := true) (by decide +kernel) (o2.sl.alloc _) (lit_b _ _ (by simp) _ _ L5 5 rfl (by decide))).mono ?_
  rintro e w18 ⟨rfl, h1⟩
  have b18 := bstep b17 h1
  have B18 := (B17.alloc _).below h1
  have o17 := (o17.alloc _).below h1
  clear h1 b17 B17 o2
  go_wp2_with (first
    | (with_reducible refine load_dig_g 150 _ _ rfl (dgl.map B8) rfl (B18.cell _ rfl) rfl ?_)
    | (with_reducible refine build_dig_g 151 _ (dgl.map B8) rfl rfl rfl ?_))
  refine (SameDigests_at (r := true) (by decide +kernel) (o17.alloc _) (lit_d _ _ (by simp) dgl _ rfl 1 rfl (by decide))).mono ?_
  rintro e w19 ⟨rfl, h1⟩
  have b19 := bstep b18 h1
  clear h1 b18 B18 o17
  go_wp2_with fail
  go_ret
  exact ⟨rfl, b19.1⟩
end Go.Proofs.Ytalicdpocgomkaa
