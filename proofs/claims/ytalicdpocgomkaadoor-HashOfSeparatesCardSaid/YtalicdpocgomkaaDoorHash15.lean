import Derived.Test.YtalicdpocgomkaaDoorHash14
namespace Go.Proofs.YtalicdpocgomkaaDoor
open Go.RowKit Go.Dx

/-- the first k bytes, and zeros up to n -/
def fillA (ys : List UInt8) (n k : Nat) : List UInt8 := ys.take k ++ List.replicate (n - k) 0
theorem fill_len {ys : List UInt8} {n k : Nat} (h : n ≤ ys.length) (hk : k ≤ n) : (fillA ys n k).length = n := by unfold fillA; rw [List.length_append, List.length_take, List.length_replicate]; omega
theorem fill_get {ys : List UInt8} {n k : Nat} (h : n ≤ ys.length) (hk : k < n) : (fillA ys n k)[k]? = some 0 := by
  unfold fillA
  rw [List.getElem?_append_right (by rw [List.length_take]; omega), List.length_take, List.getElem?_replicate, if_pos (by omega)]
theorem fill_set {ys : List UInt8} {n k : Nat} (h : n ≤ ys.length) (hk : k < n) {x : UInt8} (hx : ys[k]? = some x) : ((fillA ys n k).map B8).set k (B8 x) = (fillA ys n (k + 1)).map B8 := by
  obtain ⟨d, hd⟩ : ∃ d, n - k = d + 1 := ⟨n - k - 1, by omega⟩
  have hl : (ys.take k).length = k := by rw [List.length_take]; omega
  unfold fillA
  rw [← List.map_set, hd, List.set_append_right _ _ (by omega), hl, Nat.sub_self, List.replicate_succ, List.set_cons_zero, take_next hx, show n - (k + 1) = d by omega, List.append_assoc]
  rfl
theorem fill_all {ys : List UInt8} {n : Nat} : fillA ys n n = ys.take n := by unfold fillA; rw [Nat.sub_self, List.replicate_zero, List.append_nil]
theorem build_z16 (W : World) : (Instr.build 44 #[]).run Tryd.prog W = .ok (.agg (zero16.map B8).toArray) W := by kernel_rfl

/-- the strings of a list, joined -/
def joined (l : List ByteArray) : ByteArray := l.foldl (· ++ ·) ⟨#[]⟩
theorem joined_next {l : List ByteArray} {k : Nat} {s : ByteArray} (h : l[k]? = some s) : joined (l.take (k + 1)) = joined (l.take k) ++ s := by
  unfold joined; rw [take_next h, List.foldl_append]; rfl
theorem joined_data (l : List ByteArray) : (joined l).data.toList = l.flatMap fun s => s.data.toList := by
  have h : ∀ (l : List ByteArray) (a : ByteArray), (l.foldl (· ++ ·) a).data.toList = a.data.toList ++ l.flatMap fun s => s.data.toList := by
    intro l
    induction l with
    | nil => intro a; simp
    | cons x l ih => intro a; rw [List.foldl_cons, ih, List.flatMap_cons]; simp [List.append_assoc]
  have := h l ⟨#[]⟩
  unfold joined
  rw [this]
  rfl
theorem joined_size {l : List ByteArray} (h : ∀ s ∈ l, s.size ≤ 10000) : (joined l).size ≤ 10000 * l.length := by
  have e : (joined l).size = (joined l).data.toList.length := Array.length_toList.symm
  rw [e, joined_data]
  clear e
  induction l with
  | nil => simp
  | cons x l ih =>
    have h1 := h x List.mem_cons_self
    have h3 : x.data.toList.length = x.size := Array.length_toList
    have h4 := ih fun y hy => h y (List.mem_cons_of_mem _ hy)
    rw [List.flatMap_cons, List.length_append, List.length_cons]
    omega
set_option maxRecDepth 100000 in
set_option maxHeartbeats 1000000 in
theorem joined_any (xs : List ByteArray) (hn : xs.length ≤ 1000) (hsz : ∀ s ∈ xs, s.size ≤ 10000) {a : Option Addr} {n c : Nat} {w : World} (hs : Sl w 1 a n c (xs.map Value.string)) :
    Calls Tryd.prog 16 #[.slice a n c] w fun e w' => e = .returned (.string (joined xs)) ∧ w = w' := by
  obtain rfl := hs.n_eq
  have hsz := hide hsz
  go_enter Tryd.func16, Tryd.ntmps16
  go_wp2
  go_loopg [3, 4] xs.length (fun g s i w' => ∃ k : Nat, k ≤ xs.length ∧ g = xs.length - k ∧ i = .int .i64 k ∧ s = .string (joined (xs.take k)) ∧ w = w')
  case atStart => exact ⟨0, by omega, by omega, rfl, rfl, rfl⟩
  case round =>
    obtain ⟨k, hk, hg, rfl, rfl, rfl⟩ := hrel
    have HG := hide hg
    clear hg
    by_cases hlt : k < xs.length
    · obtain ⟨b, o, rfl, hb, hc⟩ := hs.ex (by simp; omega)
      obtain ⟨y, hy⟩ : ∃ y, xs[k]? = some y := ⟨xs[k], by simp [hlt]⟩
      have hy1 : w.cell? ⟨b, o + k, none⟩ = some (Value.string y) := hc k _ (by rw [List.getElem?_map, hy]; rfl)
      have HY := hide (joined_next hy)
      have h1 := hsz.out y (List.mem_of_getElem? hy)
      have h2 := joined_size (l := xs.take k) (fun s h => hsz.out s (List.mem_of_mem_take h))
      have h3 : (xs.take k).length ≤ k := List.length_take_le _ _
      clear hc hy
      generalize joined (xs.take k) = J at *
      have h4 : J.size ≤ 10000000 := by omega
      clear h2 h3
      go_wp2
      go_roundg (xs.length - (k + 1))
      case measure => have := HG.out; omega
      case rel => exact ⟨k + 1, by omega, rfl, by go_num, by rw [HY.out], rfl⟩
    · obtain rfl : k = xs.length := by omega
      rw [List.take_length]
      obtain ⟨J, hJ⟩ : ∃ J, Hid (joined xs = J) := ⟨_, rfl⟩
      rw [hJ.out]
      go_wp2
      go_ret
      exact ⟨by rw [hJ.out]; rfl, rfl⟩
set_option maxRecDepth 100000 in
set_option maxHeartbeats 1000000 in
theorem input_any (t : Int) (ps : List ByteArray) (hn : ps.length ≤ 1000) (hsz : ∀ s ∈ ps, s.size ≤ 10000) {a : Option Addr} {n c : Nat} {w : World} (hs : Sl w 1 a n c (ps.map Value.string)) :
    Calls Tryd.prog 23 #[.int .i64 t, .slice a n c] w (Gives 5 1 (inputL t ps).length ((inputL t ps).map B8) w) := by
  obtain rfl := hs.n_eq
  have htb := tagB_int t
  have hsz := hide hsz
  go_enter Tryd.func23, Tryd.ntmps23
  go_wp2_with fail
  clear htb
  have oP := Own.built w w.heap.size 5 1 1 #[.int .u8 ((tagB t).toNat : Int)] (Nat.le_refl _) rfl (by decide)
  have b1 : Below w.heap.size w (w.alloc (.cells #[.int .u8 ((tagB t).toNat : Int)] 5)) := (Below.refl _ _).alloc (Nat.le_refl _) _
  have hs1 := hs.below b1
  generalize w.alloc (.cells #[.int .u8 ((tagB t).toNat : Int)] 5) = w1 at *
  go_loopg [5, 6] ps.length (fun g o i w' => ∃ (k : Nat) (a2 : Option Addr) (c2 : Nat), k ≤ ps.length ∧ g = ps.length - k ∧ i = .int .i64 k ∧ o = .slice a2 (inputL t (ps.take k)).length c2 ∧ Own w' w.heap.size 5 1 a2 (inputL t (ps.take k)).length c2 ((inputL t (ps.take k)).map B8) ∧ Below w.heap.size w w')
  case atStart => exact ⟨0, _, 1, by omega, by omega, rfl, rfl, oP, b1⟩
  case round =>
    clear oP b1 hs1
    obtain ⟨k, a2, c2, hk, hg, rfl, rfl, oP, hb⟩ := hrel
    have HG := hide hg
    clear hg
    by_cases hlt : k < ps.length
    · have hs2 := hs.below hb
      obtain ⟨b, o, rfl, hb2, hc⟩ := hs2.ex (by simp; omega)
      obtain ⟨s, hss⟩ : ∃ s, ps[k]? = some s := ⟨ps[k], by simp [hlt]⟩
      have hs3 : wr.cell? ⟨b, o + k, none⟩ = some (Value.string s) := hc k _ (by rw [List.getElem?_map, hss]; rfl)
      have hsl := hsz.out s (List.mem_of_getElem? hss)
      have hlen := input_len (t := t) (ps := ps.take k) (fun s h => hsz.out s (List.mem_of_mem_take h))
      have hlen2 : (ps.take k).length ≤ k := List.length_take_le _ _
      have hel : (encBytes s.data.toList).length ≤ 20000 := by
        have h2 := encInt_le (s.data.toList.length : Int)
        have h3 : s.data.toList.length = s.size := Array.length_toList
        unfold encBytes; rw [List.length_append]; omega
      have hnext := hide (input_next (t := t) hss)
      obtain ⟨C, hC⟩ : ∃ C, Hid (inputL t (ps.take k) = C) := ⟨_, rfl⟩
      obtain ⟨E, hE⟩ : ∃ E, Hid (encBytes s.data.toList = E) := ⟨_, rfl⟩
      rw [hC.out] at oP hlen ⊢
      rw [hE.out] at hel
      have hR := ref_Bytes s (by omega)
      rw [hE.out] at hR
      have hR := hide hR
      clear hc hss hs2
      go_wp2_with fail
      refine (hR.out _).mono ?_
      rintro e w2 ⟨a3, c3, rfl, o3, h3⟩
      have oP := oP.below h3
      have hb3 := hb.trans (h3.mono hb.size)
      have o3 := o3.sl
      clear h3 hR
      go_wp2_with (at_builtin; refine app_bs (o := ⟨some 22, _, _, _, _, _⟩) rfl _ _ rfl w w.heap.size _ _ _ _ rfl oP _ _ _ E rfl o3 (by omega) hb3.size hb3 ?_; intro a4 c4 w4 o4 hg4 hb4)
      go_roundg (ps.length - (k + 1))
      case measure => have := HG.out; omega
      case rel =>
        have e : inputL t (ps.take (k + 1)) = C ++ E := by rw [hnext.out, hC.out, hE.out]
        refine ⟨k + 1, a4, c4, by omega, rfl, by go_num, by rw [e, List.length_append], ?_, hb4⟩
        rw [e, List.length_append, List.map_append]
        exact o4
    · obtain rfl : k = ps.length := by omega
      rw [List.take_length] at oP ⊢
      generalize inputL t ps = C at *
      go_wp2_with fail
      go_ret
      exact ⟨a2, c2, rfl, oP, hb⟩
set_option maxRecDepth 100000 in
set_option maxHeartbeats 2000000 in
theorem short_any (l : List UInt8) (hl : l.length ≤ 100000000) (a : Option Addr) (n c : Nat) (w : World) (hL : LaidR w) (hs : Sl w 1 a n c (l.map B8)) :
    Calls Tryd.prog 34 #[.slice a n c] w fun e w' => e = .returned (.agg (((sha l).take 16).map B8).toArray) ∧ Below w.heap.size w w' := by
  have h16 := zero_16
  have h32 := zero_32
  have hb16 := build_z16
  obtain ⟨Z, hZ⟩ : ∃ Z, Hid (zero16.map B8 = Z) := ⟨_, rfl⟩
  obtain ⟨Y, hY⟩ : ∃ Y, Hid (zero32.map B8 = Y) := ⟨_, rfl⟩
  rw [hZ.out] at h16 hb16
  rw [hY.out] at h32
  have hYl : Y.length = 32 := by rw [← hY.out, zero32_len]
  have hZl : Z.length = 16 := by rw [← hZ.out]; rfl
  have HYl := hide hYl
  have HZl := hide hZl
  clear hYl hZl
  obtain ⟨S, hS⟩ : ∃ S, Hid (sha l = S) := ⟨_, rfl⟩
  have hSl : S.length = 32 := by rw [← hS.out, sha_len]
  have HSl := hide hSl
  clear hSl
  go_enter Tryd.func34, Tryd.ntmps34
  go_wp2_with fail
  have x2 : Box (w.alloc (.cells Z.toArray 44)) w.heap.size 44 Z := Box.new w _ _
  have b1 : Below w.heap.size w (w.alloc (.cells Z.toArray 44)) := (Below.refl _ _).alloc (Nat.le_refl _) _
  refine (ref_Sum l hl a n c _ (hL.below b1) (hs.below b1)).mono ?_
  rintro e w2 ⟨rfl, h2⟩
  rw [hS.out]
  obtain ⟨B, hB⟩ : ∃ B, B = w.heap.size := ⟨_, rfl⟩
  have x2 := x2.under h2
  have b2 := b1.trans (h2.mono b1.size)
  rw [← hB] at x2 b2 ⊢
  have HB := hide hB
  clear hB h2 b1 hL hs
  have hzS : (Tryd.prog.info? 24).map (·.size) = some (S.map B8).length := by rw [List.length_map, HSl.out]; exact size_32
  have hzZ : (Tryd.prog.info? 44).map (·.size) = some Z.length := by rw [HZl.out]; exact size_dig'
  have HzS := hide hzS
  have HzZ := hide hzZ
  have hZ1 : ∀ u ∈ Z, u.oneCell' = true := by rw [← hZ.out]; exact one_map _ (fun _ => rfl) _
  have HZ1 := hide hZ1
  clear hzS hzZ hZ1
  go_wp2_with (with_reducible refine hold_store ?_)
  refine hide ?_
  refine store_all 24 _ _ 24 w2.heap.size Y (S.map B8) (.agg (S.map B8).toArray) HzS.out (Box.new w2 _ _) (by rfl) (by rfl) rfl (by rw [List.length_map, HSl.out, HYl.out]) (one_map _ (fun _ => rfl) _) ?_
  intro w3 x3 hg3 hs3
  have hG : B < w2.heap.size := x2.lt
  have x2 := (x2.alloc (.cells Y.toArray 24)).grown hg3 (by simp; omega)
  have b3 := (b2.alloc (Nat.le_of_lt hG) (.cells Y.toArray 24)).grown hg3 (by simp; omega) (fun k hk => by cases hk; omega)
  generalize w2.heap.size = G at *
  clear hg3 hs3 b2
  go_wp2_with (with_reducible refine hold_build ?_)
  refine hide ?_
  refine val_at rfl (.agg Z.toArray) (by simp [execOp, Act.eval, hb16]) ?_
  go_wp2_with (with_reducible refine hold_store ?_)
  refine hide ?_
  refine store_all 44 _ _ 44 w3.heap.size Z Z (.agg Z.toArray) HzZ.out (Box.new w3 _ _) (by rfl) (by rfl) rfl rfl HZ1.out ?_
  intro w4 x4 hg4 hs4
  have hG3 : G < w3.heap.size := x3.lt
  have x2 := (x2.alloc (.cells Z.toArray 44)).grown hg4 (by simp; omega)
  have x3 := (x3.alloc (.cells Z.toArray 44)).grown hg4 (by simp; omega)
  have b4 := (b3.alloc (by omega) (.cells Z.toArray 44)).grown hg4 (by simp; omega) (fun k hk => by cases hk; omega)
  generalize w3.heap.size = D at *
  clear hg4 hs4 b3 h16 h32 hb16
  have x4 : Box w4 D 44 ((fillA S 16 0).map B8) := by rw [← hZ.out] at x4; exact x4
  go_wp2_with fail
  go_loopg [5] 16 (fun g i w' => ∃ k : Nat, k ≤ 16 ∧ g = 16 - k ∧ i = .int .i64 k ∧ Box w' D 44 ((fillA S 16 k).map B8) ∧ Box w' G 24 (S.map B8) ∧ Box w' B 44 Z ∧ Below B w w')
  case atStart => exact ⟨0, by omega, by omega, rfl, x4, x3, x2, b4⟩
  case round =>
    clear x4 x3 x2 b4
    obtain ⟨k, hk, hg, rfl, x4, x3, x2, b4⟩ := hrel
    have HG := hide hg
    clear hg
    by_cases hlt : k < 16
    · obtain ⟨u, hu⟩ : ∃ u, S[k]? = some u := ⟨S[k]'(by rw [HSl.out]; omega), by simp⟩
      have q0 : wr.cell? ⟨G, k, none⟩ = some (B8 u) := x3.at_ (box_at hu)
      have q1 : wr.cell? ⟨D, k, none⟩ = some (B8 0) := x4.at_ (box_at (fill_get (by rw [HSl.out]; omega) hlt))
      have f1 := x4.free k
      have HU := hide hu
      clear hu
      go_wp2_with fail
      go_roundg (16 - (k + 1))
      case measure => have := HG.out; omega
      case rel =>
        refine ⟨k + 1, by omega, rfl, by go_num, ?_, x3.far (by simp; omega) _, x2.far (by simp; omega) _, b4.setCell (by simp; omega) _⟩
        have h := x4.put k (B8 u)
        rw [fill_set (by rw [HSl.out]; omega) hlt HU.out] at h
        exact h
    · obtain rfl : k = 16 := by omega
      rw [fill_all] at x4
      have hz16 : (Tryd.prog.info? 44).map (·.size) = some ((S.take 16).map B8).length := by rw [List.length_map, List.length_take, HSl.out]; exact size_dig'
      have Hz16 := hide hz16
      clear hz16
      go_wp2_with (first
        | (with_reducible refine load_box 18 44 _ 44 D 0 _ ((S.take 16).map B8) isAgg_dig Hz16.out x4 rfl (fun j u hj => by rw [Nat.zero_add]; exact hj) ?_)
        | (with_reducible refine hold_store ?_))
      refine hide ?_
      refine store_all 44 _ _ 44 B Z ((S.take 16).map B8) (.agg ((S.take 16).map B8).toArray) Hz16.out x2 (by rfl) (by rfl) rfl (by rw [List.length_map, List.length_take, HSl.out, HZl.out]; rfl) (one_map _ (fun _ => rfl) _) ?_
      intro w9 z2 hg9 hs9
      go_wp2_with fail
      exact bodyPost_ret (run_results_cell rfl rfl isAgg_dig Hz16.out z2) rfl ⟨by rw [hS.out], by rw [← HB.out]; exact b4.grown hg9 (Nat.le_of_lt x2.lt) (fun k hk => by cases hk; omega)⟩
set_option maxRecDepth 100000 in
set_option maxHeartbeats 2000000 in
theorem rof_any (t : Int) (ps : List ByteArray) (hn : ps.length ≤ 1000) (hsz : ∀ s ∈ ps, s.size ≤ 10000) {a : Option Addr} {n c : Nat} {w : World} (hL : LaidR w) (hs : Sl w 1 a n c (ps.map Value.string)) :
    Calls Tryd.prog 22 #[.int .i64 t, .slice a n c] w fun e w' => e = .returned (.agg (((sha (inputL t ps)).take 16).map B8).toArray) ∧ Below w.heap.size w w' := by
  have h16 := zero_16
  obtain ⟨Z, hZ⟩ : ∃ Z, Hid (zero16.map B8 = Z) := ⟨_, rfl⟩
  rw [hZ.out] at h16
  have hZl : Z.length = 16 := by rw [← hZ.out]; rfl
  have HZl := hide hZl
  have hlen := input_len (t := t) hsz
  obtain ⟨C, hC⟩ : ∃ C, Hid (inputL t ps = C) := ⟨_, rfl⟩
  have hI := hide fun (w' : World) (hs : Sl w' 1 a n c (ps.map Value.string)) => input_any t ps hn hsz hs
  rw [hC.out] at hlen hI ⊢
  have hCl : C.length ≤ 100000000 := by omega
  have hz16 : (Tryd.prog.info? 44).map (·.size) = some (((sha C).take 16).map B8).length := by rw [List.length_map, List.length_take, sha_len]; exact size_dig'
  have Hz16 := hide hz16
  clear hz16 hlen hsz hZl
  go_enter Tryd.func22, Tryd.ntmps22
  go_wp2_with fail
  have x2 : Box (w.alloc (.cells Z.toArray 44)) w.heap.size 44 Z := Box.new w _ _
  have b1 : Below w.heap.size w (w.alloc (.cells Z.toArray 44)) := (Below.refl _ _).alloc (Nat.le_refl _) _
  refine (hI.out _ (hs.below b1)).mono ?_
  rintro e w2 ⟨a2, c2, rfl, o2, h2⟩
  have x2 := x2.under h2
  have b2 := b1.trans (h2.mono b1.size)
  clear h2 b1
  go_wp2_with fail
  refine (short_any C hCl _ _ _ _ (hL.below b2) o2.sl).mono ?_
  rintro e w3 ⟨rfl, h3⟩
  have x2 := x2.under h3
  have b3 := b2.trans (h3.mono b2.size)
  clear h3 b2
  go_wp2_with (with_reducible refine hold_store ?_)
  refine hide ?_
  refine store_all 44 _ _ 44 w.heap.size Z (((sha C).take 16).map B8) (.agg (((sha C).take 16).map B8).toArray) Hz16.out x2 (by rfl) (by rfl) rfl (by rw [List.length_map, List.length_take, sha_len, HZl.out]; rfl) (one_map _ (fun _ => rfl) _) ?_
  intro w9 z2 hg9 hs9
  go_wp2_with fail
  exact bodyPost_ret (run_results_cell rfl rfl isAgg_dig Hz16.out z2) rfl ⟨rfl, b3.grown hg9 (Nat.le_of_lt x2.lt) (fun k hk => by cases hk; exact Nat.le_refl _)⟩
end Go.Proofs.YtalicdpocgomkaaDoor
