import Derived.Test.YtalicdpocgomkaaDoorHash17
import Derived.Test.YtalicdpocgomkaaDoorFree
namespace Go.Proofs.YtalicdpocgomkaaDoor
open Go.RowKit Go.Dx

theorem padded_at {c' : Int} {c : UInt8} (hc : (c.toNat : Int) = c') {r : List UInt8} {key : ByteArray} (hr : padK key.data.toList c = r) (X : ByteArray) (hX : X.size ≤ 64) (B : Nat) (w : World) (hB : Box w B 9 [.string X]) (hXk : X = key := by rfl) :
    Calls Tryd.prog 31 #[.int .u8 c', .pointer (some ⟨B, 0, none⟩)] w fun e w' => e = .returned (.string ⟨r.toArray⟩) ∧ Below w.heap.size w w' := by
  subst hXk hr hc
  exact padded_fn c X hX B w hB
theorem mac_eq {k t : List UInt8} {X : ByteArray} (h : X.data.toList = keyL k) : macL k t = sha (padK X.data.toList 0x5c ++ sha (padK X.data.toList 0x36 ++ t)) := by unfold macL; rw [h]
/-- the walk stops ahead of 'makeFunc' -/
theorem hold_mk {P : Program} {w : World} {ops : Array Oper} {rest : List Oper} {act : Act} {Q : Exit → Act → World → Prop} {dst : Option Tmp} {ty : TypeId} {fn : Fn} {xs ys : Array Operand} {pos : String} {after : Array Edge} {g : Option (Nat × Bool)}
    (h : Hid (wpList P ops Q ({ dst := dst, op := .makeFunc fn xs ys, type := ty, pos := pos, after := after, guard := g } :: rest) act w)) :
    wpList P ops Q ({ dst := dst, op := .makeFunc fn xs ys, type := ty, pos := pos, after := after, guard := g } :: rest) act w := h
set_option maxRecDepth 100000 in
set_option maxHeartbeats 4000000 in
theorem mac_any (key text : ByteArray) (hk : key.size ≤ 100000) (ht : text.size ≤ 100000) (w : World) (hL : Laid w) :
    Calls Tryd.prog 18 #[.string key, .string text] w fun e w' => e = .returned (.string ⟨(macL key.data.toList text.data.toList).toArray⟩) ∧ Below w.heap.size w w' := by
  have hkl : key.data.toList.length = key.size := Array.length_toList
  have htl : text.data.toList.length = text.size := Array.length_toList
  have HTL := hide htl
  have HM := hide fun (X : ByteArray) (h : X.data.toList = keyL key.data.toList) => mac_eq (t := text.data.toList) h
  have h32 := zero_32
  obtain ⟨Z, hZ⟩ : ∃ Z, Hid (zero32.map B8 = Z) := ⟨_, rfl⟩
  rw [hZ.out] at h32
  have hZl : Z.length = 32 := by rw [← hZ.out, zero32_len]
  have HZl := hide hZl
  have hL0 := hide hL
  clear hZl htl
  have x2 : Box (w.alloc (.cells #[.string key] 9)) w.heap.size 9 [.string key] := Box.new w _ _
  have b1 : Below w.heap.size w (w.alloc (.cells #[.string key] 9)) := (Below.refl _ _).alloc (Nat.le_refl _) _
  by_cases h64 : 64 < key.size
  · have hK : keyL key.data.toList = sha key.data.toList := by unfold keyL; rw [if_pos (by omega)]
    rw [hK] at HM
    obtain ⟨S, hS⟩ : ∃ S, Hid (sha key.data.toList = S) := ⟨_, rfl⟩
    have hSl : S.length = 32 := by rw [← hS.out, sha_len]
    have HSl := hide hSl
    have hSum := hide (hsum_any key.data.toList (by omega))
    rw [hS.out] at hSum HM
    have hzS : (Tryd.prog.info? 24).map (·.size) = some (S.map B8).length := by rw [List.length_map, HSl.out]; exact size_32
    have HzS := hide hzS
    clear hK hSl hkl hzS hL
    go_enter Tryd.func18, Tryd.ntmps18
    go_wp2_with (with_reducible refine to_bytes 13 _ key rfl (by unfold maxLen; omega) ?_; intro a2 c2 w2 s2 hb2 hp2)
    have x2 := x2.under hb2
    have b2 := b1.trans (hb2.mono b1.size)
    clear b1
    refine (hSum.out _ _ _ _ (hL0.out.below b2) s2).mono ?_
    rintro e w3 ⟨rfl, h3⟩
    have x2 := x2.under h3
    have b3 := b2.trans (h3.mono b2.size)
    clear h3 hb2 hp2 s2 b2
    go_wp2_with (with_reducible refine hold_store ?_)
    refine hide ?_
    refine store_all 24 _ _ 24 w3.heap.size Z (S.map B8) (.agg (S.map B8).toArray) HzS.out (Box.new w3 _ _) (by rfl) (by rfl) rfl (by rw [List.length_map, HSl.out, HZl.out]) (one_map _ (fun _ => rfl) _) ?_
    intro w4 x5 hg4 hs4
    have hlt := x2.lt
    have x2 := (x2.alloc (.cells Z.toArray 24)).grown hg4 (by simp; omega)
    have b4 := (b3.alloc (by omega) (.cells Z.toArray 24)).grown hg4 (by simp; omega) (fun k hk => by cases hk; omega)
    have f2 := x2.free 0
    have q2 : w4.cell? ⟨w.heap.size, 0, none⟩ = some (.string key) := x2.at_ rfl
    have s5 := x5.sl 0 32 32 1 (S.map B8) (by rw [List.length_map, HSl.out]) (Nat.le_refl _) (by decide) (fun j u h => by rw [Nat.zero_add]; exact h)
    clear hlt hg4 hs4 b3
    generalize w3.heap.size = G3 at *
    go_wp2_with (first
      | (with_reducible refine cut_var 15 24 5 32 _ _ _ Tryd.underlying24 size_u8 G3 0 rfl 0 32 (.inl ⟨rfl, rfl⟩) (.inl ⟨rfl, rfl⟩) (by omega) (by omega) (by omega) ?_)
      | (with_reducible refine to_str 16 _ _ _ _ S rfl s5 ?_)
      | (with_reducible refine hold_mk ?_))
    refine hide ?_
    have x2 : Box (w4.setCell ⟨w.heap.size, 0, none⟩ (.string ⟨S.toArray⟩)) w.heap.size 9 [.string ⟨S.toArray⟩] := x2.put 0 _
    have b4 := b4.setCell (p := ⟨w.heap.size, 0, none⟩) (by simp) (.string ⟨S.toArray⟩)
    have hX : (⟨S.toArray⟩ : ByteArray).data.toList = S := rfl
    have hXs : (⟨S.toArray⟩ : ByteArray).size ≤ 64 := by show S.toArray.size ≤ 64; rw [List.size_toArray, HSl.out]; omega
    generalize w4.setCell ⟨w.heap.size, 0, none⟩ (.string ⟨S.toArray⟩) = w4' at *
    generalize (⟨S.toArray⟩ : ByteArray) = X at *
    have HXk := hide hX
    obtain ⟨B, hB⟩ : ∃ B, B = w.heap.size := ⟨_, rfl⟩
    have hBle : w.heap.size ≤ B := by omega
    rw [← hB] at x2 ⊢
    clear hX hB x5 f2 q2 s5 HzS hSum h64
    have HXl := hide (show X.data.toList.length ≤ 64 from hXs)
    have hmf : ∀ (fn : Fn) (first cap : Array Value) (w : World), (Instr.makeFunc fn first cap).run Tryd.prog w = .ok (.func fn first cap) w := fun _ _ _ _ => rfl
    obtain ⟨P1, hP1⟩ : ∃ P, Hid (padK X.data.toList 0x36 = P) := ⟨_, rfl⟩
    obtain ⟨P2, hP2⟩ : ∃ P, Hid (padK X.data.toList 0x5c = P) := ⟨_, rfl⟩
    have l1 : P1.length = 64 := by rw [← hP1.out, padK_len HXl.out]
    have l2 : P2.length = 64 := by rw [← hP2.out, padK_len HXl.out]
    have L1 := hide l1
    have L2 := hide l2
    have F1 := hide fun (w' : World) (h : Box w' B 9 [.string X]) => padded_at (c' := 54) (c := 0x36) rfl hP1.out X hXs B w' h
    have F2 := hide fun (w' : World) (h : Box w' B 9 [.string X]) => padded_at (c' := 92) (c := 0x5c) rfl hP2.out X hXs B w' h
    clear l1 l2 hXs
    go_wp2_with fail
    refine (Begin_at _).mono ?_
    rintro e w5 ⟨rfl, h5⟩
    have x2 := x2.under h5
    have b4 := b4.trans (h5.mono b4.size)
    clear h5
    go_wp2_with fail
    refine (F1.out _ x2).mono ?_
    rintro e w6 ⟨rfl, h6⟩
    have x2 := x2.under h6
    have b4 := b4.trans (h6.mono b4.size)
    clear h6
    go_wp2_with fail
    refine (add_at (m := []) (r := P1) rfl (by rw [L1.out]; omega) _ (hL0.out.below b4)).mono ?_
    rintro e w7 ⟨rfl, h7⟩
    have x2 := x2.under h7
    have b4 := b4.trans (h7.mono b4.size)
    clear h7
    go_wp2_with fail
    refine (add_at (m := P1) (r := P1 ++ text.data.toList) rfl (by rw [List.length_append, L1.out, HTL.out]; omega) _ (hL0.out.below b4)).mono ?_
    rintro e w8 ⟨rfl, h8⟩
    have x2 := x2.under h8
    have b4 := b4.trans (h8.mono b4.size)
    clear h8
    go_wp2_with fail
    refine (ssum_any (P1 ++ text.data.toList) (by rw [List.length_append, L1.out, HTL.out]; omega) _ (hL0.out.below b4)).mono ?_
    rintro e w9 ⟨rfl, h9⟩
    have x2 := x2.under h9
    have b4 := b4.trans (h9.mono b4.size)
    clear h9
    obtain ⟨I, hI⟩ : ∃ I, Hid (sha (P1 ++ text.data.toList) = I) := ⟨_, rfl⟩
    have hIl : I.length = 32 := by rw [← hI.out, sha_len]
    have HIl := hide hIl
    rw [hI.out]
    have hzI : (Tryd.prog.info? 24).map (·.size) = some (I.map B8).length := by rw [List.length_map, HIl.out]; exact size_32
    have HzI := hide hzI
    clear hIl hzI
    go_wp2_with (with_reducible refine hold_store ?_)
    refine hide ?_
    refine store_all 24 _ _ 24 w9.heap.size Z (I.map B8) (.agg (I.map B8).toArray) HzI.out (Box.new w9 _ _) (by rfl) (by rfl) rfl (by rw [List.length_map, HIl.out, HZl.out]) (one_map _ (fun _ => rfl) _) ?_
    intro w10 x7 hg10 hs10
    have hG : B < w9.heap.size := x2.lt
    have x2 := (x2.alloc (.cells Z.toArray 24)).grown hg10 (by simp; omega)
    have b4 := (b4.alloc (by omega) (.cells Z.toArray 24)).grown hg10 (by simp; omega) (fun k hk => by cases hk; omega)
    generalize w9.heap.size = G at *
    have hL10 := hL0.out.below b4
    clear hg10 hs10 h32 hmf
    go_wp2_with fail
    obtain ⟨FV, hFV⟩ : ∃ FV : Value, FV = .func (.func 31) #[] #[.pointer (some ⟨B, 0, none⟩)] := ⟨_, rfl⟩
    have HFV := hide hFV
    have hcat : P2 ++ I = P2 ++ I := rfl
    refine wp_region_free 9 [⟨0, 25, [25], fun vs _ => vs = [SV []]⟩, ⟨1, 26, [26], fun vs _ => vs = [FV]⟩, ⟨2, 27, [27], fun vs _ => vs = [.string ⟨P2.toArray⟩]⟩, ⟨3, 28, [28], fun vs _ => vs = [SV P2]⟩,
      ⟨4, 29, [29], fun vs _ => vs = [.slice (some ⟨G, 0, none⟩) 32 32]⟩, ⟨5, 30, [30], fun vs _ => vs = [.string ⟨I.toArray⟩]⟩, ⟨6, 31, [31], fun vs _ => vs = [SV (P2 ++ I)]⟩, ⟨7, 32, [32], fun vs _ => vs = [.agg ((sha (P2 ++ I)).map B8).toArray]⟩,
      ⟨8, 8, [8], fun vs w => ∃ g S, vs = [.pointer (some ⟨g, 0, none⟩)] ∧ Box w g 24 S ∧ S.length = 32 ∧ w10.heap.size ≤ g⟩] (by kernel_rfl) (by kernel_rfl) ?_ ?_ ?_
    · simp only [All]
      refine ⟨fun _ _ _ _ h => h, fun _ _ _ _ h => h, fun _ _ _ _ h => h, fun _ _ _ _ h => h, fun _ _ _ _ h => h, fun _ _ _ _ h => h, fun _ _ _ _ h => h, fun _ _ _ _ h => h, ?_, trivial⟩
      rintro vs w2 w3 hb ⟨g, S, h1, h2, h3⟩
      exact ⟨g, S, h1, h2.under hb, h3⟩
    · simp only [All]
      refine ⟨?_, ?_, ?_, ?_, ?_, ?_, ?_, ?_, ?_, trivial⟩
      · intro o ho a' w' hb hfr hdep
        obtain rfl := Option.some.inj ho
        clear ho hfr hdep hFV
        go_wp2_with fail
        refine (Begin_at _).mono ?_
        rintro e w2 ⟨rfl, h2⟩
        go_wp2_with fail
        exact ⟨rfl, _, rfl, h2, rfl⟩
      · intro o ho a' w' hb hfr hdep
        obtain rfl := Option.some.inj ho
        have g0 : a'.tmps[6]?.getD undef = FV := by rw [hFV]; have h := hfr 6 (by kernel_rfl); simpa using h
        clear ho hfr hdep hFV
        go_wp2_with fail
        exact ⟨rfl, _, rfl, Below.refl _ _, rfl⟩
      · intro o ho a' w' hb hfr hdep
        obtain rfl := Option.some.inj ho
        have g0 : a'.tmps[26]?.getD undef = .func (.func 31) #[] #[.pointer (some ⟨B, 0, none⟩)] := by rw [← hFV]; have h := hdep 1 _ rfl (by kernel_rfl); simpa using h
        clear ho hfr hdep hFV
        go_wp2_with fail
        refine (F2.out _ (x2.under hb)).mono ?_
        rintro e w2 ⟨rfl, h2⟩
        go_wp2_with fail
        exact ⟨rfl, _, rfl, h2, rfl⟩
      · intro o ho a' w' hb hfr hdep
        obtain rfl := Option.some.inj ho
        have g0 : a'.tmps[25]?.getD undef = SV [] := by have h := hdep 0 _ rfl (by kernel_rfl); simpa using h
        have g1 : a'.tmps[27]?.getD undef = .string ⟨P2.toArray⟩ := by have h := hdep 2 _ rfl (by kernel_rfl); simpa using h
        clear ho hfr hdep hFV
        go_wp2_with fail
        refine (add_at (m := []) (r := P2) rfl (by rw [L2.out]; omega) _ (hL10.below hb)).mono ?_
        rintro e w2 ⟨rfl, h2⟩
        go_wp2_with fail
        exact ⟨rfl, _, rfl, h2, rfl⟩
      · intro o ho a' w' hb hfr hdep
        obtain rfl := Option.some.inj ho
        have g0 : a'.tmps[7]?.getD undef = .pointer (some ⟨G, 0, none⟩) := by have h := hfr 7 (by kernel_rfl); simpa using h
        clear ho hfr hdep hFV
        refine cut_var 29 24 5 32 _ none none Tryd.underlying24 size_u8 G 0 (by simpa [Act.eval] using g0) 0 32 (.inl ⟨rfl, rfl⟩) (.inl ⟨rfl, rfl⟩) (by omega) (by omega) (by omega) ?_
        exact ⟨rfl, _, rfl, Below.refl _ _, rfl⟩
      · intro o ho a' w' hb hfr hdep
        obtain rfl := Option.some.inj ho
        have g0 : a'.tmps[29]?.getD undef = .slice (some ⟨G, 0, none⟩) 32 32 := by have h := hdep 4 _ rfl (by kernel_rfl); simpa using h
        clear ho hfr hdep hFV
        refine to_str 30 _ _ _ _ I (by simpa [Act.eval] using g0) ((x7.under hb).sl 0 32 32 1 (I.map B8) (by rw [List.length_map, HIl.out]) (Nat.le_refl _) (by decide) (fun j u h => by rw [Nat.zero_add]; exact h)) ?_
        exact ⟨rfl, _, rfl, Below.refl _ _, rfl⟩
      · intro o ho a' w' hb hfr hdep
        obtain rfl := Option.some.inj ho
        have g0 : a'.tmps[28]?.getD undef = SV P2 := by have h := hdep 3 _ rfl (by kernel_rfl); simpa using h
        have g1 : a'.tmps[30]?.getD undef = .string ⟨I.toArray⟩ := by have h := hdep 5 _ rfl (by kernel_rfl); simpa using h
        clear ho hfr hdep hFV
        go_wp2_with fail
        refine (add_at (m := P2) (r := P2 ++ I) rfl (by rw [List.length_append, L2.out, HIl.out]; omega) _ (hL10.below hb)).mono ?_
        rintro e w2 ⟨rfl, h2⟩
        go_wp2_with fail
        exact ⟨rfl, _, rfl, h2, rfl⟩
      · intro o ho a' w' hb hfr hdep
        obtain rfl := Option.some.inj ho
        have g0 : a'.tmps[31]?.getD undef = SV (P2 ++ I) := by have h := hdep 6 _ rfl (by kernel_rfl); simpa using h
        clear ho hfr hdep hFV
        go_wp2_with fail
        refine (ssum_any (P2 ++ I) (by rw [List.length_append, L2.out, HIl.out]; omega) _ (hL10.below hb)).mono ?_
        rintro e w2 ⟨rfl, h2⟩
        go_wp2_with fail
        exact ⟨rfl, _, rfl, h2, rfl⟩
      · intro o ho a' w' hb hfr hdep
        obtain rfl := Option.some.inj ho
        have h32 := zero_32
        rw [hZ.out] at h32
        clear ho hfr hdep hFV
        go_wp2_with fail
        exact ⟨rfl, _, rfl, (Below.refl _ _).alloc (Nat.le_refl _) _, _, rfl, Z, Box.new _ _ _, HZl.out, hb.size⟩
    · intro g w2 hb hp
      have p7 := hp 7 _ rfl
      obtain ⟨g8, S, p8, x8, hS, hg⟩ := hp 8 _ rfl
      clear hp
      simp at p7 p8
      simp only [List.map_cons, List.map_nil, putAll, Act.put, List.setIfInBounds_toArray, List.set_cons_succ, List.set_cons_zero, p7, p8]
      obtain ⟨R, hR⟩ : ∃ R, Hid (sha (P2 ++ I) = R) := ⟨_, rfl⟩
      have hRl : R.length = 32 := by rw [← hR.out, sha_len]
      have HRl := hide hRl
      rw [hR.out]
      have hzR : (Tryd.prog.info? 24).map (·.size) = some (R.map B8).length := by rw [List.length_map, HRl.out]; exact size_32
      refine store_all 24 _ _ 24 g8 S (R.map B8) (.agg (R.map B8).toArray) hzR x8 (by rfl) (by rfl) rfl (by rw [List.length_map, HRl.out, hS]) (one_map _ (fun _ => rfl) _) ?_
      intro w3 x9 hg3 hs3
      have hbs := b4.size
      have hws : w.heap.size ≤ g8 := by omega
      have b5 := (b4.trans (hb.mono hbs)).grown hg3 (Nat.le_trans hbs hb.size) (fun k hk => by cases hk; exact hws)
      have s9 := x9.sl 0 32 32 1 (R.map B8) (by rw [List.length_map, HRl.out]) (Nat.le_refl _) (by decide) (fun j u h => by rw [Nat.zero_add]; exact h)
      clear hbs hws hb hg hg3 hs3 p7 p8 hzR hRl hcat hFV
      go_wp2_with (first
        | (with_reducible refine cut_var 33 24 5 32 _ _ _ Tryd.underlying24 size_u8 g8 0 rfl 0 32 (.inl ⟨rfl, rfl⟩) (.inl ⟨rfl, rfl⟩) (by omega) (by omega) (by omega) ?_)
        | (with_reducible refine to_str 34 _ _ _ _ R rfl s9 ?_))
      go_ret
      exact ⟨by rw [HM.out _ HXk.out, hP1.out, hP2.out, hI.out, hR.out]; rfl, b5⟩
  · have hK : keyL key.data.toList = key.data.toList := by unfold keyL; rw [if_neg (by omega)]
    rw [hK] at HM
    clear hK hL
    go_enter Tryd.func18, Tryd.ntmps18
    go_wp2_with (with_reducible refine hold_mk ?_)
    refine hide ?_
    have b4 := b1
    obtain ⟨X, rfl⟩ : ∃ X, X = key := ⟨_, rfl⟩
    have hXs : X.size ≤ 64 := by omega
    generalize w.alloc (.cells #[.string X] 9) = w4' at *
    obtain ⟨B, hB⟩ : ∃ B, B = w.heap.size := ⟨_, rfl⟩
    have hBle : w.heap.size ≤ B := by omega
    rw [← hB] at x2 ⊢
    clear hB b1 hkl h64
    have HXl := hide (show X.data.toList.length ≤ 64 from hXs)
    have hmf : ∀ (fn : Fn) (first cap : Array Value) (w : World), (Instr.makeFunc fn first cap).run Tryd.prog w = .ok (.func fn first cap) w := fun _ _ _ _ => rfl
    obtain ⟨P1, hP1⟩ : ∃ P, Hid (padK X.data.toList 0x36 = P) := ⟨_, rfl⟩
    obtain ⟨P2, hP2⟩ : ∃ P, Hid (padK X.data.toList 0x5c = P) := ⟨_, rfl⟩
    have l1 : P1.length = 64 := by rw [← hP1.out, padK_len HXl.out]
    have l2 : P2.length = 64 := by rw [← hP2.out, padK_len HXl.out]
    have L1 := hide l1
    have L2 := hide l2
    have F1 := hide fun (w' : World) (h : Box w' B 9 [.string X]) => padded_at (c' := 54) (c := 0x36) rfl hP1.out X hXs B w' h
    have F2 := hide fun (w' : World) (h : Box w' B 9 [.string X]) => padded_at (c' := 92) (c := 0x5c) rfl hP2.out X hXs B w' h
    clear l1 l2 hXs
    go_wp2_with fail
    refine (Begin_at _).mono ?_
    rintro e w5 ⟨rfl, h5⟩
    have x2 := x2.under h5
    have b4 := b4.trans (h5.mono b4.size)
    clear h5
    go_wp2_with fail
    refine (F1.out _ x2).mono ?_
    rintro e w6 ⟨rfl, h6⟩
    have x2 := x2.under h6
    have b4 := b4.trans (h6.mono b4.size)
    clear h6
    go_wp2_with fail
    refine (add_at (m := []) (r := P1) rfl (by rw [L1.out]; omega) _ (hL0.out.below b4)).mono ?_
    rintro e w7 ⟨rfl, h7⟩
    have x2 := x2.under h7
    have b4 := b4.trans (h7.mono b4.size)
    clear h7
    go_wp2_with fail
    refine (add_at (m := P1) (r := P1 ++ text.data.toList) rfl (by rw [List.length_append, L1.out, HTL.out]; omega) _ (hL0.out.below b4)).mono ?_
    rintro e w8 ⟨rfl, h8⟩
    have x2 := x2.under h8
    have b4 := b4.trans (h8.mono b4.size)
    clear h8
    go_wp2_with fail
    refine (ssum_any (P1 ++ text.data.toList) (by rw [List.length_append, L1.out, HTL.out]; omega) _ (hL0.out.below b4)).mono ?_
    rintro e w9 ⟨rfl, h9⟩
    have x2 := x2.under h9
    have b4 := b4.trans (h9.mono b4.size)
    clear h9
    obtain ⟨I, hI⟩ : ∃ I, Hid (sha (P1 ++ text.data.toList) = I) := ⟨_, rfl⟩
    have hIl : I.length = 32 := by rw [← hI.out, sha_len]
    have HIl := hide hIl
    rw [hI.out]
    have hzI : (Tryd.prog.info? 24).map (·.size) = some (I.map B8).length := by rw [List.length_map, HIl.out]; exact size_32
    have HzI := hide hzI
    clear hIl hzI
    go_wp2_with (with_reducible refine hold_store ?_)
    refine hide ?_
    refine store_all 24 _ _ 24 w9.heap.size Z (I.map B8) (.agg (I.map B8).toArray) HzI.out (Box.new w9 _ _) (by rfl) (by rfl) rfl (by rw [List.length_map, HIl.out, HZl.out]) (one_map _ (fun _ => rfl) _) ?_
    intro w10 x7 hg10 hs10
    have hG : B < w9.heap.size := x2.lt
    have x2 := (x2.alloc (.cells Z.toArray 24)).grown hg10 (by simp; omega)
    have b4 := (b4.alloc (by omega) (.cells Z.toArray 24)).grown hg10 (by simp; omega) (fun k hk => by cases hk; omega)
    generalize w9.heap.size = G at *
    have hL10 := hL0.out.below b4
    clear hg10 hs10 h32 hmf
    go_wp2_with fail
    obtain ⟨FV, hFV⟩ : ∃ FV : Value, FV = .func (.func 31) #[] #[.pointer (some ⟨B, 0, none⟩)] := ⟨_, rfl⟩
    have HFV := hide hFV
    have hcat : P2 ++ I = P2 ++ I := rfl
    refine wp_region_free 9 [⟨0, 25, [25], fun vs _ => vs = [SV []]⟩, ⟨1, 26, [26], fun vs _ => vs = [FV]⟩, ⟨2, 27, [27], fun vs _ => vs = [.string ⟨P2.toArray⟩]⟩, ⟨3, 28, [28], fun vs _ => vs = [SV P2]⟩,
      ⟨4, 29, [29], fun vs _ => vs = [.slice (some ⟨G, 0, none⟩) 32 32]⟩, ⟨5, 30, [30], fun vs _ => vs = [.string ⟨I.toArray⟩]⟩, ⟨6, 31, [31], fun vs _ => vs = [SV (P2 ++ I)]⟩, ⟨7, 32, [32], fun vs _ => vs = [.agg ((sha (P2 ++ I)).map B8).toArray]⟩,
      ⟨8, 8, [8], fun vs w => ∃ g S, vs = [.pointer (some ⟨g, 0, none⟩)] ∧ Box w g 24 S ∧ S.length = 32 ∧ w10.heap.size ≤ g⟩] (by kernel_rfl) (by kernel_rfl) ?_ ?_ ?_
    · simp only [All]
      refine ⟨fun _ _ _ _ h => h, fun _ _ _ _ h => h, fun _ _ _ _ h => h, fun _ _ _ _ h => h, fun _ _ _ _ h => h, fun _ _ _ _ h => h, fun _ _ _ _ h => h, fun _ _ _ _ h => h, ?_, trivial⟩
      rintro vs w2 w3 hb ⟨g, S, h1, h2, h3⟩
      exact ⟨g, S, h1, h2.under hb, h3⟩
    · simp only [All]
      refine ⟨?_, ?_, ?_, ?_, ?_, ?_, ?_, ?_, ?_, trivial⟩
      · intro o ho a' w' hb hfr hdep
        obtain rfl := Option.some.inj ho
        clear ho hfr hdep hFV
        go_wp2_with fail
        refine (Begin_at _).mono ?_
        rintro e w2 ⟨rfl, h2⟩
        go_wp2_with fail
        exact ⟨rfl, _, rfl, h2, rfl⟩
      · intro o ho a' w' hb hfr hdep
        obtain rfl := Option.some.inj ho
        have g0 : a'.tmps[6]?.getD undef = FV := by rw [hFV]; have h := hfr 6 (by kernel_rfl); simpa using h
        clear ho hfr hdep hFV
        go_wp2_with fail
        exact ⟨rfl, _, rfl, Below.refl _ _, rfl⟩
      · intro o ho a' w' hb hfr hdep
        obtain rfl := Option.some.inj ho
        have g0 : a'.tmps[26]?.getD undef = .func (.func 31) #[] #[.pointer (some ⟨B, 0, none⟩)] := by rw [← hFV]; have h := hdep 1 _ rfl (by kernel_rfl); simpa using h
        clear ho hfr hdep hFV
        go_wp2_with fail
        refine (F2.out _ (x2.under hb)).mono ?_
        rintro e w2 ⟨rfl, h2⟩
        go_wp2_with fail
        exact ⟨rfl, _, rfl, h2, rfl⟩
      · intro o ho a' w' hb hfr hdep
        obtain rfl := Option.some.inj ho
        have g0 : a'.tmps[25]?.getD undef = SV [] := by have h := hdep 0 _ rfl (by kernel_rfl); simpa using h
        have g1 : a'.tmps[27]?.getD undef = .string ⟨P2.toArray⟩ := by have h := hdep 2 _ rfl (by kernel_rfl); simpa using h
        clear ho hfr hdep hFV
        go_wp2_with fail
        refine (add_at (m := []) (r := P2) rfl (by rw [L2.out]; omega) _ (hL10.below hb)).mono ?_
        rintro e w2 ⟨rfl, h2⟩
        go_wp2_with fail
        exact ⟨rfl, _, rfl, h2, rfl⟩
      · intro o ho a' w' hb hfr hdep
        obtain rfl := Option.some.inj ho
        have g0 : a'.tmps[7]?.getD undef = .pointer (some ⟨G, 0, none⟩) := by have h := hfr 7 (by kernel_rfl); simpa using h
        clear ho hfr hdep hFV
        refine cut_var 29 24 5 32 _ none none Tryd.underlying24 size_u8 G 0 (by simpa [Act.eval] using g0) 0 32 (.inl ⟨rfl, rfl⟩) (.inl ⟨rfl, rfl⟩) (by omega) (by omega) (by omega) ?_
        exact ⟨rfl, _, rfl, Below.refl _ _, rfl⟩
      · intro o ho a' w' hb hfr hdep
        obtain rfl := Option.some.inj ho
        have g0 : a'.tmps[29]?.getD undef = .slice (some ⟨G, 0, none⟩) 32 32 := by have h := hdep 4 _ rfl (by kernel_rfl); simpa using h
        clear ho hfr hdep hFV
        refine to_str 30 _ _ _ _ I (by simpa [Act.eval] using g0) ((x7.under hb).sl 0 32 32 1 (I.map B8) (by rw [List.length_map, HIl.out]) (Nat.le_refl _) (by decide) (fun j u h => by rw [Nat.zero_add]; exact h)) ?_
        exact ⟨rfl, _, rfl, Below.refl _ _, rfl⟩
      · intro o ho a' w' hb hfr hdep
        obtain rfl := Option.some.inj ho
        have g0 : a'.tmps[28]?.getD undef = SV P2 := by have h := hdep 3 _ rfl (by kernel_rfl); simpa using h
        have g1 : a'.tmps[30]?.getD undef = .string ⟨I.toArray⟩ := by have h := hdep 5 _ rfl (by kernel_rfl); simpa using h
        clear ho hfr hdep hFV
        go_wp2_with fail
        refine (add_at (m := P2) (r := P2 ++ I) rfl (by rw [List.length_append, L2.out, HIl.out]; omega) _ (hL10.below hb)).mono ?_
        rintro e w2 ⟨rfl, h2⟩
        go_wp2_with fail
        exact ⟨rfl, _, rfl, h2, rfl⟩
      · intro o ho a' w' hb hfr hdep
        obtain rfl := Option.some.inj ho
        have g0 : a'.tmps[31]?.getD undef = SV (P2 ++ I) := by have h := hdep 6 _ rfl (by kernel_rfl); simpa using h
        clear ho hfr hdep hFV
        go_wp2_with fail
        refine (ssum_any (P2 ++ I) (by rw [List.length_append, L2.out, HIl.out]; omega) _ (hL10.below hb)).mono ?_
        rintro e w2 ⟨rfl, h2⟩
        go_wp2_with fail
        exact ⟨rfl, _, rfl, h2, rfl⟩
      · intro o ho a' w' hb hfr hdep
        obtain rfl := Option.some.inj ho
        have h32 := zero_32
        rw [hZ.out] at h32
        clear ho hfr hdep hFV
        go_wp2_with fail
        exact ⟨rfl, _, rfl, (Below.refl _ _).alloc (Nat.le_refl _) _, _, rfl, Z, Box.new _ _ _, HZl.out, hb.size⟩
    · intro g w2 hb hp
      have p7 := hp 7 _ rfl
      obtain ⟨g8, S, p8, x8, hS, hg⟩ := hp 8 _ rfl
      clear hp
      simp at p7 p8
      simp only [List.map_cons, List.map_nil, putAll, Act.put, List.setIfInBounds_toArray, List.set_cons_succ, List.set_cons_zero, p7, p8]
      obtain ⟨R, hR⟩ : ∃ R, Hid (sha (P2 ++ I) = R) := ⟨_, rfl⟩
      have hRl : R.length = 32 := by rw [← hR.out, sha_len]
      have HRl := hide hRl
      rw [hR.out]
      have hzR : (Tryd.prog.info? 24).map (·.size) = some (R.map B8).length := by rw [List.length_map, HRl.out]; exact size_32
      refine store_all 24 _ _ 24 g8 S (R.map B8) (.agg (R.map B8).toArray) hzR x8 (by rfl) (by rfl) rfl (by rw [List.length_map, HRl.out, hS]) (one_map _ (fun _ => rfl) _) ?_
      intro w3 x9 hg3 hs3
      have hbs := b4.size
      have hws : w.heap.size ≤ g8 := by omega
      have b5 := (b4.trans (hb.mono hbs)).grown hg3 (Nat.le_trans hbs hb.size) (fun k hk => by cases hk; exact hws)
      have s9 := x9.sl 0 32 32 1 (R.map B8) (by rw [List.length_map, HRl.out]) (Nat.le_refl _) (by decide) (fun j u h => by rw [Nat.zero_add]; exact h)
      clear hbs hws hb hg hg3 hs3 p7 p8 hzR hRl hcat hFV
      go_wp2_with (first
        | (with_reducible refine cut_var 33 24 5 32 _ _ _ Tryd.underlying24 size_u8 g8 0 rfl 0 32 (.inl ⟨rfl, rfl⟩) (.inl ⟨rfl, rfl⟩) (by omega) (by omega) (by omega) ?_)
        | (with_reducible refine to_str 34 _ _ _ _ R rfl s9 ?_))
      go_ret
      exact ⟨by rw [HM.out _ rfl, hP1.out, hP2.out, hI.out, hR.out]; rfl, b5⟩
end Go.Proofs.YtalicdpocgomkaaDoor
