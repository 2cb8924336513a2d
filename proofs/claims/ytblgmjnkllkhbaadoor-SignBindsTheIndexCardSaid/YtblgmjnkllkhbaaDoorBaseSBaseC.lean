/- The contracts of the functions that the law reaches, joined into one text. -/
import Derived.Test.YtblgmjnkllkhbaaDoorBaseSBaseB
import Derived.Lib.SlBytesConst
import Derived.Lib.Strings
import Derived.WideShapes
import Derived.SizedLaws
import Derived.Shelf.Strings.Builder1
import Derived.Test.YtblgmjnkllkhbaaDoorProg
set_option linter.unusedVariables false
set_option linter.unusedSimpArgs false

/- the text Hash18 -/
section
namespace Go.Proofs.YtblgmjnkllkhbaaDoor
open Go.RowKit Go.Dx

theorem padded_at {c' : Int} {c : UInt8} (hc : (c.toNat : Int) = c') {r : List UInt8} {key : ByteArray} (hr : padK key.data.toList c = r) (X : ByteArray) (hX : X.size ≤ 64) (B : Nat) (w : World) (hB : Box w B 9 [.string X]) (hXk : X = key := by rfl) :
    Calls Tryd.prog 62 #[.int .u8 c', .pointer (some ⟨B, 0, none⟩)] w fun e w' => e = .returned (.string ⟨r.toArray⟩) ∧ Below w.heap.size w w' := by
  subst hXk hr hc
  exact padded_fn c X hX B w hB
theorem mac_eq {k t : List UInt8} {X : ByteArray} (h : X.data.toList = keyL k) : macL k t = sha (padK X.data.toList 0x5c ++ sha (padK X.data.toList 0x36 ++ t)) := by unfold macL; rw [h]
/-- the walk stops ahead of 'makeFunc' -/
theorem hold_mk {P : Program} {w : World} {ops : Array Oper} {rest : List Oper} {act : Act} {Q : Exit → Act → World → Prop} {dst : Option Tmp} {ty : TypeId} {fn : Fn} {xs ys : Array Operand} {pos : String} {after : Array Edge} {g : Option (Nat × Bool)}
    (h : Hid (wpList P ops Q ({ dst := dst, op := .makeFunc fn xs ys, type := ty, pos := pos, after := after, guard := g } :: rest) act w)) :
    wpList P ops Q ({ dst := dst, op := .makeFunc fn xs ys, type := ty, pos := pos, after := after, guard := g } :: rest) act w := h
set_option maxRecDepth 100000 in
set_option maxHeartbeats 4000000 in
theorem mac_any (key text : ByteArray) (hk : key.size ≤ 100000) (ht : text.size ≤ 100000) (w : World) (hL : Laid w) :
    Calls Tryd.prog 49 #[.string key, .string text] w fun e w' => e = .returned (.string ⟨(macL key.data.toList text.data.toList).toArray⟩) ∧ Below w.heap.size w w' := by
  have hkl : key.data.toList.length = key.size := Array.length_toList
  have htl : text.data.toList.length = text.size := Array.length_toList
  have HTL := hide htl
  have HM := hide fun (X : ByteArray) (h : X.data.toList = keyL key.data.toList) => mac_eq (t := text.data.toList) h
  have h32 := zero_32
  obtain ⟨Z, hZ⟩ : ∃ Z, Hid (zero32.map B8 = Z) := ⟨_, rfl⟩
  rw [hZ.out] at h32
  have hZl : Z.length = 32 := by rw [← hZ.out, zero32_len]
  have HZl := hide hZl
  have hL0 := hide hL
  clear hZl htl
  have x2 : Box (w.alloc (.cells #[.string key] 9)) w.heap.size 9 [.string key] := Box.new w _ _
  have b1 : Below w.heap.size w (w.alloc (.cells #[.string key] 9)) := (Below.refl _ _).alloc (Nat.le_refl _) _
  by_cases h64 : 64 < key.size
  · have hK : keyL key.data.toList = sha key.data.toList := by unfold keyL; rw [if_pos (by omega)]
    rw [hK] at HM
    obtain ⟨S, hS⟩ : ∃ S, Hid (sha key.data.toList = S) := ⟨_, rfl⟩
    have hSl : S.length = 32 := by rw [← hS.out, sha_len]
    have HSl := hide hSl
    have hSum := hide (hsum_any key.data.toList (by omega))
    rw [hS.out] at hSum HM
    have hzS : (Tryd.prog.info? 89).map (·.size) = some (S.map B8).length := by rw [List.length_map, HSl.out]; exact size_32
    have HzS := hide hzS
    clear hK hSl hkl hzS hL
    go_enter Tryd.func49, Tryd.ntmps49
    go_wp2_with (with_reducible refine to_bytes 13 _ key rfl (by unfold maxLen; omega) ?_; intro a2 c2 w2 s2 hb2 hp2)
    have x2 := x2.under hb2
    have b2 := b1.trans (hb2.mono b1.size)
    clear b1
    refine (hSum.out _ _ _ _ (hL0.out.below b2) s2).mono ?_
    rintro e w3 ⟨rfl, h3⟩
    have x2 := x2.under h3
    have b3 := b2.trans (h3.mono b2.size)
    clear h3 hb2 hp2 s2 b2
    go_wp2_with (with_reducible refine hold_store ?_)
    refine hide ?_
    refine store_all 89 _ _ 89 w3.heap.size Z (S.map B8) (.agg (S.map B8).toArray) HzS.out (Box.new w3 _ _) (by rfl) (by rfl) rfl (by rw [List.length_map, HSl.out, HZl.out]) (one_map _ (fun _ => rfl) _) ?_
    intro w4 x5 hg4 hs4
    have hlt := x2.lt
    have x2 := (x2.alloc (.cells Z.toArray 89)).grown hg4 (by simp; omega)
    have b4 := (b3.alloc (by omega) (.cells Z.toArray 89)).grown hg4 (by simp; omega) (fun k hk => by cases hk; omega)
    have f2 := x2.free 0
    have q2 : w4.cell? ⟨w.heap.size, 0, none⟩ = some (.string key) := x2.at_ rfl
    have s5 := x5.sl 0 32 32 1 (S.map B8) (by rw [List.length_map, HSl.out]) (Nat.le_refl _) (by decide) (fun j u h => by rw [Nat.zero_add]; exact h)
    clear hlt hg4 hs4 b3
    generalize w3.heap.size = G3 at *
    go_wp2_with (first
      | (with_reducible refine cut_var 15 89 5 32 _ _ _ Tryd.underlying89 size_u8 G3 0 rfl 0 32 (.inl ⟨rfl, rfl⟩) (.inl ⟨rfl, rfl⟩) (by omega) (by omega) (by omega) ?_)
      | (with_reducible refine to_str 16 _ _ _ _ S rfl s5 ?_)
      | (with_reducible refine hold_mk ?_))
    refine hide ?_
    have x2 : Box (w4.setCell ⟨w.heap.size, 0, none⟩ (.string ⟨S.toArray⟩)) w.heap.size 9 [.string ⟨S.toArray⟩] := x2.put 0 _
    have b4 := b4.setCell (p := ⟨w.heap.size, 0, none⟩) (by simp) (.string ⟨S.toArray⟩)
    have hX : (⟨S.toArray⟩ : ByteArray).data.toList = S := rfl
    have hXs : (⟨S.toArray⟩ : ByteArray).size ≤ 64 := by show S.toArray.size ≤ 64; rw [List.size_toArray, HSl.out]; omega
    generalize w4.setCell ⟨w.heap.size, 0, none⟩ (.string ⟨S.toArray⟩) = w4' at *
    generalize (⟨S.toArray⟩ : ByteArray) = X at *
    have HXk := hide hX
    obtain ⟨B, hB⟩ : ∃ B, B = w.heap.size := ⟨_, rfl⟩
    have hBle : w.heap.size ≤ B := by omega
    rw [← hB] at x2 ⊢
    clear hX hB x5 f2 q2 s5 HzS hSum h64
    have HXl := hide (show X.data.toList.length ≤ 64 from hXs)
    have hmf : ∀ (fn : Fn) (first cap : Array Value) (w : World), (Instr.makeFunc fn first cap).run Tryd.prog w = .ok (.func fn first cap) w := fun _ _ _ _ => rfl
    obtain ⟨P1, hP1⟩ : ∃ P, Hid (padK X.data.toList 0x36 = P) := ⟨_, rfl⟩
    obtain ⟨P2, hP2⟩ : ∃ P, Hid (padK X.data.toList 0x5c = P) := ⟨_, rfl⟩
    have l1 : P1.length = 64 := by rw [← hP1.out, padK_len HXl.out]
    have l2 : P2.length = 64 := by rw [← hP2.out, padK_len HXl.out]
    have L1 := hide l1
    have L2 := hide l2
    have F1 := hide fun (w' : World) (h : Box w' B 9 [.string X]) => padded_at (c' := 54) (c := 0x36) rfl hP1.out X hXs B w' h
    have F2 := hide fun (w' : World) (h : Box w' B 9 [.string X]) => padded_at (c' := 92) (c := 0x5c) rfl hP2.out X hXs B w' h
    clear l1 l2 hXs
    go_wp2_with fail
    refine (Begin_at _).mono ?_
    rintro e w5 ⟨rfl, h5⟩
    have x2 := x2.under h5
    have b4 := b4.trans (h5.mono b4.size)
    clear h5
    go_wp2_with fail
    refine (F1.out _ x2).mono ?_
    rintro e w6 ⟨rfl, h6⟩
    have x2 := x2.under h6
    have b4 := b4.trans (h6.mono b4.size)
    clear h6
    go_wp2_with fail
    refine (add_at (m := []) (r := P1) rfl (by rw [L1.out]; omega) _ (hL0.out.below b4)).mono ?_
    rintro e w7 ⟨rfl, h7⟩
    have x2 := x2.under h7
    have b4 := b4.trans (h7.mono b4.size)
    clear h7
    go_wp2_with fail
    refine (add_at (m := P1) (r := P1 ++ text.data.toList) rfl (by rw [List.length_append, L1.out, HTL.out]; omega) _ (hL0.out.below b4)).mono ?_
    rintro e w8 ⟨rfl, h8⟩
    have x2 := x2.under h8
    have b4 := b4.trans (h8.mono b4.size)
    clear h8
    go_wp2_with fail
    refine (ssum_any (P1 ++ text.data.toList) (by rw [List.length_append, L1.out, HTL.out]; omega) _ (hL0.out.below b4)).mono ?_
    rintro e w9 ⟨rfl, h9⟩
    have x2 := x2.under h9
    have b4 := b4.trans (h9.mono b4.size)
    clear h9
    obtain ⟨I, hI⟩ : ∃ I, Hid (sha (P1 ++ text.data.toList) = I) := ⟨_, rfl⟩
    have hIl : I.length = 32 := by rw [← hI.out, sha_len]
    have HIl := hide hIl
    rw [hI.out]
    have hzI : (Tryd.prog.info? 89).map (·.size) = some (I.map B8).length := by rw [List.length_map, HIl.out]; exact size_32
    have HzI := hide hzI
    clear hIl hzI
    go_wp2_with (with_reducible refine hold_store ?_)
    refine hide ?_
    refine store_all 89 _ _ 89 w9.heap.size Z (I.map B8) (.agg (I.map B8).toArray) HzI.out (Box.new w9 _ _) (by rfl) (by rfl) rfl (by rw [List.length_map, HIl.out, HZl.out]) (one_map _ (fun _ => rfl) _) ?_
    intro w10 x7 hg10 hs10
    have hG : B < w9.heap.size := x2.lt
    have x2 := (x2.alloc (.cells Z.toArray 89)).grown hg10 (by simp; omega)
    have b4 := (b4.alloc (by omega) (.cells Z.toArray 89)).grown hg10 (by simp; omega) (fun k hk => by cases hk; omega)
    generalize w9.heap.size = G at *
    have hL10 := hL0.out.below b4
    clear hg10 hs10 h32 hmf
    go_wp2_with fail
    obtain ⟨FV, hFV⟩ : ∃ FV : Value, FV = .func (.func 62) #[] #[.pointer (some ⟨B, 0, none⟩)] := ⟨_, rfl⟩
    have HFV := hide hFV
    have hcat : P2 ++ I = P2 ++ I := rfl
    refine wp_region_free 9 [⟨0, 25, [25], fun vs _ => vs = [SV []]⟩, ⟨1, 26, [26], fun vs _ => vs = [FV]⟩, ⟨2, 27, [27], fun vs _ => vs = [.string ⟨P2.toArray⟩]⟩, ⟨3, 28, [28], fun vs _ => vs = [SV P2]⟩,
      ⟨4, 29, [29], fun vs _ => vs = [.slice (some ⟨G, 0, none⟩) 32 32]⟩, ⟨5, 30, [30], fun vs _ => vs = [.string ⟨I.toArray⟩]⟩, ⟨6, 31, [31], fun vs _ => vs = [SV (P2 ++ I)]⟩, ⟨7, 32, [32], fun vs _ => vs = [.agg ((sha (P2 ++ I)).map B8).toArray]⟩,
      ⟨8, 8, [8], fun vs w => ∃ g S, vs = [.pointer (some ⟨g, 0, none⟩)] ∧ Box w g 89 S ∧ S.length = 32 ∧ w10.heap.size ≤ g⟩] (by kernel_rfl) (by kernel_rfl) ?_ ?_ ?_
    · simp only [All]
      refine ⟨fun _ _ _ _ h => h, fun _ _ _ _ h => h, fun _ _ _ _ h => h, fun _ _ _ _ h => h, fun _ _ _ _ h => h, fun _ _ _ _ h => h, fun _ _ _ _ h => h, fun _ _ _ _ h => h, ?_, trivial⟩
      rintro vs w2 w3 hb ⟨g, S, h1, h2, h3⟩
      exact ⟨g, S, h1, h2.under hb, h3⟩
    · simp only [All]
      refine ⟨?_, ?_, ?_, ?_, ?_, ?_, ?_, ?_, ?_, trivial⟩
      · intro o ho a' w' hb hfr hdep
        obtain rfl := Option.some.inj ho
        clear ho hfr hdep hFV
        go_wp2_with fail
        refine (Begin_at _).mono ?_
        rintro e w2 ⟨rfl, h2⟩
        go_wp2_with fail
        exact ⟨rfl, _, rfl, h2, rfl⟩
      · intro o ho a' w' hb hfr hdep
        obtain rfl := Option.some.inj ho
        have g0 : a'.tmps[6]?.getD undef = FV := by rw [hFV]; have h := hfr 6 (by kernel_rfl); simpa using h
        clear ho hfr hdep hFV
        go_wp2_with fail
        exact ⟨rfl, _, rfl, Below.refl _ _, rfl⟩
      · intro o ho a' w' hb hfr hdep
        obtain rfl := Option.some.inj ho
        have g0 : a'.tmps[26]?.getD undef = .func (.func 62) #[] #[.pointer (some ⟨B, 0, none⟩)] := by rw [← hFV]; have h := hdep 1 _ rfl (by kernel_rfl); simpa using h
        clear ho hfr hdep hFV
        go_wp2_with fail
        refine (F2.out _ (x2.under hb)).mono ?_
        rintro e w2 ⟨rfl, h2⟩
        go_wp2_with fail
        exact ⟨rfl, _, rfl, h2, rfl⟩
      · intro o ho a' w' hb hfr hdep
        obtain rfl := Option.some.inj ho
        have g0 : a'.tmps[25]?.getD undef = SV [] := by have h := hdep 0 _ rfl (by kernel_rfl); simpa using h
        have g1 : a'.tmps[27]?.getD undef = .string ⟨P2.toArray⟩ := by have h := hdep 2 _ rfl (by kernel_rfl); simpa using h
        clear ho hfr hdep hFV
        go_wp2_with fail
        refine (add_at (m := []) (r := P2) rfl (by rw [L2.out]; omega) _ (hL10.below hb)).mono ?_
        rintro e w2 ⟨rfl, h2⟩
        go_wp2_with fail
        exact ⟨rfl, _, rfl, h2, rfl⟩
      · intro o ho a' w' hb hfr hdep
        obtain rfl := Option.some.inj ho
        have g0 : a'.tmps[7]?.getD undef = .pointer (some ⟨G, 0, none⟩) := by have h := hfr 7 (by kernel_rfl); simpa using h
        clear ho hfr hdep hFV
        refine cut_var 29 89 5 32 _ none none Tryd.underlying89 size_u8 G 0 (by simpa [Act.eval] using g0) 0 32 (.inl ⟨rfl, rfl⟩) (.inl ⟨rfl, rfl⟩) (by omega) (by omega) (by omega) ?_
        exact ⟨rfl, _, rfl, Below.refl _ _, rfl⟩
      · intro o ho a' w' hb hfr hdep
        obtain rfl := Option.some.inj ho
        have g0 : a'.tmps[29]?.getD undef = .slice (some ⟨G, 0, none⟩) 32 32 := by have h := hdep 4 _ rfl (by kernel_rfl); simpa using h
        clear ho hfr hdep hFV
        refine to_str 30 _ _ _ _ I (by simpa [Act.eval] using g0) ((x7.under hb).sl 0 32 32 1 (I.map B8) (by rw [List.length_map, HIl.out]) (Nat.le_refl _) (by decide) (fun j u h => by rw [Nat.zero_add]; exact h)) ?_
        exact ⟨rfl, _, rfl, Below.refl _ _, rfl⟩
      · intro o ho a' w' hb hfr hdep
        obtain rfl := Option.some.inj ho
        have g0 : a'.tmps[28]?.getD undef = SV P2 := by have h := hdep 3 _ rfl (by kernel_rfl); simpa using h
        have g1 : a'.tmps[30]?.getD undef = .string ⟨I.toArray⟩ := by have h := hdep 5 _ rfl (by kernel_rfl); simpa using h
        clear ho hfr hdep hFV
        go_wp2_with fail
        refine (add_at (m := P2) (r := P2 ++ I) rfl (by rw [List.length_append, L2.out, HIl.out]; omega) _ (hL10.below hb)).mono ?_
        rintro e w2 ⟨rfl, h2⟩
        go_wp2_with fail
        exact ⟨rfl, _, rfl, h2, rfl⟩
      · intro o ho a' w' hb hfr hdep
        obtain rfl := Option.some.inj ho
        have g0 : a'.tmps[31]?.getD undef = SV (P2 ++ I) := by have h := hdep 6 _ rfl (by kernel_rfl); simpa using h
        clear ho hfr hdep hFV
        go_wp2_with fail
        refine (ssum_any (P2 ++ I) (by rw [List.length_append, L2.out, HIl.out]; omega) _ (hL10.below hb)).mono ?_
        rintro e w2 ⟨rfl, h2⟩
        go_wp2_with fail
        exact ⟨rfl, _, rfl, h2, rfl⟩
      · intro o ho a' w' hb hfr hdep
        obtain rfl := Option.some.inj ho
        have h32 := zero_32
        rw [hZ.out] at h32
        clear ho hfr hdep hFV
        go_wp2_with fail
        exact ⟨rfl, _, rfl, (Below.refl _ _).alloc (Nat.le_refl _) _, _, rfl, Z, Box.new _ _ _, HZl.out, hb.size⟩
    · intro g w2 hb hp
      have p7 := hp 7 _ rfl
      obtain ⟨g8, S, p8, x8, hS, hg⟩ := hp 8 _ rfl
      clear hp
      simp at p7 p8
      simp only [List.map_cons, List.map_nil, putAll, Act.put, List.setIfInBounds_toArray, List.set_cons_succ, List.set_cons_zero, p7, p8]
      obtain ⟨R, hR⟩ : ∃ R, Hid (sha (P2 ++ I) = R) := ⟨_, rfl⟩
      have hRl : R.length = 32 := by rw [← hR.out, sha_len]
      have HRl := hide hRl
      rw [hR.out]
      have hzR : (Tryd.prog.info? 89).map (·.size) = some (R.map B8).length := by rw [List.length_map, HRl.out]; exact size_32
      refine store_all 89 _ _ 89 g8 S (R.map B8) (.agg (R.map B8).toArray) hzR x8 (by rfl) (by rfl) rfl (by rw [List.length_map, HRl.out, hS]) (one_map _ (fun _ => rfl) _) ?_
      intro w3 x9 hg3 hs3
      have hbs := b4.size
      have hws : w.heap.size ≤ g8 := by omega
      have b5 := (b4.trans (hb.mono hbs)).grown hg3 (Nat.le_trans hbs hb.size) (fun k hk => by cases hk; exact hws)
      have s9 := x9.sl 0 32 32 1 (R.map B8) (by rw [List.length_map, HRl.out]) (Nat.le_refl _) (by decide) (fun j u h => by rw [Nat.zero_add]; exact h)
      clear hbs hws hb hg hg3 hs3 p7 p8 hzR hRl hcat hFV
      go_wp2_with (first
        | (with_reducible refine cut_var 33 89 5 32 _ _ _ Tryd.underlying89 size_u8 g8 0 rfl 0 32 (.inl ⟨rfl, rfl⟩) (.inl ⟨rfl, rfl⟩) (by omega) (by omega) (by omega) ?_)
        | (with_reducible refine to_str 34 _ _ _ _ R rfl s9 ?_))
      go_ret
      exact ⟨by rw [HM.out _ HXk.out, hP1.out, hP2.out, hI.out, hR.out]; rfl, b5⟩
  · have hK : keyL key.data.toList = key.data.toList := by unfold keyL; rw [if_neg (by omega)]
    rw [hK] at HM
    clear hK hL
    go_enter Tryd.func49, Tryd.ntmps49
    go_wp2_with (with_reducible refine hold_mk ?_)
    refine hide ?_
    have b4 := b1
    obtain ⟨X, rfl⟩ : ∃ X, X = key := ⟨_, rfl⟩
    have hXs : X.size ≤ 64 := by omega
    generalize w.alloc (.cells #[.string X] 9) = w4' at *
    obtain ⟨B, hB⟩ : ∃ B, B = w.heap.size := ⟨_, rfl⟩
    have hBle : w.heap.size ≤ B := by omega
    rw [← hB] at x2 ⊢
    clear hB b1 hkl h64
    have HXl := hide (show X.data.toList.length ≤ 64 from hXs)
    have hmf : ∀ (fn : Fn) (first cap : Array Value) (w : World), (Instr.makeFunc fn first cap).run Tryd.prog w = .ok (.func fn first cap) w := fun _ _ _ _ => rfl
    obtain ⟨P1, hP1⟩ : ∃ P, Hid (padK X.data.toList 0x36 = P) := ⟨_, rfl⟩
    obtain ⟨P2, hP2⟩ : ∃ P, Hid (padK X.data.toList 0x5c = P) := ⟨_, rfl⟩
    have l1 : P1.length = 64 := by rw [← hP1.out, padK_len HXl.out]
    have l2 : P2.length = 64 := by rw [← hP2.out, padK_len HXl.out]
    have L1 := hide l1
    have L2 := hide l2
    have F1 := hide fun (w' : World) (h : Box w' B 9 [.string X]) => padded_at (c' := 54) (c := 0x36) rfl hP1.out X hXs B w' h
    have F2 := hide fun (w' : World) (h : Box w' B 9 [.string X]) => padded_at (c' := 92) (c := 0x5c) rfl hP2.out X hXs B w' h
    clear l1 l2 hXs
    go_wp2_with fail
    refine (Begin_at _).mono ?_
    rintro e w5 ⟨rfl, h5⟩
    have x2 := x2.under h5
    have b4 := b4.trans (h5.mono b4.size)
    clear h5
    go_wp2_with fail
    refine (F1.out _ x2).mono ?_
    rintro e w6 ⟨rfl, h6⟩
    have x2 := x2.under h6
    have b4 := b4.trans (h6.mono b4.size)
    clear h6
    go_wp2_with fail
    refine (add_at (m := []) (r := P1) rfl (by rw [L1.out]; omega) _ (hL0.out.below b4)).mono ?_
    rintro e w7 ⟨rfl, h7⟩
    have x2 := x2.under h7
    have b4 := b4.trans (h7.mono b4.size)
    clear h7
    go_wp2_with fail
    refine (add_at (m := P1) (r := P1 ++ text.data.toList) rfl (by rw [List.length_append, L1.out, HTL.out]; omega) _ (hL0.out.below b4)).mono ?_
    rintro e w8 ⟨rfl, h8⟩
    have x2 := x2.under h8
    have b4 := b4.trans (h8.mono b4.size)
    clear h8
    go_wp2_with fail
    refine (ssum_any (P1 ++ text.data.toList) (by rw [List.length_append, L1.out, HTL.out]; omega) _ (hL0.out.below b4)).mono ?_
    rintro e w9 ⟨rfl, h9⟩
    have x2 := x2.under h9
    have b4 := b4.trans (h9.mono b4.size)
    clear h9
    obtain ⟨I, hI⟩ : ∃ I, Hid (sha (P1 ++ text.data.toList) = I) := ⟨_, rfl⟩
    have hIl : I.length = 32 := by rw [← hI.out, sha_len]
    have HIl := hide hIl
    rw [hI.out]
    have hzI : (Tryd.prog.info? 89).map (·.size) = some (I.map B8).length := by rw [List.length_map, HIl.out]; exact size_32
    have HzI := hide hzI
    clear hIl hzI
    go_wp2_with (with_reducible refine hold_store ?_)
    refine hide ?_
    refine store_all 89 _ _ 89 w9.heap.size Z (I.map B8) (.agg (I.map B8).toArray) HzI.out (Box.new w9 _ _) (by rfl) (by rfl) rfl (by rw [List.length_map, HIl.out, HZl.out]) (one_map _ (fun _ => rfl) _) ?_
    intro w10 x7 hg10 hs10
    have hG : B < w9.heap.size := x2.lt
    have x2 := (x2.alloc (.cells Z.toArray 89)).grown hg10 (by simp; omega)
    have b4 := (b4.alloc (by omega) (.cells Z.toArray 89)).grown hg10 (by simp; omega) (fun k hk => by cases hk; omega)
    generalize w9.heap.size = G at *
    have hL10 := hL0.out.below b4
    clear hg10 hs10 h32 hmf
    go_wp2_with fail
    obtain ⟨FV, hFV⟩ : ∃ FV : Value, FV = .func (.func 62) #[] #[.pointer (some ⟨B, 0, none⟩)] := ⟨_, rfl⟩
    have HFV := hide hFV
    have hcat : P2 ++ I = P2 ++ I := rfl
    refine wp_region_free 9 [⟨0, 25, [25], fun vs _ => vs = [SV []]⟩, ⟨1, 26, [26], fun vs _ => vs = [FV]⟩, ⟨2, 27, [27], fun vs _ => vs = [.string ⟨P2.toArray⟩]⟩, ⟨3, 28, [28], fun vs _ => vs = [SV P2]⟩,
      ⟨4, 29, [29], fun vs _ => vs = [.slice (some ⟨G, 0, none⟩) 32 32]⟩, ⟨5, 30, [30], fun vs _ => vs = [.string ⟨I.toArray⟩]⟩, ⟨6, 31, [31], fun vs _ => vs = [SV (P2 ++ I)]⟩, ⟨7, 32, [32], fun vs _ => vs = [.agg ((sha (P2 ++ I)).map B8).toArray]⟩,
      ⟨8, 8, [8], fun vs w => ∃ g S, vs = [.pointer (some ⟨g, 0, none⟩)] ∧ Box w g 89 S ∧ S.length = 32 ∧ w10.heap.size ≤ g⟩] (by kernel_rfl) (by kernel_rfl) ?_ ?_ ?_
    · simp only [All]
      refine ⟨fun _ _ _ _ h => h, fun _ _ _ _ h => h, fun _ _ _ _ h => h, fun _ _ _ _ h => h, fun _ _ _ _ h => h, fun _ _ _ _ h => h, fun _ _ _ _ h => h, fun _ _ _ _ h => h, ?_, trivial⟩
      rintro vs w2 w3 hb ⟨g, S, h1, h2, h3⟩
      exact ⟨g, S, h1, h2.under hb, h3⟩
    · simp only [All]
      refine ⟨?_, ?_, ?_, ?_, ?_, ?_, ?_, ?_, ?_, trivial⟩
      · intro o ho a' w' hb hfr hdep
        obtain rfl := Option.some.inj ho
        clear ho hfr hdep hFV
        go_wp2_with fail
        refine (Begin_at _).mono ?_
        rintro e w2 ⟨rfl, h2⟩
        go_wp2_with fail
        exact ⟨rfl, _, rfl, h2, rfl⟩
      · intro o ho a' w' hb hfr hdep
        obtain rfl := Option.some.inj ho
        have g0 : a'.tmps[6]?.getD undef = FV := by rw [hFV]; have h := hfr 6 (by kernel_rfl); simpa using h
        clear ho hfr hdep hFV
        go_wp2_with fail
        exact ⟨rfl, _, rfl, Below.refl _ _, rfl⟩
      · intro o ho a' w' hb hfr hdep
        obtain rfl := Option.some.inj ho
        have g0 : a'.tmps[26]?.getD undef = .func (.func 62) #[] #[.pointer (some ⟨B, 0, none⟩)] := by rw [← hFV]; have h := hdep 1 _ rfl (by kernel_rfl); simpa using h
        clear ho hfr hdep hFV
        go_wp2_with fail
        refine (F2.out _ (x2.under hb)).mono ?_
        rintro e w2 ⟨rfl, h2⟩
        go_wp2_with fail
        exact ⟨rfl, _, rfl, h2, rfl⟩
      · intro o ho a' w' hb hfr hdep
        obtain rfl := Option.some.inj ho
        have g0 : a'.tmps[25]?.getD undef = SV [] := by have h := hdep 0 _ rfl (by kernel_rfl); simpa using h
        have g1 : a'.tmps[27]?.getD undef = .string ⟨P2.toArray⟩ := by have h := hdep 2 _ rfl (by kernel_rfl); simpa using h
        clear ho hfr hdep hFV
        go_wp2_with fail
        refine (add_at (m := []) (r := P2) rfl (by rw [L2.out]; omega) _ (hL10.below hb)).mono ?_
        rintro e w2 ⟨rfl, h2⟩
        go_wp2_with fail
        exact ⟨rfl, _, rfl, h2, rfl⟩
      · intro o ho a' w' hb hfr hdep
        obtain rfl := Option.some.inj ho
        have g0 : a'.tmps[7]?.getD undef = .pointer (some ⟨G, 0, none⟩) := by have h := hfr 7 (by kernel_rfl); simpa using h
        clear ho hfr hdep hFV
        refine cut_var 29 89 5 32 _ none none Tryd.underlying89 size_u8 G 0 (by simpa [Act.eval] using g0) 0 32 (.inl ⟨rfl, rfl⟩) (.inl ⟨rfl, rfl⟩) (by omega) (by omega) (by omega) ?_
        exact ⟨rfl, _, rfl, Below.refl _ _, rfl⟩
      · intro o ho a' w' hb hfr hdep
        obtain rfl := Option.some.inj ho
        have g0 : a'.tmps[29]?.getD undef = .slice (some ⟨G, 0, none⟩) 32 32 := by have h := hdep 4 _ rfl (by kernel_rfl); simpa using h
        clear ho hfr hdep hFV
        refine to_str 30 _ _ _ _ I (by simpa [Act.eval] using g0) ((x7.under hb).sl 0 32 32 1 (I.map B8) (by rw [List.length_map, HIl.out]) (Nat.le_refl _) (by decide) (fun j u h => by rw [Nat.zero_add]; exact h)) ?_
        exact ⟨rfl, _, rfl, Below.refl _ _, rfl⟩
      · intro o ho a' w' hb hfr hdep
        obtain rfl := Option.some.inj ho
        have g0 : a'.tmps[28]?.getD undef = SV P2 := by have h := hdep 3 _ rfl (by kernel_rfl); simpa using h
        have g1 : a'.tmps[30]?.getD undef = .string ⟨I.toArray⟩ := by have h := hdep 5 _ rfl (by kernel_rfl); simpa using h
        clear ho hfr hdep hFV
        go_wp2_with fail
        refine (add_at (m := P2) (r := P2 ++ I) rfl (by rw [List.length_append, L2.out, HIl.out]; omega) _ (hL10.below hb)).mono ?_
        rintro e w2 ⟨rfl, h2⟩
        go_wp2_with fail
        exact ⟨rfl, _, rfl, h2, rfl⟩
      · intro o ho a' w' hb hfr hdep
        obtain rfl := Option.some.inj ho
        have g0 : a'.tmps[31]?.getD undef = SV (P2 ++ I) := by have h := hdep 6 _ rfl (by kernel_rfl); simpa using h
        clear ho hfr hdep hFV
        go_wp2_with fail
        refine (ssum_any (P2 ++ I) (by rw [List.length_append, L2.out, HIl.out]; omega) _ (hL10.below hb)).mono ?_
        rintro e w2 ⟨rfl, h2⟩
        go_wp2_with fail
        exact ⟨rfl, _, rfl, h2, rfl⟩
      · intro o ho a' w' hb hfr hdep
        obtain rfl := Option.some.inj ho
        have h32 := zero_32
        rw [hZ.out] at h32
        clear ho hfr hdep hFV
        go_wp2_with fail
        exact ⟨rfl, _, rfl, (Below.refl _ _).alloc (Nat.le_refl _) _, _, rfl, Z, Box.new _ _ _, HZl.out, hb.size⟩
    · intro g w2 hb hp
      have p7 := hp 7 _ rfl
      obtain ⟨g8, S, p8, x8, hS, hg⟩ := hp 8 _ rfl
      clear hp
      simp at p7 p8
      simp only [List.map_cons, List.map_nil, putAll, Act.put, List.setIfInBounds_toArray, List.set_cons_succ, List.set_cons_zero, p7, p8]
      obtain ⟨R, hR⟩ : ∃ R, Hid (sha (P2 ++ I) = R) := ⟨_, rfl⟩
      have hRl : R.length = 32 := by rw [← hR.out, sha_len]
      have HRl := hide hRl
      rw [hR.out]
      have hzR : (Tryd.prog.info? 89).map (·.size) = some (R.map B8).length := by rw [List.length_map, HRl.out]; exact size_32
      refine store_all 89 _ _ 89 g8 S (R.map B8) (.agg (R.map B8).toArray) hzR x8 (by rfl) (by rfl) rfl (by rw [List.length_map, HRl.out, hS]) (one_map _ (fun _ => rfl) _) ?_
      intro w3 x9 hg3 hs3
      have hbs := b4.size
      have hws : w.heap.size ≤ g8 := by omega
      have b5 := (b4.trans (hb.mono hbs)).grown hg3 (Nat.le_trans hbs hb.size) (fun k hk => by cases hk; exact hws)
      have s9 := x9.sl 0 32 32 1 (R.map B8) (by rw [List.length_map, HRl.out]) (Nat.le_refl _) (by decide) (fun j u h => by rw [Nat.zero_add]; exact h)
      clear hbs hws hb hg hg3 hs3 p7 p8 hzR hRl hcat hFV
      go_wp2_with (first
        | (with_reducible refine cut_var 33 89 5 32 _ _ _ Tryd.underlying89 size_u8 g8 0 rfl 0 32 (.inl ⟨rfl, rfl⟩) (.inl ⟨rfl, rfl⟩) (by omega) (by omega) (by omega) ?_)
        | (with_reducible refine to_str 34 _ _ _ _ R rfl s9 ?_))
      go_ret
      exact ⟨by rw [HM.out _ rfl, hP1.out, hP2.out, hI.out, hR.out]; rfl, b5⟩
end Go.Proofs.YtblgmjnkllkhbaaDoor
end

/- the text Wire3 -/
section
namespace Go.Proofs.YtblgmjnkllkhbaaDoor
open Go.RowKit Go.Dx

theorem neq_nat {a b : Nat} (h : a ≠ b) : ((a : Int) != (b : Int)) = true := by simp; omega
theorem eq_nat {a b : Nat} (h : a = b) : ((a : Int) != (b : Int)) = false := by simp; omega

theorem same_step {l1 l2 : List UInt8} {k : Nat} {x y : UInt8} (hx : l1[k]? = some x) (hy : l2[k]? = some y) (h : l1.take k = l2.take k) : (x = y ↔ l1.take (k + 1) = l2.take (k + 1)) := by
  rw [List.take_add_one, List.take_add_one, hx, hy, h]; simp
theorem ne_of_take {l1 l2 : List UInt8} {k : Nat} (h : l1.take k ≠ l2.take k) : l1 ≠ l2 := fun e => h (by rw [e])

set_option maxHeartbeats 400000 in
theorem ref_Same (l1 l2 : List UInt8) (a1 a2 : Option Addr) (n1 n2 c1 c2 : Nat) (w : World) (h1 : Sl w 1 a1 n1 c1 (l1.map B8)) (h2 : Sl w 1 a2 n2 c2 (l2.map B8)) :
    Calls Tryd.prog 58 #[.slice a1 n1 c1, .slice a2 n2 c2] w (Still (.bool (decide (l1 = l2))) w) := by
  obtain rfl := h1.n_eq
  obtain rfl := h2.n_eq
  have hm1 := Nat.le_trans h1.le h1.cap
  have hm2 := Nat.le_trans h2.le h2.cap
  unfold maxLen at hm1 hm2
  by_cases hlen : l1.length = l2.length
  · have hb := eq_nat hlen
    have hle1 : l1.length ≤ l2.length := by omega
    have hle2 : l2.length ≤ l1.length := by omega
    have HL := hide hlen
    clear hlen
    go_enter Tryd.func58, Tryd.ntmps58
    go_wp2
    go_loopg [5] l1.length (fun g i w' => ∃ (k n : Nat), k ≤ l1.length ∧ g = l1.length - k ∧ l1.take k = l2.take k ∧ i = .int .i64 k ∧ w' = w.drewN n)
    case atStart => exact ⟨0, 0, by omega, by omega, rfl, rfl, rfl⟩
    case round =>
      obtain ⟨k, nq, hk, hg, ht, rfl, rfl⟩ := hrel
      have HG := hide hg
      have HT := hide ht
      clear hg ht
      by_cases hkl : k < l1.length
      · obtain ⟨b1, o1, rfl, hb1, hc1⟩ := h1.ex (by simp; omega)
        obtain ⟨b2, o2, rfl, hb2, hc2⟩ := h2.ex (by simp; omega)
        obtain ⟨x, hx⟩ : ∃ x, l1[k]? = some x := ⟨l1[k], by simp [hkl]⟩
        obtain ⟨y, hy⟩ : ∃ y, l2[k]? = some y := ⟨l2[k]'(by omega), by simp⟩
        have hx1 : w.cell? ⟨b1, o1 + k, none⟩ = some (.int .u8 (x.toNat : Int)) := hc1 k _ (by rw [List.getElem?_map, hx]; rfl)
        have hy1 : w.cell? ⟨b2, o2 + k, none⟩ = some (.int .u8 (y.toNat : Int)) := hc2 k _ (by rw [List.getElem?_map, hy]; rfl)
        have HX := hide (same_step hx hy HT.out)
        clear hc1 hc2 hx hy
        by_cases hxy : x = y
        · have HE := hide (HX.out.1 hxy)
          subst hxy
          have hn : ((x.toNat : Int) != (x.toNat : Int)) = false := by simp
          go_wp2
          go_quiet (fail)
          go_wp2
          go_roundg (l1.length - (k + 1))
          case measure => have := HG.out; omega
          case rel => exact ⟨k + 1, _, by omega, rfl, HE.out, by go_num, by first | rfl | exact World.drewN_drewN _ _ _⟩
        · have hn : ((x.toNat : Int) != (y.toNat : Int)) = true := neq_nat (fun e => hxy (UInt8.toNat_inj.1 e))
          have HE := hide (ne_of_take (fun e => hxy (HX.out.2 e)))
          have hne : Value.bool (decide (l1 = l2)) = .bool false := by rw [decide_eq_false HE.out]
          have HN := hide hne
          clear hne hxy
          go_wp2
          go_quiet (fail)
          go_wp2
          go_ret
          exact ⟨by rw [HN.out]; rfl, _, World.drewN_drewN _ _ _⟩
      · obtain rfl : k = l1.length := by omega
        go_wp2
        go_ret
        have : l1 = l2 := by have := HT.out; rw [List.take_length, List.take_of_length_le (by omega)] at this; exact this
        exact ⟨by rw [decide_eq_true this]; rfl, _, rfl⟩
  · have hb := neq_nat hlen
    have HN := hide (decide_eq_false (fun e : l1 = l2 => hlen (by rw [e])))
    clear hlen
    go_enter Tryd.func58, Tryd.ntmps58
    go_wp2
    go_ret
    exact ⟨by rw [HN.out]; rfl, 0, rfl⟩



end Go.Proofs.YtblgmjnkllkhbaaDoor
end

/- the text Wire4 -/
section
namespace Go.Proofs.YtblgmjnkllkhbaaDoor
open Go.RowKit Go.Dx

/-- three results that are integers -/
abbrev R3 (r : Int × Int × Int) : Value := .tuple #[.int .i64 r.1, .int .i64 r.2.1, .int .i64 r.2.2]

set_option maxRecDepth 100000 in
set_option maxHeartbeats 400000 in
theorem wire_GetInt (l : List UInt8) (a : Option Addr) (n c : Nat) (w : World) (hs : Sl w 1 a n c (l.map B8)) :
    Calls Tryd.prog 36 #[.slice a n c] w fun e w' => e = .returned (R3 (decInt l)) ∧ w = w' := by
  obtain rfl := hs.n_eq
  have hm := Nat.le_trans hs.le hs.cap
  unfold maxLen at hm
  cases l with
  | nil =>
    go_enter Tryd.func36, Tryd.ntmps36
    go_wp2
    go_ret3
    exact ⟨rfl, rfl⟩
  | cons h t =>
    obtain ⟨b, off, rfl, hbs, hc⟩ := hs.ex (by simp)
    have hc0 : w.cell? ⟨b, off, none⟩ = some (.int .u8 (h.toNat : Int)) := hc 0 _ rfl
    have hle := hs.le
    simp only [List.length_cons] at hm hle ⊢
    have hne : (((t.length : Int) + 1) == 0) = false := by simp; omega
    have HC := hide hc
    clear hc hs
    obtain ⟨neg, HN⟩ : ∃ neg, Hid (neg = decide (h.toNat < 128)) := ⟨_, rfl⟩
    obtain ⟨K, HK⟩ : ∃ K, Hid (K = (flp neg h).toNat - 128) := ⟨_, rfl⟩
    go_enter Tryd.func36, Tryd.ntmps36
    go_upto_if 16 with (fail)
    go_cut [5] (fun f w' => f = .int .u8 ((fl neg).toNat : Int) ∧ w = w')
    case first =>
      by_cases h7 : h.toNat < 128
      · go_wp2
        go_meet
        exact ⟨by rw [HN.out, decide_eq_true h7]; rfl, rfl⟩
      · go_wp2
        go_meet
        exact ⟨by rw [HN.out, decide_eq_false h7]; rfl, rfl⟩
    case rest =>
      obtain ⟨rfl, rfl⟩ := hcut
      have hx := xor_fl h neg
      have hfb := UInt8.toNat_lt (flp neg h)
      go_upto_region 6 with (fail)
      go_cut [6] (fun k w' => k = .int .i64 (K : Int) ∧ w = w')
      case first =>
        go_wp2
        go_meet
        exact ⟨by rw [HK.out]; congr 1; have := flp_ge h neg HN.out; omega, rfl⟩
      case rest =>
        obtain ⟨rfl, rfl⟩ := hcut
        have HX := hide hx
        have HD : Hid (decInt (h :: t) = decK neg K t) := by show _ = _; rw [HN.out, HK.out]; rw [HN.out]; rfl
        clear hx hfb
        by_cases h8 : 8 < K
        · go_wp2
          go_ret3
          exact ⟨by rw [HD.out, decK_8 h8]; rfl, rfl⟩
        · by_cases hlen : t.length < K
          · go_wp2
            go_ret3
            exact ⟨by rw [HD.out, decK_more h8 hlen]; rfl, rfl⟩
          · have hsp : (0 < K ∧ flp neg (t.getD 0 0) = 0) ∨ (0 < K ∧ flp neg (t.getD 0 0) ≠ 0 ∧ ¬ c = 1) ∨ (¬ 0 < K ∧ c = 1) ∨ (¬ 0 < K ∧ ¬ c = 1) := by
              by_cases h0 : 0 < K
              · by_cases hz : flp neg (t.getD 0 0) = 0
                · exact .inl ⟨h0, hz⟩
                · exact .inr (.inl ⟨h0, hz, by omega⟩)
              · by_cases hc1 : c = 1
                · exact .inr (.inr (.inl ⟨h0, hc1⟩))
                · exact .inr (.inr (.inr ⟨h0, hc1⟩))
            have hd1 : 0 < K → ∃ d, t.getD 0 0 = d ∧ w.cell? ⟨b, off + 1, none⟩ = some (.int .u8 (d.toNat : Int)) := by
              intro h0
              cases t with
              | nil => simp at hlen; omega
              | cons d t => exact ⟨d, rfl, HC.out 1 _ rfl⟩
            rcases hsp with ⟨h0, hz⟩ | hsp
            · obtain ⟨d, hd, hcd⟩ := hd1 h0
              rw [hd] at hz
              have hx := xor_fl d neg
              have hzz : (flp neg d).toNat = 0 := by rw [hz]; rfl
              have HD2 := hide hd
              clear hd hd1
              go_wp2
              go_ret3
              exact ⟨by rw [HD.out, decK_zero h8 hlen h0 (by rw [HD2.out]; exact hz)]; rfl, rfl⟩
            · have hfin : Hid (K = 0 ∨ flp neg (t.getD 0 0) ≠ 0) := by
                rcases hsp with ⟨h0, hz, _⟩ | ⟨h0, _⟩ | ⟨h0, _⟩
                · exact .inr hz
                · exact .inl (by omega)
                · exact .inl (by omega)
              rcases hsp with ⟨h0, hz, hcap⟩ | ⟨h0, rfl⟩ | ⟨h0, hcap⟩
              all_goals first
                | (obtain ⟨d, hd, hcd⟩ := hd1 h0
                   rw [hd] at hz
                   have hx := xor_fl d neg
                   have hzz : (((flp neg d).toNat : Int) == 0) = false := by
                     simp; intro e; exact hz (UInt8.toNat_inj.1 e)
                   have HD2 := hide hd
                   clear hd hd1 hz
                   go_wp2)
                | (clear hd1
                   go_wp2)
              all_goals
                go_loopg [7, 48] K (fun g m i w' => ∃ j : Nat, j ≤ K ∧ g = K - j ∧ m = .int .u64 ((val ((t.take j).map (flp neg)) : Nat) : Int) ∧ i = .int .i64 j ∧ w = w')
                case atStart => exact ⟨0, by omega, rfl, by simp [val], rfl, rfl⟩
                case round =>
                  obtain ⟨j, hj, hg, rfl, rfl, rfl⟩ := hrel
                  have HG := hide hg
                  clear hg
                  by_cases hjk : j < K
                  · first
                    | (exfalso; omega)
                    | (obtain ⟨d, hd⟩ : ∃ d, t[j]? = some d := ⟨t[j]'(by omega), by simp⟩
                       have hcell : w.cell? ⟨b, off + 1 + j, none⟩ = some (.int .u8 (d.toNat : Int)) := by
                         rw [Nat.add_assoc, Nat.add_comm 1 j]; exact HC.out (j + 1) _ (by simp [hd])
                       have hv : val ((t.take j).map (flp neg)) < 72057594037927936 := val_lt7 _ (by simp; omega)
                       have hx := xor_fl d neg
                       have ho := or_u64 (val ((t.take j).map (flp neg))) (flp neg d) hv
                       have hfd := UInt8.toNat_lt (flp neg d)
                       have HV : Hid (val ((t.take (j + 1)).map (flp neg)) = 256 * val ((t.take j).map (flp neg)) + (flp neg d).toNat) := by
                         show _ = _; rw [List.take_add_one, hd]; simp [val_snoc]
                       clear hd
                       generalize val ((t.take j).map (flp neg)) = v at *
                       go_wp2
                       go_roundg (K - (j + 1))
                       case measure => have := HG.out; omega
                       case rel => exact ⟨j + 1, by omega, rfl, by rw [HV.out]; go_num, by go_num, rfl⟩)
                  · obtain rfl : j = K := by omega
                    have HB := hide (@decK_big neg j t h8 hlen hfin.out)
                    have HO := hide (@decK_ok neg j t h8 hlen hfin.out)
                    have hvl : val ((t.take j).map (flp neg)) < 18446744073709551616 := val_lt8 _ (by simp; omega)
                    generalize val ((t.take j).map (flp neg)) = v at *
                    by_cases hbig : 9223372036854775808 ≤ v
                    · go_wp2
                      go_ret3
                      exact ⟨by rw [HD.out, HB.out hbig]; rfl, rfl⟩
                    · cases neg
                      · go_wp2
                        go_ret3
                        exact ⟨by rw [HD.out, HO.out hbig]; rfl, rfl⟩
                      · have hw : wrap64 (bits .xor .u64 IntKind.u64.max (v : Int)) = -1 - (v : Int) := by
                          rw [u64_not v (by omega)]; unfold wrap64; omega
                        go_wp2
                        go_ret3
                        exact ⟨by rw [HD.out, HO.out hbig]; rfl, rfl⟩
end Go.Proofs.YtblgmjnkllkhbaaDoor
end

/- the text Wire5 -/
section
namespace Go.Proofs.YtblgmjnkllkhbaaDoor
open Go.RowKit Go.Dx

set_option maxRecDepth 100000 in
set_option maxHeartbeats 800000 in
theorem ref_GetInt (l : List UInt8) (a : Option Addr) (n c : Nat) (w : World) (hs : Sl w 1 a n c (l.map B8)) :
    Calls Tryd.prog 41 #[.slice a n c] w fun e w' => e = .returned (R3 (decInt l)) ∧ Below w.heap.size w w' := by
  obtain rfl := hs.n_eq
  have hm := Nat.le_trans hs.le hs.cap
  unfold maxLen at hm
  cases l with
  | nil =>
    go_enter Tryd.func41, Tryd.ntmps41
    go_wp2
    go_ret3
    exact ⟨rfl, Below.refl _ _⟩
  | cons h t =>
    have HS := hide hs
    obtain ⟨b, off, rfl, hbs, hc⟩ := hs.ex (by simp)
    have hc0 : w.cell? ⟨b, off, none⟩ = some (.int .u8 (h.toNat : Int)) := hc 0 _ rfl
    have hle := hs.le
    simp only [List.length_cons] at hm hle ⊢
    have hne : (((t.length : Int) + 1) == 0) = false := by simp; omega
    have HC := hide hc
    clear hc hs
    have hhb := UInt8.toNat_lt h
    have hKK : ∃ (neg : Bool) (K : Nat), neg = decide (h.toNat < 128) ∧ (flp neg h).toNat = 128 + K ∧ ((neg = true ∧ (h.toNat : Int) = 127 - K) ∨ (neg = false ∧ (h.toNat : Int) = 128 + K)) := by
      by_cases h7 : h.toNat < 128
      · exact ⟨true, 127 - h.toNat, by rw [decide_eq_true h7], by have := flp_neg h; omega, .inl ⟨rfl, by omega⟩⟩
      · exact ⟨false, h.toNat - 128, by rw [decide_eq_false h7], by rw [flp_pos]; omega, .inr ⟨rfl, by omega⟩⟩
    obtain ⟨neg, K, hn, hf, hk⟩ := hKK
    have HD : Hid (decInt (h :: t) = decK neg K t) := by show _ = _; rw [show decInt (h :: t) = decK (decide (h.toNat < 128)) ((flp (decide (h.toNat < 128)) h).toNat - 128) t from rfl, ← hn, hf]; congr 1; omega
    have HF := hide hf
    have HK := hide hk
    clear hf hn
    have hK127 : K ≤ 127 := by omega
    by_cases h8 : 8 < K
    · have hr : (h.toNat : Int) < 119 ∨ (136 : Int) < h.toNat := by omega
      clear hk
      rcases hr with hr | hr
      all_goals
        go_enter Tryd.func41, Tryd.ntmps41
        go_wp2
        go_ret3
        exact ⟨by rw [HD.out, decK_8 h8]; rfl, Below.refl _ _⟩
    · have hr : (119 : Int) ≤ h.toNat ∧ (h.toNat : Int) ≤ 136 := by omega
      obtain ⟨hr1, hr2⟩ := hr
      clear hk
      go_enter Tryd.func41, Tryd.ntmps41
      go_upto_if 27 with (fail)
      go_cut [6] (fun k w' => k = .int .i64 (K : Int) ∧ w = w')
      case first =>
        rcases HK.out with ⟨_, h1⟩ | ⟨_, h1⟩
        · have h2 : (h.toNat : Int) < 128 := by omega
          have H1 := hide h1
          clear h1
          go_wp2
          go_meet
          exact ⟨by congr 1; have := H1.out; omega, rfl⟩
        · have h2 : ¬ (h.toNat : Int) < 128 := by omega
          have H1 := hide h1
          clear h1
          go_wp2
          go_meet
          exact ⟨by congr 1; have := H1.out; omega, rfl⟩
      case rest =>
        obtain ⟨rfl, rfl⟩ := hcut
        by_cases hlen : t.length < K
        · go_wp2
          go_ret3
          exact ⟨by rw [HD.out, decK_more h8 hlen]; rfl, Below.refl _ _⟩
        · go_wp2
          go_loopg [7, 8] K (fun g m i w' => ∃ j : Nat, j ≤ K ∧ g = K - j ∧ val ((t.take j).map (flp neg)) < 9223372036854775808 ∧ m = .int .i64 ((val ((t.take j).map (flp neg)) : Nat) : Int) ∧ i = .int .i64 ((j : Int) + 1) ∧ w = w')
          case atStart => exact ⟨0, by omega, rfl, by simp [val], by simp [val], rfl, rfl⟩
          case round =>
            obtain ⟨j, hj, hg, hv, rfl, rfl, rfl⟩ := hrel
            have HG := hide hg
            clear hg
            by_cases hjk : j < K
            · obtain ⟨d, hd⟩ : ∃ d, t[j]? = some d := ⟨t[j]'(by omega), by simp⟩
              have hcell : w.cell? ⟨b, off + (j + 1), none⟩ = some (.int .u8 (d.toNat : Int)) := HC.out (j + 1) _ (by simp [hd])
              have hvj := val_lt ((t.take j).map (flp neg))
              simp only [List.length_map, List.length_take] at hvj
              rw [Nat.min_eq_left (by omega)] at hvj
              have hfd := UInt8.toNat_lt (flp neg d)
              have hdb := UInt8.toNat_lt d
              have HV : Hid (val ((t.take (j + 1)).map (flp neg)) = 256 * val ((t.take j).map (flp neg)) + (flp neg d).toNat) := by
                show _ = _; rw [List.take_add_one, hd]; simp [val_snoc]
              have HB : Hid (36028797018963967 < val ((t.take j).map (flp neg)) → decK neg K t = (0, 0, 2) ∨ flp neg (t.getD 0 0) = 0 ∨ True) := fun _ => .inr (.inr trivial)
              have HV7 := hide hvj
              clear hd hvj
              generalize val ((t.take j).map (flp neg)) = v at *
              go_upto_if 46 with (fail)
              go_cut [9] (fun x w' => x = .int .i64 ((flp neg d).toNat : Int) ∧ w = w')
              case first =>
                rcases HK.out with ⟨hn, h1⟩ | ⟨hn, h1⟩
                · have h2 : (h.toNat : Int) < 128 := by omega
                  clear h1
                  go_wp2
                  go_meet
                  exact ⟨by rw [hn, flp_neg], rfl⟩
                · have h2 : ¬ (h.toNat : Int) < 128 := by omega
                  clear h1
                  go_wp2
                  go_meet
                  exact ⟨by rw [hn, flp_pos], rfl⟩
              case rest =>
                obtain ⟨rfl, rfl⟩ := hcut
                by_cases hbig : 36028797018963967 < v
                · have h7 : j = 7 := by
                    have := HV7.out
                    refine Nat.le_antisymm (by omega) (Nat.le_of_not_lt fun hlt => ?_)
                    have h2 : 256 ^ j ≤ 256 ^ 6 := Nat.pow_le_pow_right (by omega) (by omega)
                    simp at h2
                    omega
                  have H7 := hide h7
                  clear h7
                  go_wp2
                  go_ret3
                  have hK8 : K = j + 1 := by have := H7.out; omega
                  refine ⟨?_, Below.refl _ _⟩
                  rw [HD.out, decK_form h8 hlen (by rw [hK8, HV.out]; omega)]
                  rfl
                · go_wp2
                  go_roundg (K - (j + 1))
                  case measure => have := HG.out; omega
                  case rel => exact ⟨j + 1, by omega, rfl, by rw [HV.out]; omega, by rw [HV.out]; go_num, by go_num, rfl⟩
            · obtain rfl : j = K := by omega
              obtain ⟨N, HN⟩ : ∃ N : Int, Hid (N = if neg then -1 - (val ((t.take j).map (flp neg)) : Int) else val ((t.take j).map (flp neg))) := ⟨_, rfl⟩
              have HE := hide (@enc_iff neg h j t HF.out (by omega) (by omega) hv)
              have HO := hide (@decK_ok neg j t h8 hlen)
              generalize val ((t.take j).map (flp neg)) = v at *
              go_upto_if 57 with (fail)
              go_cut [10] (fun x w' => x = .int .i64 N ∧ w = w')
              case first =>
                rcases HK.out with ⟨hn, h1⟩ | ⟨hn, h1⟩
                · have h2 : (h.toNat : Int) < 128 := by omega
                  clear h1
                  go_wp2
                  go_meet
                  exact ⟨by rw [HN.out, hn]; rfl, rfl⟩
                · have h2 : ¬ (h.toNat : Int) < 128 := by omega
                  clear h1
                  go_wp2
                  go_meet
                  exact ⟨by rw [HN.out, hn]; rfl, rfl⟩
              case rest =>
                obtain ⟨rfl, rfl⟩ := hcut
                have hN1 : -9223372036854775808 ≤ N := by rw [HN.out]; split <;> omega
                have hN2 : N ≤ 9223372036854775807 := by rw [HN.out]; split <;> omega
                have hsl : ∀ w1, Below w.heap.size w w1 → Sl w1 1 (some ⟨b, off, none⟩) (j + 1) c ((h :: t.take j).map B8) := fun w1 hb => by
                  have := (HS.out.below hb).take (j + 1) (by simp; omega)
                  simpa using this
                obtain ⟨r, HR⟩ : ∃ r : Bool, Hid (r = decide (encInt N = h :: t.take j)) := ⟨_, rfl⟩
                have hsame : ∀ (w1 : World) (a1 : Option Addr) (n1 c1 : Nat), Sl w1 1 a1 n1 c1 ((encInt N).map B8) → Below w.heap.size w w1 →
                    Calls Tryd.prog 58 #[.slice a1 n1 c1, .slice (some ⟨b, off, none⟩) (j + 1) c] w1 (Still (.bool r) w1) := fun w1 a1 n1 c1 h1 h2 => by
                  rw [HR.out]; exact ref_Same _ _ _ _ _ _ _ _ _ h1 (hsl _ h2)
                have HSAME := hide hsame
                clear hsame hsl
                have hs1 : IntKind.i64.wrap ((j : Int) + 1) = (j : Int) + 1 := IntWalk.i64_in _ (by omega)
                have hs2 : (0 : Int) ≤ (j : Int) + 1 := by omega
                have hs3 : (j : Int) + 1 ≤ (c : Int) := by omega
                have hs4 : ((j : Int) + 1).toNat = j + 1 := by omega
                have hcne : ¬ c = 0 := by omega
                go_upto_region 24 with (fail)
                go_cut [67] (fun x w' => x = .bool (!r) ∧ Below w.heap.size w w')
                case first =>
                  go_region_with (first
                    | (go_at_call 30; refine (ref_Int _ hN1 hN2 _).mono ?_; rintro e w1 ⟨a1, c1, rfl, ho1, hb1⟩)
                    | (go_at_call 58; refine (HSAME.out _ _ _ _ ho1.sl (undrew hb1)).mono ?_; rintro e w2 ⟨rfl, nq, rfl⟩))
                  all_goals (go_wp2_with fail; go_meet; exact ⟨rfl, (undrew hb1).trans (Below.mono (Still.below nq) hb1.size)⟩)
                case rest =>
                  obtain ⟨rfl, hbw⟩ := hcut
                  clear HSAME hs1 hs2 hs3 hs4 hcne
                  have hiff : r = true ↔ (j = 0 ∨ flp neg (t.getD 0 0) ≠ 0) := by rw [HR.out, decide_eq_true_iff, HN.out]; exact HE.out
                  by_cases hz : j = 0 ∨ flp neg (t.getD 0 0) ≠ 0
                  · obtain rfl : r = true := hiff.2 hz
                    have HZ := hide hz
                    clear hz hiff
                    go_wp2
                    go_ret3
                    exact ⟨by rw [HD.out, HO.out HZ.out (by omega), HN.out]; rfl, hbw⟩
                  · obtain rfl : r = false := by cases r; rfl; exact absurd (hiff.1 rfl) hz
                    have HZ := hide hz
                    clear hz hiff
                    go_wp2
                    go_ret3
                    refine ⟨?_, hbw⟩
                    rw [HD.out, decK_zero h8 hlen (by have := HZ.out; omega) (by have := HZ.out; exact Decidable.byContradiction fun e => this (.inr e))]
                    rfl
end Go.Proofs.YtblgmjnkllkhbaaDoor
end

/- the text Wire6 -/
section
namespace Go.Proofs.YtblgmjnkllkhbaaDoor
open Go.RowKit Go.Dx

theorem neq_int {a b : Int} (h : a ≠ b) : (a != b) = true := by simp [h]

end Go.Proofs.YtblgmjnkllkhbaaDoor
end

/- the text Wire7 -/
section
namespace Go.Proofs.YtblgmjnkllkhbaaDoor
open Go.RowKit Go.Dx

abbrev RS (r : ByteArray × Int × Int) : Value := .tuple #[.string r.1, .int .i64 r.2.1, .int .i64 r.2.2]

end Go.Proofs.YtblgmjnkllkhbaaDoor
end

/- the text Wire8 -/
section
namespace Go.Proofs.YtblgmjnkllkhbaaDoor
open Go.RowKit Go.Dx

/-- what has been written after k elements -/
def accTo {α : Type} (p : List UInt8) (g : α → List UInt8) (l : List α) (k : Nat) : List UInt8 := p ++ (l.take k).flatMap g
theorem acc_zero {α : Type} (p : List UInt8) (g : α → List UInt8) (l : List α) : accTo p g l 0 = p := by simp [accTo]
theorem acc_succ {α : Type} (p : List UInt8) (g : α → List UInt8) {l : List α} {k : Nat} {x : α} (h : l[k]? = some x) : accTo p g l (k + 1) = accTo p g l k ++ g x := by
  unfold accTo; rw [List.take_add_one, h]; simp
theorem acc_all {α : Type} (p : List UInt8) (g : α → List UInt8) (l : List α) : accTo p g l l.length = p ++ l.flatMap g := by unfold accTo; rw [List.take_length]
theorem acc_le {α : Type} (p : List UInt8) (g : α → List UInt8) (l : List α) (k : Nat) : (accTo p g l k).length ≤ (p ++ l.flatMap g).length := by
  unfold accTo
  have e : l.flatMap g = (l.take k).flatMap g ++ (l.drop k).flatMap g := by rw [← List.flatMap_append, List.take_append_drop]
  rw [e]; simp

set_option maxHeartbeats 400000 in
theorem wire_Ints (l : List Int) (hl : ∀ x ∈ l, -9223372036854775808 ≤ x ∧ x ≤ 9223372036854775807) (hT : (encInts l).length ≤ 140737488355000) (hN : l.length ≤ 140737488355000) (a : Option Addr) (n c : Nat) (w : World) (hs : Sl w 1 a n c (l.map I64)) :
    Calls Tryd.prog 60 #[.slice a n c] w (Gives 5 1 (encInts l).length ((encInts l).map B8) w) := by
  obtain rfl := hs.n_eq
  go_enter Tryd.func60, Tryd.ntmps60
  go_wp2_with fail
  refine (wire_Int _ (by omega) (by omega) _).mono ?_
  rintro e w1 ⟨a1, c1, rfl, ho1, hb1⟩
  go_wp2_with fail
  go_loopg [3, 11] l.length (fun g x i w' => ∃ (k : Nat) (a : Option Addr) (c : Nat) (xs : List UInt8), k ≤ l.length ∧ g = l.length - k ∧ xs = accTo (encInt l.length) encInt l k ∧ i = .int .i64 k ∧ x = .slice a xs.length c ∧ Own w' w.heap.size 5 1 a xs.length c (xs.map B8) ∧ Below w.heap.size w w')
  case atStart => exact ⟨0, a1, c1, encInt l.length, by omega, by omega, (acc_zero _ _ _).symm, rfl, rfl, ho1, hb1⟩
  case round =>
    obtain ⟨k, a2, c2, xs, hk, hg, hxs, rfl, rfl, hown, hb⟩ := hrel
    have HG := hide hg
    have hle : xs.length ≤ 140737488355000 := by rw [hxs]; exact Nat.le_trans (acc_le _ _ _ _) hT
    have HX := hide hxs
    clear hg hxs
    by_cases hkl : k < l.length
    · obtain ⟨x, hx⟩ : ∃ x, l[k]? = some x := ⟨l[k], by simp [hkl]⟩
      have hcx := hl x (List.mem_of_getElem? hx)
      obtain ⟨ys, HY⟩ : ∃ ys, Hid (ys = encInt x) := ⟨_, rfl⟩
      have HS : Hid (accTo (encInt l.length) encInt l (k + 1) = xs ++ ys) := by show _ = _; rw [HX.out, HY.out]; exact acc_succ _ _ hx
      have hsum : xs.length + ys.length ≤ 140737488355000 := by rw [← List.length_append, ← HS.out]; exact Nat.le_trans (acc_le _ _ _ _) hT
      have HH := hide hx
      have HC : Hid (∀ w, Calls Tryd.prog 26 #[.int .i64 x] w (Gives 5 1 ys.length (ys.map B8) w)) := fun w => by rw [HY.out]; exact wire_Int x hcx.1 hcx.2 w
      clear hx
      go_wp2_with (first
        | (with_reducible refine idx_i 13 _ _ _ _ _ l rfl (hs.below hb) _ _ k rfl rfl x HH.out ?_; intro b o hcell hbo)
        | (go_at_call 26; refine (HC.out _).mono ?_; rintro e w2 ⟨a3, c3, rfl, ho3, hb3⟩)
        | (at_builtin; refine app_bs rfl _ _ rfl w w.heap.size _ _ _ _ rfl (hown.below hb3) _ _ _ ys rfl ho3.sl (by omega) (Nat.le_trans hb.size hb3.size) (hb.trans (hb3.mono hb.size)) ?_; intro a' c' w' ho' hgr' hb'))
      go_roundg (l.length - (k + 1))
      case measure => have := HG.out; omega
      case rel => exact ⟨k + 1, a', c', xs ++ ys, by omega, rfl, HS.out.symm, by go_num, by rw [List.length_append], by rw [List.length_append, List.map_append]; exact ho', hb'⟩
    · obtain rfl : k = l.length := by omega
      go_wp2
      go_ret
      have e : encInts l = xs := by rw [HX.out, acc_all]; rfl
      rw [e]
      exact ⟨a2, c2, rfl, hown, hb⟩

set_option maxHeartbeats 400000 in
theorem ref_Ints (l : List Int) (hl : ∀ x ∈ l, -9223372036854775808 ≤ x ∧ x ≤ 9223372036854775807) (hT : (encInts l).length ≤ 140737488355000) (hN : l.length ≤ 140737488355000) (a : Option Addr) (n c : Nat) (w : World) (hs : Sl w 1 a n c (l.map I64)) :
    Calls Tryd.prog 63 #[.slice a n c] w (Gives 5 1 (encInts l).length ((encInts l).map B8) w) := by
  obtain rfl := hs.n_eq
  go_enter Tryd.func63, Tryd.ntmps63
  go_wp2_with fail
  refine (ref_Int _ (by omega) (by omega) _).mono ?_
  rintro e w1 ⟨a1, c1, rfl, ho1, hb1⟩
  go_wp2_with fail
  go_loopg [3, 4] l.length (fun g x i w' => ∃ (k : Nat) (a : Option Addr) (c : Nat) (xs : List UInt8), k ≤ l.length ∧ g = l.length - k ∧ xs = accTo (encInt l.length) encInt l k ∧ i = .int .i64 k ∧ x = .slice a xs.length c ∧ Own w' w.heap.size 5 1 a xs.length c (xs.map B8) ∧ Below w.heap.size w w')
  case atStart => exact ⟨0, a1, c1, encInt l.length, by omega, by omega, (acc_zero _ _ _).symm, rfl, rfl, ho1, hb1⟩
  case round =>
    obtain ⟨k, a2, c2, xs, hk, hg, hxs, rfl, rfl, hown, hb⟩ := hrel
    have HG := hide hg
    have hle : xs.length ≤ 140737488355000 := by rw [hxs]; exact Nat.le_trans (acc_le _ _ _ _) hT
    have HX := hide hxs
    clear hg hxs
    by_cases hkl : k < l.length
    · obtain ⟨x, hx⟩ : ∃ x, l[k]? = some x := ⟨l[k], by simp [hkl]⟩
      have hcx := hl x (List.mem_of_getElem? hx)
      obtain ⟨ys, HY⟩ : ∃ ys, Hid (ys = encInt x) := ⟨_, rfl⟩
      have HS : Hid (accTo (encInt l.length) encInt l (k + 1) = xs ++ ys) := by show _ = _; rw [HX.out, HY.out]; exact acc_succ _ _ hx
      have hsum : xs.length + ys.length ≤ 140737488355000 := by rw [← List.length_append, ← HS.out]; exact Nat.le_trans (acc_le _ _ _ _) hT
      have HH := hide hx
      have HC : Hid (∀ w, Calls Tryd.prog 30 #[.int .i64 x] w (Gives 5 1 ys.length (ys.map B8) w)) := fun w => by rw [HY.out]; exact ref_Int x hcx.1 hcx.2 w
      clear hx
      go_wp2_with (first
        | (with_reducible refine idx_i 17 _ _ _ _ _ l rfl (hs.below hb) _ _ k rfl rfl x HH.out ?_; intro b o hcell hbo)
        | (go_at_call 30; refine (HC.out _).mono ?_; rintro e w2 ⟨a3, c3, rfl, ho3, hb3⟩)
        | (at_builtin; refine app_bs rfl _ _ rfl w w.heap.size _ _ _ _ rfl (hown.below hb3) _ _ _ ys rfl ho3.sl (by omega) (Nat.le_trans hb.size hb3.size) (hb.trans (hb3.mono hb.size)) ?_; intro a' c' w' ho' hgr' hb'))
      go_roundg (l.length - (k + 1))
      case measure => have := HG.out; omega
      case rel => exact ⟨k + 1, a', c', xs ++ ys, by omega, rfl, HS.out.symm, by go_num, by rw [List.length_append], by rw [List.length_append, List.map_append]; exact ho', hb'⟩
    · obtain rfl : k = l.length := by omega
      go_wp2
      go_ret
      have e : encInts l = xs := by rw [HX.out, acc_all]; rfl
      rw [e]
      exact ⟨a2, c2, rfl, hown, hb⟩

end Go.Proofs.YtblgmjnkllkhbaaDoor
end

/- the text Hash13 -/
section
namespace Go.Proofs.YtblgmjnkllkhbaaDoor
open Go.RowKit Go.Dx

def hexd (n : Nat) : UInt8 := [48, 49, 50, 51, 52, 53, 54, 55, 56, 57, 97, 98, 99, 100, 101, 102].getD n 0
def hexL (l : List UInt8) : List UInt8 := l.flatMap fun c => [hexd (c.toNat / 16), hexd (c.toNat % 16)]
theorem hexL_len (l : List UInt8) : (hexL l).length = 2 * l.length := by
  unfold hexL
  induction l with
  | nil => rfl
  | cons x l ih => rw [List.flatMap_cons, List.length_append, ih]; simp; omega
theorem hexL_snoc (l : List UInt8) (c : UInt8) : hexL (l ++ [c]) = hexL l ++ [hexd (c.toNat / 16), hexd (c.toNat % 16)] := by simp [hexL]
def hexT : ByteArray := ⟨#[48, 49, 50, 51, 52, 53, 54, 55, 56, 57, 97, 98, 99, 100, 101, 102]⟩
theorem hexT_size : hexT.size = 16 := rfl
theorem hexT_get : ∀ i : Fin 16, (hexT[i.1]'(by rw [hexT_size]; exact i.2)) = hexd i.1 := by decide
section
variable {w : World} {ops : Array Oper} {rest : List Oper} {o : Oper} {act : Act} {Q : Exit → Act → World → Prop}
/-- 'append(out, d, e)' on []byte -/
theorem app_b2 (hg : o.guard = none) (s x : Operand) (hop : o.op = Op.call { callee := Callee.builtin Builtin.append, args := #[s, x], argTypes := #[52, 52] })
    (w0 : World) (B : Nat) (a : Option Addr) (n c : Nat) (xs : List Value) (hs : act.eval s = .slice a n c) (hown : Own w B 5 1 a n c xs)
    (u v : Int) (hx : act.eval x = .slice (some ⟨w.heap.size, 0, none⟩) 2 2)
    (hn : n + 2 ≤ 140737488355328) (hB : B ≤ w.heap.size) (hbel : Below B w0 w)
    (hK : ∀ a' c' w', Own w' B 5 1 a' (n + 2) c' (xs ++ [.int .u8 u, .int .u8 v]) → w.grownBy w' (a.map (·.block)) → Below B w0 w' → wpList Tryd.prog ops Q rest (act.put o.dst (.slice a' (n + 2) c')) w') :
    wpList Tryd.prog ops Q (o :: rest) act (w.alloc (.cells #[.int .u8 u, .int .u8 v] 5)) :=
  append_lit hg s x 52 hop 5 (.int .u8 0) 1 1 Tryd.underlying52 info_u8 rfl w0 B a n c xs hs hown 2 [.int .u8 u, .int .u8 v] hx rfl (by simp [Value.oneCell']) (by omega) (by unfold maxLen; omega) hB hbel hK
end
end Go.Proofs.YtblgmjnkllkhbaaDoor
end

/- the text Hash19 -/
section
namespace Go.Proofs.YtblgmjnkllkhbaaDoor
open Go.RowKit Go.Dx

def hx1 : List UInt8 := [98, 97, 55, 56, 49, 54, 98, 102, 56, 102, 48, 49, 99, 102, 101, 97, 52, 49, 52, 49, 52, 48, 100, 101, 53, 100, 97, 101, 50, 50, 50, 51, 98, 48, 48, 51, 54, 49, 97, 51, 57, 54, 49, 55, 55, 97, 57, 99, 98, 52, 49, 48, 102, 102, 54, 49, 102, 50, 48, 48, 49, 53, 97, 100]
def hx2 : List UInt8 := [53, 98, 100, 99, 99, 49, 52, 54, 98, 102, 54, 48, 55, 53, 52, 101, 54, 97, 48, 52, 50, 52, 50, 54, 48, 56, 57, 53, 55, 53, 99, 55, 53, 97, 48, 48, 51, 102, 48, 56, 57, 100, 50, 55, 51, 57, 56, 51, 57, 100, 101, 99, 53, 56, 98, 57, 54, 52, 101, 99, 51, 56, 52, 51]
def hx3 : List UInt8 := [51, 54, 99, 100, 53, 48, 56, 53, 48, 51, 50, 57, 102, 56, 56, 52, 48, 54, 101, 51, 49, 98, 98, 56, 97, 55, 100, 56, 102, 98, 54, 50]
set_option maxRecDepth 100000 in
theorem ex1 : hexL (sha [97, 98, 99]) = hx1 := by decide +kernel
set_option maxRecDepth 100000 in
theorem ex2 : hexL (macL [74, 101, 102, 101] [119, 104, 97, 116, 32, 100, 111, 32, 121, 97, 32, 119, 97, 110, 116, 32, 102, 111, 114, 32, 110, 111, 116, 104, 105, 110, 103, 63]) = hx2 := by decide +kernel
set_option maxRecDepth 100000 in
theorem ex3 : hexL ((sha (inputL 8 [⟨#[97]⟩, ⟨#[]⟩])).take 16) = hx3 := by decide +kernel
theorem hsum_at {l r : List UInt8} (h : sha l = r) (hl : l.length ≤ 100000000) {a : Option Addr} {n c : Nat} {w : World} (hL : Laid w) (hs : Sl w 1 a n c (l.map B8)) :
    Calls Tryd.prog 61 #[.slice a n c] w fun e w' => e = .returned (.agg (r.map B8).toArray) ∧ Below w.heap.size w w' := by subst h; exact hsum_any l hl a n c w hL hs
theorem ssum_at {l r : List UInt8} (h : sha l = r) (hl : l.length ≤ 500000000) {w : World} (hL : Laid w) :
    Calls Tryd.prog 55 #[SV l] w fun e w' => e = .returned (.agg (r.map B8).toArray) ∧ Below w.heap.size w w' := by subst h; exact ssum_any l hl w hL
theorem of_at {t : Int} {ps : List ByteArray} {r : List UInt8} (h : (sha (inputL t ps)).take 16 = r) (hn : ps.length ≤ 1000) (hsz : ∀ s ∈ ps, s.size ≤ 10000) {a : Option Addr} {n c : Nat} {w : World} (hL : Laid w) (hs : Sl w 1 a n c (ps.map Value.string)) :
    Calls Tryd.prog 34 #[.int .i64 t, .slice a n c] w fun e w' => e = .returned (.agg (r.map B8).toArray) ∧ Below w.heap.size w w' := by subst h; exact of_any t ps hn hsz hL hs
theorem mac_at {key text : ByteArray} {r : List UInt8} (h : macL key.data.toList text.data.toList = r) (hk : key.size ≤ 100000) (ht : text.size ≤ 100000) {w : World} (hL : Laid w) :
    Calls Tryd.prog 49 #[.string key, .string text] w fun e w' => e = .returned (.string ⟨r.toArray⟩) ∧ Below w.heap.size w w' := by subst h; exact mac_any key text hk ht w hL
theorem guard_32 : Tryd.prog.eqGuardType Tryd.prog.depth 89 = false := by kernel_rfl
theorem bnext {B : Nat} {w0 w w' : World} (h : Below B w0 w ∧ B ≤ w.heap.size) (hb : Below w.heap.size w w') : Below B w0 w' ∧ B ≤ w'.heap.size := ⟨h.1.trans (hb.mono h.2), Nat.le_trans h.2 hb.size⟩
theorem Sl.fresh_fz (w : World) (e : TypeId) (fz : Nat × Nat) (n : Nat) (us : List Value) (hn : us.length = n) (hm : n ≤ maxLen) : Sl (w.alloc (.cells us.toArray e fz)) 1 (some ⟨w.heap.size, 0, none⟩) n n us :=
  ⟨by omega, Nat.le_refl _, hm, (fun h => by cases h), fun p hp j u hj => by
    cases hp
    rw [Addr.add_lit, Nat.zero_add, cell_of_row _ w.heap.size j us.toArray e _ (heap_alloc_new w _)]
    simpa using hj⟩
end Go.Proofs.YtblgmjnkllkhbaaDoor
end

/- the text HL3 -/
section
namespace Go.Proofs.YtblgmjnkllkhbaaDoor
open Go.RowKit Go.Dx

theorem rsum_at {l r : List UInt8} (h : sha l = r) (hl : l.length ≤ 100000000) {a : Option Addr} {n c : Nat} {w : World} (hL : LaidR w) (hs : Sl w 1 a n c (l.map B8)) :
    Calls Tryd.prog 66 #[.slice a n c] w fun e w' => e = .returned (.agg (r.map B8).toArray) ∧ Below w.heap.size w w' := by subst h; exact ref_Sum l hl a n c w hL hs
end Go.Proofs.YtblgmjnkllkhbaaDoor
end

/- the text HL4 -/
section
namespace Go.Proofs.YtblgmjnkllkhbaaDoor
open Go.RowKit Go.Dx

theorem guard_dig : Tryd.prog.eqGuardType Tryd.prog.depth 23 = false := by kernel_rfl
theorem i64_and255 (n : Int) : bits .and .i64 n 255 = n % 256 := by
  have h : (BitVec.ofInt 64 255).toNat = 2 ^ 8 - 1 := by decide
  have key : (BitVec.ofInt 64 n &&& BitVec.ofInt 64 255).toNat = (n % ((2 ^ 64 : Nat) : Int)).toNat % 2 ^ 8 := by
    rw [BitVec.toNat_and, BitVec.toNat_ofInt, h, Nat.and_two_pow_sub_one_eq_mod]
  show IntKind.i64.wrap ((BitVec.ofInt 64 n &&& BitVec.ofInt 64 255).toNat : Nat) = n % 256
  rw [key, IntKind.wrap_i64]
  omega
theorem input_mod (t : Int) (ps : List ByteArray) : inputL (t % 256) ps = inputL t ps := by
  unfold inputL tagB
  rw [Int.emod_emod_of_dvd _ (Int.dvd_refl 256)]
theorem rof_at {t : Int} {ps : List ByteArray} {r : List UInt8} (h : (sha (inputL t ps)).take 16 = r) (hn : ps.length ≤ 1000) (hsz : ∀ s ∈ ps, s.size ≤ 10000) {a : Option Addr} {n c : Nat} {w : World} (hL : LaidR w) (hs : Sl w 1 a n c (ps.map Value.string)) :
    Calls Tryd.prog 35 #[.int .i64 t, .slice a n c] w fun e w' => e = .returned (.agg (r.map B8).toArray) ∧ Below w.heap.size w w' := by subst h; exact rof_any t ps hn hsz hL hs
end Go.Proofs.YtblgmjnkllkhbaaDoor
end

/- the text HL5 -/
section
namespace Go.Proofs.YtblgmjnkllkhbaaDoor
open Go.RowKit Go.Dx

theorem to_bytes_g {w : World} {ops : Array Oper} {rest : List Oper} {act : Act} {Q : Exit → Act → World → Prop} {ty : TypeId} {pos : String} {after : Array Edge} {g : Option (Nat × Bool)} (d : Nat) (x : Operand) (s : ByteArray) (hx : act.eval x = .string s) (hm : s.size ≤ maxLen)
    (hw : Region.wanted { dst := some d, op := .convert 9 52 x, type := ty, pos := pos, after := after, guard := g } (yielded ops act.tmps) = true)
    (hK : ∀ a c w', Sl w' 1 a s.size c (s.data.toList.map B8) → Below w.heap.size w w' → (∀ p, a = some p → w.heap.size ≤ p.block) → wpList Tryd.prog ops Q rest (act.put (some d) (.slice a s.size c)) w') :
    wpList Tryd.prog ops Q ({ dst := some d, op := .convert 9 52 x, type := ty, pos := pos, after := after, guard := g } :: rest) act w :=
  unguard_any hw (to_bytes d x s hx hm hK)
end Go.Proofs.YtblgmjnkllkhbaaDoor
end

/- the text HL1 -/
section
namespace Go.Proofs.YtblgmjnkllkhbaaDoor
open Go.RowKit Go.Dx

theorem toList_ne {x y : ByteArray} (h : x ≠ y) : (x.toList == y.toList) = false := beq_eq_false_iff_ne.2 fun e => h (str_inj.1 (by rw [← Lib.toList_data, ← Lib.toList_data]; exact e))
theorem append_none (x : ByteArray) : x ++ ⟨#[]⟩ = x := by
  apply str_inj.1
  simp
end Go.Proofs.YtblgmjnkllkhbaaDoor
end

/- the text Pure3 -/
section
/- Sequences of decodings. No Go. -/
namespace Go.Dx

/-- k decodings, one behind the other, from A on: the values, the place behind them, the error of the first that fails -/
def seqTo {α : Type} (f : List UInt8 → α × Int × Int) (l : List UInt8) (A : Nat) : Nat → List α × Nat × Int
  | 0 => ([], A, 0)
  | k + 1 =>
    let r := seqTo f l A k
    if r.2.2 ≠ 0 then r
    else
      let x := f (l.drop r.2.1)
      if x.2.2 ≠ 0 then ([], 0, x.2.2) else (r.1 ++ [x.1], r.2.1 + x.2.1.toNat, 0)
def decSeq {α : Type} (f : List UInt8 → α × Int × Int) (l : List UInt8) : List α × Int × Int :=
  if cntErr l 1 ≠ 0 then ([], 0, cntErr l 1)
  else
    let r := seqTo f l (decInt l).2.1.toNat (decInt l).1.toNat
    if r.2.2 ≠ 0 then ([], 0, r.2.2) else (r.1, (r.2.1 : Int), 0)

theorem seqTo_err {α : Type} {f : List UInt8 → α × Int × Int} {l : List UInt8} {A k : Nat} (h : (seqTo f l A k).2.2 ≠ 0) : ∀ m, seqTo f l A (k + m) = seqTo f l A k
  | 0 => rfl
  | m + 1 => by
    have ih := seqTo_err h m
    show (let r := seqTo f l A (k + m); if r.2.2 ≠ 0 then r else _) = _
    simp only
    rw [ih, if_pos h]
theorem seqTo_stop {α : Type} {f : List UInt8 → α × Int × Int} {l : List UInt8} {A k : Nat} {xs : List α} {B : Nat} (h : seqTo f l A k = (xs, B, 0)) (he : (f (l.drop B)).2.2 ≠ 0) :
    seqTo f l A (k + 1) = ([], 0, (f (l.drop B)).2.2) := by
  show (let r := seqTo f l A k; if r.2.2 ≠ 0 then r else _) = _
  simp only [h]
  rw [if_neg (by simp), if_pos he]
theorem seqTo_step {α : Type} {f : List UInt8 → α × Int × Int} {l : List UInt8} {A k : Nat} {xs : List α} {B : Nat} (h : seqTo f l A k = (xs, B, 0)) (he : (f (l.drop B)).2.2 = 0) :
    seqTo f l A (k + 1) = (xs ++ [(f (l.drop B)).1], B + (f (l.drop B)).2.1.toNat, 0) := by
  show (let r := seqTo f l A k; if r.2.2 ≠ 0 then r else _) = _
  simp only [h]
  rw [if_neg (by simp), if_neg (by simp [he])]
theorem decSeq_cnt {α : Type} {f : List UInt8 → α × Int × Int} {l : List UInt8} (h : cntErr l 1 ≠ 0) : decSeq f l = ([], 0, cntErr l 1) := by unfold decSeq; rw [if_pos h]
theorem decSeq_err {α : Type} {f : List UInt8 → α × Int × Int} {l : List UInt8} {A N k : Nat} (h : cntErr l 1 = 0) (hA : (decInt l).2.1 = (A : Int)) (hN : (decInt l).1 = (N : Int)) {E : Int} (hk : k < N) (hE : E ≠ 0)
    (hs : seqTo f l A (k + 1) = ([], 0, E)) : decSeq f l = ([], 0, E) := by
  unfold decSeq
  rw [if_neg (by simp [h]), hA, hN]
  obtain ⟨m, rfl⟩ : ∃ m, N = (k + 1) + m := ⟨N - (k + 1), by omega⟩
  have := seqTo_err (f := f) (l := l) (A := A) (k := k + 1) (by rw [hs]; exact hE) m
  simp only [Int.toNat_natCast]
  rw [this, hs]
  simp [hE]
theorem decSeq_ok {α : Type} {f : List UInt8 → α × Int × Int} {l : List UInt8} {A N : Nat} (h : cntErr l 1 = 0) (hA : (decInt l).2.1 = (A : Int)) (hN : (decInt l).1 = (N : Int)) {xs : List α} {B : Nat}
    (hs : seqTo f l A N = (xs, B, 0)) : decSeq f l = (xs, (B : Int), 0) := by
  unfold decSeq
  rw [if_neg (by simp [h]), hA, hN]
  simp [hs]
theorem seqTo_len {α : Type} {f : List UInt8 → α × Int × Int} {l : List UInt8} {A : Nat} : ∀ {k : Nat} {xs : List α} {B : Nat}, seqTo f l A k = (xs, B, 0) → xs.length = k
  | 0, xs, B, h => by simp [seqTo] at h; obtain ⟨rfl, _⟩ := h; rfl
  | k + 1, xs, B, h => by
    by_cases h0 : (seqTo f l A k).2.2 = 0
    · by_cases he : (f (l.drop (seqTo f l A k).2.1)).2.2 = 0
      · have := seqTo_step (k := k) (xs := (seqTo f l A k).1) (B := (seqTo f l A k).2.1) (by rw [← h0]) he
        rw [this] at h
        injection h with h1 h2
        rw [← h1, List.length_append, seqTo_len (k := k) (xs := (seqTo f l A k).1) (B := (seqTo f l A k).2.1) (by rw [← h0])]
        rfl
      · have := seqTo_stop (k := k) (xs := (seqTo f l A k).1) (B := (seqTo f l A k).2.1) (by rw [← h0]) he
        rw [this] at h
        injection h with h1 h2
        injection h2 with h2 h3
        exact absurd h3 he
    · have := seqTo_err h0 1
      rw [this] at h
      rw [h] at h0
      exact absurd rfl h0
theorem decBytes_used {l : List UInt8} (h : (decBytes l).2.2 = 0) : 1 ≤ (decBytes l).2.1 ∧ (decBytes l).2.1 ≤ l.length := by
  by_cases hE : cntErr l 1 = 0
  · obtain ⟨A, N, e1, e2, e3, hA, hAN, hN⟩ := cnt_facts (by omega) hE
    unfold decBytes
    rw [if_pos hE, e1, e2]
    simp at hAN ⊢
    omega
  · unfold decBytes at h
    rw [if_neg hE] at h
    exact absurd h hE
end Go.Dx
end

/- the text Pure4 -/
section
/- The plain laws of layer 1: round trip, canonical, truncated. No Go. -/
namespace Go.Dx

theorem val_digs_to {m k : Nat} (h : m < 256 ^ k) : ∀ j, j ≤ k → val (digs m k j) = m / 256 ^ (k - j)
  | 0, _ => by rw [digs_zero, Nat.sub_zero, Nat.div_eq_of_lt h]; rfl
  | j + 1, hj => by
    rw [digs_succ, val_snoc, val_digs_to h j (by omega), dig_toNat]
    have e1 : k - j = (k - 1 - j) + 1 := by omega
    have e2 : k - (j + 1) = k - 1 - j := by omega
    rw [e1, e2, Nat.pow_succ, ← Nat.div_div_eq_div_mul]
    omega
theorem val_digs {m k : Nat} (h : m < 256 ^ k) : val (digs m k k) = m := by rw [val_digs_to h k (Nat.le_refl _), Nat.sub_self, Nat.pow_zero, Nat.div_one]
theorem map_flp_flp (neg : Bool) (l : List UInt8) : (l.map (flp neg)).map (flp neg) = l := by
  rw [List.map_map]
  have : (flp neg ∘ flp neg) = id := by funext d; exact flp_flp neg d
  rw [this, List.map_id]
theorem hd_sign (neg : Bool) (k : Nat) (h : k ≤ 8) : decide ((hd neg k).toNat < 128) = neg := by
  cases neg with
  | false => have := hd_pos k h; apply decide_eq_false; omega
  | true => have := hd_neg k h; apply decide_eq_true; omega
theorem flp_hd (neg : Bool) (k : Nat) (h : k ≤ 8) : (flp neg (hd neg k)).toNat = 128 + k := by
  unfold hd; rw [flp_flp, UInt8.toNat_ofNat']; omega

/-- The first theorem of layer 1: what is encoded is decoded, whatever follows. -/
theorem decInt_enc {n : Int} (h0 : -9223372036854775808 ≤ n) (h1 : n ≤ 9223372036854775807) (t : List UInt8) :
    decInt (encInt n ++ t) = (n, (((encInt n).length : Nat) : Int), 0) := by
  have hm := mag_lt h0 h1
  have hL := len_klen (m := mag n) (by omega)
  have hval : n = if decide (n < 0) then -1 - (mag n : Int) else (mag n : Int) := by
    unfold mag
    by_cases hn : n < 0 <;> simp [hn] <;> omega
  rw [encInt_length]
  unfold encInt
  generalize mag n = m at *
  generalize klen m = k at *
  generalize decide (n < 0) = neg at *
  subst hval
  obtain ⟨h8, hk, hk2⟩ := hL
  rw [List.cons_append, decInt_cons, hd_sign _ _ h8, flp_hd _ _ h8, Nat.add_sub_cancel_left]
  have hlen : ((digs m k k).map (flp neg)).length = k := by rw [List.length_map, digs_length]
  have htake : ((digs m k k).map (flp neg) ++ t).take k = (digs m k k).map (flp neg) := by
    have := List.take_left (l₁ := (digs m k k).map (flp neg)) (l₂ := t); rwa [hlen] at this
  have hv : val ((((digs m k k).map (flp neg) ++ t).take k).map (flp neg)) = m := by rw [htake, map_flp_flp, val_digs hk]
  rw [decK_ok (by omega) (by rw [List.length_append, hlen]; omega) ?_ (by rw [hv]; omega), hv]
  · rfl
  · rcases Nat.eq_zero_or_pos k with h | h
    · exact .inl h
    · refine .inr ?_
      obtain ⟨j, rfl⟩ : ∃ j, k = j + 1 := ⟨k - 1, by omega⟩
      have e : ((digs m (j + 1) (j + 1)).map (flp neg) ++ t).getD 0 0 = flp neg (dig m j) := by
        unfold digs; rw [List.range_succ_eq_map]; simp
      rw [e, flp_flp]
      intro hz
      have h3 := congrArg UInt8.toNat hz
      rw [dig_toNat] at h3
      rcases hk2 with h2 | h2
      · omega
      · have h4 : 1 ≤ m / 256 ^ j := (Nat.le_div_iff_mul_le (Nat.pow_pos (by omega))).2 (by simpa using h2)
        have h5 : m / 256 ^ j < 256 := (Nat.div_lt_iff_lt_mul (Nat.pow_pos (by omega))).2 (by rw [Nat.mul_comm]; rwa [← Nat.pow_succ])
        have h6 : m / 256 ^ j % 256 = m / 256 ^ j := Nat.mod_eq_of_lt h5
        simp at h3
        omega

/-- what lacks its end asks for more -/
theorem decInt_cut {n : Int} (h0 : -9223372036854775808 ≤ n) (h1 : n ≤ 9223372036854775807) {i : Nat} (hi : i < (encInt n).length) : decInt ((encInt n).take i) = (0, 0, 3) := by
  have hm := mag_lt h0 h1
  have hL := len_klen (m := mag n) (by omega)
  rw [encInt_length] at hi
  unfold encInt
  cases i with
  | zero => rfl
  | succ j =>
    rw [List.take_succ_cons, decInt_cons, hd_sign _ _ hL.1, flp_hd _ _ hL.1, Nat.add_sub_cancel_left]
    exact decK_more (by have := hL.1; omega) (by rw [List.length_take, List.length_map, digs_length]; omega)

/-- what is decoded was encoded -/
theorem decInt_canon {b : List UInt8} (h : (decInt b).2.2 = 0) : encInt (decInt b).1 = b.take (decInt b).2.1.toNat := by
  cases b with
  | nil => simp [decInt] at h
  | cons x t =>
    rw [decInt_cons] at h ⊢
    have hge := flp_ge x (decide (x.toNat < 128)) rfl
    generalize decide (x.toNat < 128) = neg at *
    obtain ⟨K, hK⟩ : ∃ K, (flp neg x).toNat = 128 + K := ⟨(flp neg x).toNat - 128, by omega⟩
    rw [hK, Nat.add_sub_cancel_left] at h ⊢
    by_cases h8 : 8 < K
    · rw [decK_8 h8] at h; simp at h
    by_cases hl : t.length < K
    · rw [decK_more h8 hl] at h; simp at h
    by_cases hz : K = 0 ∨ flp neg (t.getD 0 0) ≠ 0
    · by_cases hb : 9223372036854775808 ≤ val ((t.take K).map (flp neg))
      · rw [decK_big h8 hl hz hb] at h; simp at h
      · rw [decK_ok h8 hl hz hb]
        have := (enc_iff hK (by omega) (by omega) (by omega)).2 hz
        show encInt (if neg then _ else _) = _
        rw [this]
        show _ = (x :: t).take ((K : Int) + 1).toNat
        rw [show ((K : Int) + 1).toNat = K + 1 by omega, List.take_succ_cons]
    · rw [decK_zero h8 hl (by omega) (by
        by_cases h : flp neg (t.getD 0 0) = 0
        · exact h
        · exact absurd (.inr h) hz)] at h
      simp at h
end Go.Dx
end

/- the text Pure5 -/
section
/- What is decoded was encoded: strings and lists. No Go. -/
namespace Go.Dx

theorem decInt_range (b : List UInt8) : -9223372036854775808 ≤ (decInt b).1 ∧ (decInt b).1 ≤ 9223372036854775807 := by
  by_cases h : (decInt b).2.2 = 0
  · obtain ⟨_, _, h1, h2⟩ := decInt_used h; exact ⟨h1, h2⟩
  · rw [decInt_err h]; simp
/-- a decoder and its encoder -/
def Canon {α : Type} (f : List UInt8 → α × Int × Int) (enc : α → List UInt8) : Prop :=
  ∀ b, (f b).2.2 = 0 → 0 ≤ (f b).2.1 ∧ (f b).2.1 ≤ b.length ∧ enc (f b).1 = b.take (f b).2.1.toNat
theorem canon_int : Canon decInt encInt := fun b h => by
  obtain ⟨h1, h2, _, _⟩ := decInt_used h
  exact ⟨by omega, h2, decInt_canon h⟩
theorem canon_bytes : Canon decBytes fun s => encBytes s.data.toList := fun b h => by
  by_cases hE : cntErr b 1 = 0
  · obtain ⟨A, N, e1, e2, e3, hA, hAN, hN⟩ := cnt_facts (by omega) hE
    have hc := decInt_canon e3
    rw [e1, e2] at hc
    simp at hAN hc
    unfold decBytes
    rw [if_pos hE, e1, e2]
    simp only [Int.toNat_natCast]
    refine ⟨by omega, by omega, ?_⟩
    rw [show ((A : Int) + (N : Int)).toNat = A + N by omega, List.take_add]
    unfold encBytes
    rw [List.length_take, List.length_drop, show min N (b.length - A) = N by omega, hc]
  · unfold decBytes at h
    rw [if_neg hE] at h
    exact absurd h hE
theorem seqTo_canon {α : Type} {f : List UInt8 → α × Int × Int} {enc : α → List UInt8} (hf : Canon f enc) {l : List UInt8} {A : Nat} (hA : A ≤ l.length) :
    ∀ {k : Nat} {xs : List α} {B : Nat}, seqTo f l A k = (xs, B, 0) → A ≤ B ∧ B ≤ l.length ∧ xs.flatMap enc = (l.drop A).take (B - A)
  | 0, xs, B, h => by
    simp [seqTo] at h
    obtain ⟨rfl, rfl⟩ := h
    exact ⟨Nat.le_refl _, hA, by simp⟩
  | k + 1, xs, B, h => by
    by_cases h0 : (seqTo f l A k).2.2 = 0
    · obtain ⟨h1, h2, h3⟩ := seqTo_canon hf hA (k := k) (xs := (seqTo f l A k).1) (B := (seqTo f l A k).2.1) (by rw [← h0])
      by_cases he : (f (l.drop (seqTo f l A k).2.1)).2.2 = 0
      · have hs := seqTo_step (k := k) (xs := (seqTo f l A k).1) (B := (seqTo f l A k).2.1) (by rw [← h0]) he
        rw [hs] at h
        injection h with g1 g2
        injection g2 with g2 g3
        obtain ⟨c1, c2, c3⟩ := hf _ he
        generalize seqTo f l A k = r at *
        obtain ⟨U, hU⟩ := Int.eq_ofNat_of_zero_le c1
        rw [hU] at c2 c3 g2
        rw [List.length_drop] at c2
        simp only [Int.toNat_natCast] at c3 g2
        subst g1 g2
        refine ⟨by omega, by omega, ?_⟩
        rw [List.flatMap_append, h3, List.flatMap_cons, List.flatMap_nil, List.append_nil, c3, show r.2.1 + U - A = (r.2.1 - A) + U by omega, List.take_add, List.drop_drop,
          show A + (r.2.1 - A) = r.2.1 by omega]
      · have hs := seqTo_stop (k := k) (xs := (seqTo f l A k).1) (B := (seqTo f l A k).2.1) (by rw [← h0]) he
        rw [hs] at h
        injection h with g1 g2
        injection g2 with g2 g3
        exact absurd g3 he
    · have := seqTo_err h0 1
      rw [this] at h
      rw [h] at h0
      exact absurd rfl h0
theorem decSeq_bad {α : Type} {f : List UInt8 → α × Int × Int} {l : List UInt8} (h : (decSeq f l).2.2 ≠ 0) : decSeq f l = ([], 0, (decSeq f l).2.2) := by
  unfold decSeq at *
  by_cases hE : cntErr l 1 = 0
  · rw [if_neg (by simp [hE])] at h ⊢
    by_cases hr : (seqTo f l (decInt l).2.1.toNat (decInt l).1.toNat).2.2 = 0
    · rw [if_neg (by simp [hr])] at h; exact absurd rfl h
    · simp only [if_pos hr]
  · simp only [if_pos hE]
theorem decSeq_canon {α : Type} {f : List UInt8 → α × Int × Int} {enc : α → List UInt8} (hf : Canon f enc) {l : List UInt8} (h : (decSeq f l).2.2 = 0) :
    0 ≤ (decSeq f l).2.1 ∧ (decSeq f l).2.1 ≤ l.length ∧ encInt ((decSeq f l).1.length : Nat) ++ (decSeq f l).1.flatMap enc = l.take (decSeq f l).2.1.toNat ∧ (decSeq f l).1.length ≤ l.length := by
  by_cases hE : cntErr l 1 = 0
  · obtain ⟨A, N, e1, e2, e3, hA, hAN, hN⟩ := cnt_facts (by omega) hE
    have hc := decInt_canon e3
    rw [e1, e2] at hc
    simp at hAN hc
    by_cases h0 : (seqTo f l A N).2.2 = 0
    · have hs : seqTo f l A N = ((seqTo f l A N).1, (seqTo f l A N).2.1, 0) := by rw [← h0]
      have hlen := seqTo_len hs
      obtain ⟨h1, h2, h3⟩ := seqTo_canon hf (by omega) hs
      rw [decSeq_ok hE e1 e2 hs]
      refine ⟨by simp, by simpa using h2, ?_, by simp only; omega⟩
      simp only [Int.toNat_natCast]
      rw [hlen, h3, hc, show (seqTo f l A N).2.1 = A + ((seqTo f l A N).2.1 - A) by omega, List.take_add, Nat.add_sub_cancel_left]
    · exfalso
      apply h0
      unfold decSeq at h
      rw [if_neg (by simp [hE]), e1, e2] at h
      simp only [Int.toNat_natCast] at h
      rw [if_pos h0] at h
      exact h
  · rw [decSeq_cnt hE] at h
    exact absurd h hE
theorem seqTo_all {α : Type} {f : List UInt8 → α × Int × Int} {P : α → Prop} (hP : ∀ b, P (f b).1) {l : List UInt8} {A : Nat} : ∀ k, ∀ x ∈ (seqTo f l A k).1, P x
  | 0 => by intro x hx; simp [seqTo] at hx
  | k + 1 => by
    intro x hx
    have ih := seqTo_all hP (l := l) (A := A) k
    unfold seqTo at hx
    simp only at hx
    split at hx
    · exact ih x hx
    · split at hx
      · simp at hx
      · rw [List.mem_append] at hx
        rcases hx with hx | hx
        · exact ih x hx
        · simp at hx; subst hx; exact hP _
theorem decSeq_all {α : Type} {f : List UInt8 → α × Int × Int} {P : α → Prop} (hP : ∀ b, P (f b).1) (l : List UInt8) : ∀ x ∈ (decSeq f l).1, P x := by
  intro x hx
  unfold decSeq at hx
  split at hx
  · simp at hx
  · simp only at hx
    split at hx
    · simp at hx
    · exact seqTo_all hP _ x hx
theorem encBytes_len (l : List UInt8) : l.length ≤ (encBytes l).length := by unfold encBytes; rw [List.length_append]; omega
theorem mem_flatMap_len {α : Type} (enc : α → List UInt8) : ∀ (xs : List α) (x : α), x ∈ xs → (enc x).length ≤ (xs.flatMap enc).length
  | y :: ys, x, h => by
    rw [List.flatMap_cons, List.length_append]
    rcases List.mem_cons.1 h with rfl | h
    · omega
    · have := mem_flatMap_len enc ys x h; omega
/-- the lists that are decoded are short -/
theorem decInts_short (l : List UInt8) : (encInts (decSeq decInt l).1).length ≤ l.length + 9 ∧ (decSeq decInt l).1.length ≤ l.length := by
  by_cases h : (decSeq decInt l).2.2 = 0
  · obtain ⟨h1, h2, h3, h4⟩ := decSeq_canon canon_int h
    refine ⟨?_, h4⟩
    unfold encInts
    rw [h3, List.length_take]
    omega
  · rw [decSeq_bad h]
    refine ⟨?_, by simp⟩
    show (encInt 0 ++ []).length ≤ _
    have := encInt_le 0
    simp
    omega
theorem decStrs_short (l : List UInt8) : (encStrs (decSeq decBytes l).1).length ≤ l.length + 9 ∧ (decSeq decBytes l).1.length ≤ l.length ∧ ∀ s ∈ (decSeq decBytes l).1, s.size ≤ l.length := by
  by_cases h : (decSeq decBytes l).2.2 = 0
  · obtain ⟨h1, h2, h3, h4⟩ := decSeq_canon canon_bytes h
    have h5 := congrArg List.length h3
    rw [List.length_append, List.length_take] at h5
    refine ⟨?_, h4, fun s hs => ?_⟩
    · unfold encStrs
      rw [h3, List.length_take]
      omega
    · have h6 := mem_flatMap_len (fun s : ByteArray => encBytes s.data.toList) _ s hs
      have h7 := encBytes_len s.data.toList
      have h8 : s.data.toList.length = s.size := Array.length_toList
      omega
  · rw [decSeq_bad h]
    refine ⟨?_, by simp, by simp⟩
    show (encInt 0 ++ []).length ≤ _
    have := encInt_le 0
    simp
    omega
theorem decBytes_short (l : List UInt8) : (decBytes l).1.size ≤ l.length := by
  by_cases h : (decBytes l).2.2 = 0
  · obtain ⟨h1, h2, h3⟩ := canon_bytes l h
    have h5 := congrArg List.length h3
    have h7 := encBytes_len (decBytes l).1.data.toList
    have h8 : (decBytes l).1.data.toList.length = (decBytes l).1.size := Array.length_toList
    rw [List.length_take] at h5
    simp only at h5
    omega
  · unfold decBytes at *
    split
    · rename_i hE; rw [if_pos hE] at h; exact absurd rfl h
    · exact Nat.zero_le _
end Go.Dx
end

/- the text Pure6 -/
section
/- Round trips of strings and lists. No Go. -/
namespace Go.Dx

/-- a decoder reads back what its encoder wrote, whatever follows -/
def Round {α : Type} (P : α → Prop) (f : List UInt8 → α × Int × Int) (enc : α → List UInt8) : Prop :=
  ∀ x t, P x → f (enc x ++ t) = (x, (((enc x).length : Nat) : Int), 0) ∧ 1 ≤ (enc x).length
theorem round_int : Round (fun x => -9223372036854775808 ≤ x ∧ x ≤ 9223372036854775807) decInt encInt := fun x t h => ⟨decInt_enc h.1 h.2 t, encInt_pos x⟩
theorem cnt_round {N : Nat} (hN : N ≤ 9223372036854775807) {size : Int} (h1 : 1 ≤ size) {r : List UInt8} (hr : N * size.toNat ≤ r.length) : cntErr (encInt (N : Int) ++ r) size = 0 := by
  have hd := decInt_enc (n := (N : Int)) (by omega) (by omega) r
  unfold cntErr
  rw [hd, if_neg (by simp), if_neg (by simp only; omega), if_neg]
  simp only
  rw [List.length_append]
  obtain ⟨S, rfl⟩ := Int.eq_ofNat_of_zero_le (a := size) (by omega)
  simp only [Int.toNat_natCast] at hr
  intro h
  have h2 : ¬ (N : Int) ≤ (((encInt (N : Int)).length + r.length : Nat) - ((encInt (N : Int)).length : Int) : Int) / (S : Int) := by omega
  apply h2
  rw [Int.le_ediv_iff_mul_le (by omega)]
  have h3 : ((N * S : Nat) : Int) = (N : Int) * (S : Int) := by simp
  rw [← h3]
  omega
theorem round_bytes : Round (fun s : ByteArray => s.size ≤ 9223372036854775807) decBytes (fun s => encBytes s.data.toList) := fun s t hs => by
  have hl : s.data.toList.length = s.size := Array.length_toList
  refine ⟨?_, ?_⟩
  · have e : encBytes s.data.toList ++ t = encInt (s.size : Int) ++ (s.data.toList ++ t) := by unfold encBytes; rw [hl, List.append_assoc]
    have hc : cntErr (encInt (s.size : Int) ++ (s.data.toList ++ t)) 1 = 0 := cnt_round hs (by omega) (by rw [List.length_append]; simp)
    have hd := decInt_enc (n := (s.size : Int)) (by omega) (by omega) (s.data.toList ++ t)
    simp only [e]
    unfold decBytes
    rw [if_pos hc, hd]
    simp only [Int.toNat_natCast]
    have e2 : (encInt (s.size : Int) ++ (s.data.toList ++ t)).drop (encInt (s.size : Int)).length = s.data.toList ++ t := List.drop_left
    have e3 : (s.data.toList ++ t).take s.size = s.data.toList := by rw [← hl]; exact List.take_left
    rw [e2, e3]
    unfold encBytes
    rw [hl, List.length_append, hl]
    simp
  · have := encInt_pos (s.data.toList.length : Int)
    unfold encBytes
    rw [List.length_append]
    omega
theorem seqTo_round {α : Type} {P : α → Prop} {f : List UInt8 → α × Int × Int} {enc : α → List UInt8} (hf : Round P f enc) (pre t : List UInt8) : ∀ (xs : List α), (∀ x ∈ xs, P x) →
    ∀ k, k ≤ xs.length → seqTo f (pre ++ (xs.flatMap enc ++ t)) pre.length k = (xs.take k, pre.length + ((xs.take k).flatMap enc).length, 0) := by
  intro xs hP k
  induction k with
  | zero => intro _; simp [seqTo]
  | succ k ih =>
    intro hk
    have h := ih (by omega)
    have hx : k < xs.length := by omega
    have hsplit : xs.flatMap enc = (xs.take k).flatMap enc ++ (enc xs[k] ++ (xs.drop (k + 1)).flatMap enc) := by
      conv => lhs; rw [← List.take_append_drop k xs, List.drop_eq_getElem_cons hx]
      rw [List.flatMap_append, List.flatMap_cons]
    have hd : (pre ++ (xs.flatMap enc ++ t)).drop (pre.length + ((xs.take k).flatMap enc).length) = enc xs[k] ++ ((xs.drop (k + 1)).flatMap enc ++ t) := by
      rw [List.drop_append, List.drop_of_length_le (by omega), List.nil_append, Nat.add_sub_cancel_left, hsplit, List.append_assoc, List.drop_left, List.append_assoc]
    have hr := (hf xs[k] ((xs.drop (k + 1)).flatMap enc ++ t) (hP _ (List.getElem_mem hx))).1
    rw [seqTo_step h (by rw [hd, hr]), hd, hr]
    have ht : xs.take (k + 1) = xs.take k ++ [xs[k]] := by rw [List.take_add_one, List.getElem?_eq_getElem hx]; rfl
    rw [ht, List.flatMap_append, List.length_append]
    simp [Nat.add_assoc]
theorem flatMap_ge {α : Type} {enc : α → List UInt8} : ∀ {xs : List α}, (∀ x ∈ xs, 1 ≤ (enc x).length) → xs.length ≤ (xs.flatMap enc).length
  | [], _ => by simp
  | x :: xs, h => by
    rw [List.flatMap_cons, List.length_append, List.length_cons]
    have := h x List.mem_cons_self
    have := flatMap_ge (xs := xs) fun y hy => h y (List.mem_cons_of_mem _ hy)
    omega
theorem decSeq_round {α : Type} {P : α → Prop} {f : List UInt8 → α × Int × Int} {enc : α → List UInt8} (hf : Round P f enc) (xs : List α) (hP : ∀ x ∈ xs, P x) (hN : xs.length ≤ 9223372036854775807) (t : List UInt8) :
    decSeq f ((encInt (xs.length : Int) ++ xs.flatMap enc) ++ t) = (xs, (((encInt (xs.length : Int) ++ xs.flatMap enc).length : Nat) : Int), 0) := by
  have hge : xs.length ≤ (xs.flatMap enc).length := flatMap_ge fun x hx => (hf x [] (hP x hx)).2
  have hd := decInt_enc (n := (xs.length : Int)) (by omega) (by omega) (xs.flatMap enc ++ t)
  have hc : cntErr (encInt (xs.length : Int) ++ (xs.flatMap enc ++ t)) 1 = 0 := cnt_round hN (by omega) (by rw [List.length_append, show ((1 : Int).toNat) = 1 from rfl]; omega)
  have hs := seqTo_round hf (encInt (xs.length : Int)) t xs hP xs.length (Nat.le_refl _)
  rw [List.take_length] at hs
  rw [List.append_assoc, decSeq_ok hc (by rw [hd]) (by rw [hd]) hs, List.length_append]
end Go.Dx
end

/- the text HL6 -/
section
namespace Go.Proofs.YtblgmjnkllkhbaaDoor
open Go.RowKit Go.Dx

theorem tagB_u8 (t : UInt8) : tagB (t.toNat : Int) = t := by
  apply UInt8.toNat_inj.1
  have := UInt8.toNat_lt t
  unfold tagB
  rw [UInt8.toNat_ofNat']
  omega
theorem encs_inj : ∀ (ps qs : List ByteArray), (∀ s ∈ ps, s.size ≤ 10000) → (∀ s ∈ qs, s.size ≤ 10000) → (ps.flatMap fun s => encBytes s.data.toList) = (qs.flatMap fun s => encBytes s.data.toList) → ps = qs
  | [], [], _, _, _ => rfl
  | [], q :: qs, _, hq, h => by
    have h1 : 1 ≤ (encBytes q.data.toList).length := (round_bytes q [] (by show q.size ≤ _; have := hq q List.mem_cons_self; omega)).2
    have h2 := congrArg List.length h
    rw [List.flatMap_cons, List.length_append, List.flatMap_nil, List.length_nil] at h2
    omega
  | p :: ps, [], hp, _, h => by
    have h1 : 1 ≤ (encBytes p.data.toList).length := (round_bytes p [] (by show p.size ≤ _; have := hp p List.mem_cons_self; omega)).2
    have h2 := congrArg List.length h
    rw [List.flatMap_cons, List.length_append, List.flatMap_nil, List.length_nil] at h2
    omega
  | p :: ps, q :: qs, hp, hq, h => by
    rw [List.flatMap_cons, List.flatMap_cons] at h
    have h1 := (round_bytes p (ps.flatMap fun s => encBytes s.data.toList) (by show p.size ≤ _; have := hp p List.mem_cons_self; omega)).1
    have h2 := (round_bytes q (qs.flatMap fun s => encBytes s.data.toList) (by show q.size ≤ _; have := hq q List.mem_cons_self; omega)).1
    rw [h, h2] at h1
    have e : q = p := congrArg Prod.fst h1
    subst e
    rw [encs_inj ps qs (fun s hs => hp s (List.mem_cons_of_mem _ hs)) (fun s hs => hq s (List.mem_cons_of_mem _ hs)) (List.append_cancel_left h)]
theorem input_inj {t u : UInt8} {ps qs : List ByteArray} (hp : ∀ s ∈ ps, s.size ≤ 10000) (hq : ∀ s ∈ qs, s.size ≤ 10000) (h : inputL (t.toNat : Int) ps = inputL (u.toNat : Int) qs) : t = u ∧ ps = qs := by
  unfold inputL at h
  rw [tagB_u8, tagB_u8] at h
  have h2 := List.cons.inj h
  exact ⟨h2.1, encs_inj ps qs hp hq h2.2⟩
theorem input_at {t : Int} {ps : List ByteArray} {r : List UInt8} (h : inputL t ps = r) (hn : ps.length ≤ 1000) (hsz : ∀ s ∈ ps, s.size ≤ 10000) {a : Option Addr} {n c : Nat} {w : World} (hs : Sl w 1 a n c (ps.map Value.string)) :
    Calls Tryd.prog 57 #[.int .i64 t, .slice a n c] w (Gives 5 1 r.length (r.map B8) w) := by subst h; exact input_any t ps hn hsz hs
theorem to_str_g {w : World} {ops : Array Oper} {rest : List Oper} {act : Act} {Q : Exit → Act → World → Prop} {ty : TypeId} {pos : String} {after : Array Edge} {g : Option (Nat × Bool)} (d : Nat) (x : Operand) (a : Option Addr) (n c : Nat) (l : List UInt8) (hx : act.eval x = .slice a n c) (hs : Sl w 1 a n c (l.map B8))
    (hw : Region.wanted { dst := some d, op := .convert 52 9 x, type := ty, pos := pos, after := after, guard := g } (yielded ops act.tmps) = true)
    (hK : wpList Tryd.prog ops Q rest (act.put (some d) (.string ⟨l.toArray⟩)) w) :
    wpList Tryd.prog ops Q ({ dst := some d, op := .convert 52 9 x, type := ty, pos := pos, after := after, guard := g } :: rest) act w :=
  unguard_any hw (to_str d x a n c l hx hs hK)
theorem arr_ne {X Y : List UInt8} (h : X ≠ Y) : ((⟨X.toArray⟩ : ByteArray).toList == (⟨Y.toArray⟩ : ByteArray).toList) = false :=
  toList_ne fun e => h (by have := str_inj.2 e; exact this)
theorem u8_ne {a b : UInt8} (h : a ≠ b) : ((a.toNat : Int) == (b.toNat : Int)) = false := by
  rw [beq_eq_false_iff_ne]
  intro e
  exact h (UInt8.toNat_inj.1 (by omega))
end Go.Proofs.YtblgmjnkllkhbaaDoor
end

/- the text S1 -/
section
/- Chapter 03: what signing computes, as functions on bytes; valid, ints, start, advance. -/
set_option linter.unusedVariables false
namespace Go.Dx
def byB (l : List UInt8) : ByteArray := ⟨l.toArray⟩
end Go.Dx
namespace Go.Proofs.YtblgmjnkllkhbaaDoor
open Go.RowKit Go.Dx

/-- the digest of a tag and parts -/
def ofD (t : Int) (ps : List (List UInt8)) : List UInt8 := (sha (inputL t (ps.map byB))).take 16
theorem ofD_len (t : Int) (ps : List (List UInt8)) : (ofD t ps).length = 16 := by unfold ofD; rw [List.length_take, sha_len]; rfl
/-- the value of a chain, n steps further -/
def advL (i k f : Int) : Nat → List UInt8 → List UInt8
  | 0, v => v
  | n + 1, v => ofD 5 [encInts [i, k, f + n], advL i k f n v]
theorem advL_len (i k f : Int) (n : Nat) {v : List UInt8} (h : v.length = 16) : (advL i k f n v).length = 16 := by cases n with
  | zero => exact h
  | succ n => exact ofD_len _ _
def chainB : List UInt8 := [99, 104, 97, 105, 110]
def startL (s : List UInt8) (i k : Int) : List UInt8 := (macL s (chainB ++ encInts [i, k])).take 16
theorem startL_len (s : List UInt8) (i k : Int) : (startL s i k).length = 16 := by unfold startL macL; rw [List.length_take, sha_len]; rfl
def catL (f : Nat → List UInt8) : Nat → List UInt8
  | 0 => []
  | n + 1 => catL f n ++ f n
theorem catL_len {f : Nat → List UInt8} (h : ∀ j, (f j).length = 16) (n : Nat) : (catL f n).length = n * 16 := by
  induction n with
  | zero => rfl
  | succ n ih => rw [catL, List.length_append, ih, h]; omega
def leafD (f : Nat → List UInt8) : List UInt8 := ofD 1 [ofD 3 [catL f 68]]
def nodeL (l r : List UInt8) : List UInt8 := ofD 2 [l, r]
/-- a value of the tree -/
def treeL (s : List UInt8) : Nat → Int → List UInt8
  | 0, k => leafD fun c => advL k c 0 3 (startL s k c)
  | n + 1, k => nodeL (treeL s n (2 * k)) (treeL s n (2 * k + 1))
theorem treeL_len (s : List UInt8) (n : Nat) (k : Int) : (treeL s n k).length = 16 := by cases n <;> exact ofD_len _ _
/-- digit j of a digest's 64 digits -/
def digN (d : List UInt8) (j : Nat) : Nat := (d.getD (j / 4) 0).toNat / 4 ^ (3 - j % 4) % 4
def sumN (d : List UInt8) : Nat → Nat
  | 0 => 0
  | n + 1 => sumN d n + (3 - digN d n)
def dgs (d : List UInt8) (j : Nat) : Nat := if j < 64 then digN d j else sumN d 64 / 4 ^ (67 - j) % 4
theorem dgs_le (d : List UInt8) (j : Nat) : dgs d j ≤ 3 := by unfold dgs digN; split <;> omega

theorem bounded3 {i k j : Int} (hi : 0 ≤ i ∧ i ≤ 9223372036854775807) (hk : 0 ≤ k ∧ k ≤ 1000) (hj : 0 ≤ j ∧ j ≤ 1000) : ∀ x ∈ [i, k, j], -9223372036854775808 ≤ x ∧ x ≤ 9223372036854775807 := by
  intro x hx; simp at hx; rcases hx with rfl | rfl | rfl <;> omega
theorem encInts_le (l : List Int) : (encInts l).length ≤ 9 * l.length + 9 := by
  have h : ∀ l : List Int, (l.flatMap encInt).length ≤ 9 * l.length := by
    intro l
    induction l with
    | nil => simp
    | cons x l ih => rw [List.flatMap_cons, List.length_append, List.length_cons]; have := encInt_le x; omega
  have e : encInts l = encInt (l.length : Int) ++ l.flatMap encInt := rfl
  rw [e, List.length_append]
  have := encInt_le (l.length : Int)
  have := h l
  omega

theorem byB_size (l : List UInt8) : (byB l).size = l.length := by show l.toArray.size = _; rw [List.size_toArray]
theorem byB_data (l : List UInt8) : (byB l).data.toList = l := rfl
theorem byB_of (s : ByteArray) : byB s.data.toList = s := by cases s; rfl
theorem _root_.Go.Dx.Box.dig {w : World} {g : Nat} {t : TypeId} {l : List UInt8} (h : Box w g t (l.map B8)) (hl : l.length = 16) : Sl w 1 (some ⟨g, 0, none⟩) 16 16 (l.map B8) :=
  h.sl 0 16 16 1 _ (by rw [List.length_map, hl]) (Nat.le_refl _) (by decide) (fun j u hj => by rw [Nat.zero_add]; exact hj)
theorem sblo (w : World) (o : Obj) : Below w.heap.size w (w.alloc o) := (Below.refl _ _).alloc (Nat.le_refl _) o
theorem blo3 {B : Nat} {w w' : World} (h : Below B w w') (hB : B ≤ w.heap.size) (o : Obj) : Below B w (w'.alloc o) := h.alloc (Nat.le_trans hB h.size) o
theorem allocs1 (w : World) (a : List Value) (t : TypeId) : ∃ w' g1, w' = w.alloc (.cells a.toArray t) ∧ g1 = w.heap.size ∧ Box w' g1 t a ∧ Below w.heap.size w w' ∧ g1 < w'.heap.size :=
  ⟨_, _, rfl, rfl, Box.new w t a.toArray, (Below.refl _ _).alloc (Nat.le_refl _) _, by simp⟩
theorem box_eq {w : World} {g g' : Nat} {t : TypeId} {cs : List Value} (h : Box w g t cs) (e : g = g') : Box w g' t cs := e ▸ h
theorem allocs2 (w : World) (a b : List Value) (t u : TypeId) : ∃ w' g1 g2, w' = (w.alloc (.cells a.toArray t)).alloc (.cells b.toArray u) ∧ g1 = w.heap.size ∧ g2 = w.heap.size + 1 ∧
    Box w' g1 t a ∧ Box w' g2 u b ∧ Below w.heap.size w w' ∧ g1 < g2 ∧ g2 < w'.heap.size :=
  ⟨_, _, _, rfl, rfl, rfl, (Box.new w t a.toArray).alloc _, box_eq (Box.new _ u b.toArray) (by simp), blo3 ((Below.refl _ _).alloc (Nat.le_refl _) _) (Nat.le_refl _) _, by simp, by simp⟩
theorem allocs3 (w : World) (a b c : List Value) (t u v : TypeId) : ∃ w' g1 g2 g3, w' = ((w.alloc (.cells a.toArray t)).alloc (.cells b.toArray u)).alloc (.cells c.toArray v) ∧ g1 = w.heap.size ∧ g2 = w.heap.size + 1 ∧
    g3 = w.heap.size + 1 + 1 ∧ Box w' g1 t a ∧ Box w' g2 u b ∧ Box w' g3 v c ∧ Below w.heap.size w w' ∧ g1 < g2 ∧ g2 < g3 ∧ g3 < w'.heap.size :=
  ⟨_, _, _, _, rfl, rfl, rfl, rfl, ((Box.new w t a.toArray).alloc _).alloc _, (box_eq (Box.new _ u b.toArray) (by simp)).alloc _, box_eq (Box.new _ v c.toArray) (by simp), blo3 (blo3 ((Below.refl _ _).alloc (Nat.le_refl _) _) (Nat.le_refl _) _) (Nat.le_refl _) _, by simp, by simp, by simp⟩
section
variable {P : Program} {w : World} {ops : Array Oper} {rest : List Oper} {act : Act} {Q : Exit → Act → World → Prop} {ty : TypeId} {pos : String} {after : Array Edge}
/-- 's + t' of strings -/
theorem str_add (d : Nat) (ta tb : TypeId) (x y : Operand) (s r q : ByteArray) (hx : act.eval x = .string s) (hy : act.eval y = .string r) (hsum : s.size + r.size ≤ 9223372036854775807) (hq : s ++ r = q)
    (hK : wpList P ops Q rest (act.put (some d) (.string q)) w) :
    wpList P ops Q ({ dst := some d, op := .binOp .add ta x y tb, type := ty, pos := pos, after := after, guard := none } :: rest) act w := by
  refine val_at rfl (.string q) ?_ hK
  have hrun := run_string_add_sum (P := P) w s r hsum
  rw [hq] at hrun
  simp [execOp, hx, hy, binOp, eqGuard, hrun, Result.andThen]
/-- 's[:hi]' of a string -/
theorem str_hi (d : Nat) (t : TypeId) (ht : P.underlying t = some .string) (x hi : Operand) (s r : ByteArray) (k : IntKind) (n : Nat) (hx : act.eval x = .string s) (hh : act.eval hi = .int k (n : Int)) (hn : n ≤ s.size) (hr : s.extract 0 n = r)
    (hK : wpList P ops Q rest (act.put (some d) (.string r)) w) :
    wpList P ops Q ({ dst := some d, op := .slice t x none (some hi) none, type := ty, pos := pos, after := after, guard := none } :: rest) act w := by
  refine val_at rfl (.string r) ?_ hK
  have h := run_slice_string_h (P := P) (w := w) (t := t) (s := s) ht k (n : Int) (by omega) (by omega)
  rw [Int.toNat_natCast, hr] at h
  have h' : (Instr.sliceAt t (.string s) none (some (.int k (n : Int))) none).run P w = .ok (.string r) w := by simp [Instr.sliceAt, run_underlying ht, h]
  simp only [execOp, Option.map_none, Option.map_some, hx, hh, Sem.run_bind, h', Result.andThen, Sem.run_pure]
/-- 's[lo:]' of a string -/
theorem str_lo (d : Nat) (t : TypeId) (ht : P.underlying t = some .string) (x lo : Operand) (s r : ByteArray) (k : IntKind) (n : Nat) (hx : act.eval x = .string s) (hh : act.eval lo = .int k (n : Int)) (hn : n ≤ s.size) (hr : s.extract n s.size = r)
    (hK : wpList P ops Q rest (act.put (some d) (.string r)) w) :
    wpList P ops Q ({ dst := some d, op := .slice t x (some lo) none none, type := ty, pos := pos, after := after, guard := none } :: rest) act w := by
  refine val_at rfl (.string r) ?_ hK
  have h := run_slice_string_l (P := P) (w := w) (t := t) (s := s) ht k (n : Int) (by omega) (by omega)
  rw [Int.toNat_natCast, hr] at h
  have h' : (Instr.sliceAt t (.string s) (some (.int k (n : Int))) none none).run P w = .ok (.string r) w := by simp [Instr.sliceAt, run_underlying ht, h]
  simp only [execOp, Option.map_none, Option.map_some, hx, hh, Sem.run_bind, h', Result.andThen, Sem.run_pure]
end
theorem _root_.Go.Dx.Box.sl_all {w : World} {g : Nat} {t : TypeId} {cs : List Value} {n : Nat} (h : Box w g t cs) (hn : cs.length = n) (hm : n ≤ maxLen) : Sl w 1 (some ⟨g, 0, none⟩) n n cs :=
  h.sl 0 n n 1 _ (by omega) (Nat.le_refl _) hm (fun j u hj => by rw [Nat.zero_add]; exact hj)
section
variable {w : World} {ops : Array Oper} {rest : List Oper} {act : Act} {Q : Exit → Act → World → Prop} {ty : TypeId} {pos : String} {after : Array Edge}
/-- a string that is not empty, turned into bytes -/
theorem to_bytes_l (d : Nat) (x : Operand) (l : List UInt8) (n : Nat) (hl : l.length = n) (hn : 0 < n) (hm : n ≤ maxLen) (hx : act.eval x = .string ⟨l.toArray⟩)
    (hK : ∀ b o c w', Sl w' 1 (some ⟨b, o, none⟩) n c (l.map B8) → Below w.heap.size w w' → w.heap.size ≤ b → wpList Tryd.prog ops Q rest (act.put (some d) (.slice (some ⟨b, o, none⟩) n c)) w') :
    wpList Tryd.prog ops Q ({ dst := some d, op := .convert 9 52 x, type := ty, pos := pos, after := after, guard := none } :: rest) act w := by
  have hsz : (⟨l.toArray⟩ : ByteArray).size = n := by show l.toArray.size = n; rw [List.size_toArray, hl]
  refine to_bytes d x ⟨l.toArray⟩ hx (by rw [hsz]; exact hm) ?_
  intro a c w' hs hb hp
  rw [hsz] at hs ⊢
  obtain ⟨b, o, rfl, _, _⟩ := hs.ex (by show 0 < ((l.toArray.toList).map B8).length; rw [List.length_map, hl]; exact hn)
  exact hK b o c w' hs hb (hp _ rfl)
end
theorem byB_take (l : List UInt8) (n : Nat) : (byB l).extract 0 n = byB (l.take n) := by
  apply ByteArray.ext
  rw [ByteArray.data_extract]
  show l.toArray.extract 0 n = (l.take n).toArray
  simp
theorem byB_drop (l : List UInt8) (n : Nat) : (byB l).extract n (byB l).size = byB (l.drop n) := by
  apply ByteArray.ext
  rw [ByteArray.data_extract, byB_size]
  show l.toArray.extract n l.length = (l.drop n).toArray
  simp [List.take_of_length_le]
theorem byB_append (l r : List UInt8) : byB l ++ byB r = byB (l ++ r) := by
  apply ByteArray.ext
  rw [ByteArray.data_append]
  show l.toArray ++ r.toArray = (l ++ r).toArray
  simp
set_option maxRecDepth 100000 in
theorem sg_valid (h : Int) (w : World) :
    Calls Tryd.prog 21 #[.int .i64 h] w fun e w' => e = .returned (.bool (decide (0 ≤ h) && decide (h ≤ 6))) ∧ w' = w := by
  go_enter Tryd.func21, Tryd.ntmps21
  cases h0 : decide (0 ≤ h)
  · go_wp2
    go_ret
    simp
  · go_wp2
    go_ret
    simp
set_option maxRecDepth 100000 in
theorem sg_ints (l : List Int) (hl : ∀ x ∈ l, -9223372036854775808 ≤ x ∧ x ≤ 9223372036854775807) (hn : l.length ≤ 10) {r : List UInt8} (hr : encInts l = r) (a : Option Addr) (n c : Nat) (w : World) (hs : Sl w 1 a n c (l.map I64)) :
    Calls Tryd.prog 48 #[.slice a n c] w fun e w' => e = .returned (.string ⟨r.toArray⟩) ∧ Below w.heap.size w w' := by
  subst hr
  have hle := encInts_le l
  have HW := hide (wire_Ints l hl (by omega) (by omega) a n c w hs)
  generalize encInts l = E at *
  go_enter Tryd.func48, Tryd.ntmps48
  go_wp2_with fail
  refine HW.out.mono ?_
  rintro e w1 ⟨a1, c1, rfl, o1, h1⟩
  go_wp2_with (with_reducible refine to_str 5 _ _ _ _ E rfl o1.sl ?_)
  go_ret
  exact ⟨rfl, h1⟩
end Go.Proofs.YtblgmjnkllkhbaaDoor
end

/- the text Wire9 -/
section
namespace Go.Proofs.YtblgmjnkllkhbaaDoor
open Go.RowKit Go.Dx

end Go.Proofs.YtblgmjnkllkhbaaDoor
end

/- the text Wire10 -/
section
namespace Go.Proofs.YtblgmjnkllkhbaaDoor
open Go.RowKit Go.Dx

theorem same_step' {α : Type} {l1 l2 : List α} {k : Nat} {x y : α} (hx : l1[k]? = some x) (hy : l2[k]? = some y) (h : l1.take k = l2.take k) : (x = y ↔ l1.take (k + 1) = l2.take (k + 1)) := by
  rw [List.take_add_one, List.take_add_one, hx, hy, h]; simp
theorem str_eq_iff (x y : ByteArray) : x.toList = y.toList ↔ x = y := by
  rw [Lib.toList_data, Lib.toList_data]
  exact ⟨WideShapes.bytes_inj, fun e => by rw [e]⟩
theorem str_ne {x y : ByteArray} (h : x ≠ y) : (x.toList == y.toList) = false := beq_eq_false_iff_ne.2 fun e => h ((str_eq_iff x y).1 e)
theorem ne_of_take' {α : Type} {l1 l2 : List α} {k : Nat} (h : l1.take k ≠ l2.take k) : l1 ≠ l2 := fun e => h (by rw [e])

end Go.Proofs.YtblgmjnkllkhbaaDoor
end

/- the text Wire11 -/
section
namespace Go.Proofs.YtblgmjnkllkhbaaDoor
open Go.RowKit Go.Dx

/-- three results, the first a list of its own -/
def Gives3 (e : TypeId) (sz n : Nat) (cs : List Value) (x y : Int) (w : World) (r : Ending) (w' : World) : Prop :=
  ∃ a c, r = .returned (.tuple #[.slice a n c, .int .i64 x, .int .i64 y]) ∧ Own w' w.heap.size e sz a n c cs ∧ Below w.heap.size w w'

end Go.Proofs.YtblgmjnkllkhbaaDoor
end

/- the text Wire12 -/
section
namespace Go.Proofs.YtblgmjnkllkhbaaDoor
open Go.RowKit Go.Dx

theorem decInt_bd (l : List UInt8) : 0 ≤ (decInt l).2.1 ∧ (decInt l).2.1 ≤ l.length := by
  by_cases h : (decInt l).2.2 = 0
  · obtain ⟨h1, h2, _, _⟩ := decInt_used h
    exact ⟨by omega, h2⟩
  · rw [decInt_err h]; simp

theorem setCell_grown (w : World) (p : Addr) (v : Value) (n : Nat) : w.grownBy ((w.setCell p v).drewN n) (some p.block) :=
  ⟨rfl, rfl, rfl, by simp [World.setCell, World.drewN], fun k _ hne => Below.heap_setCell w p v k (fun e => hne (by rw [e]))⟩

theorem below2 (w : World) (o o' : Obj) : Below w.heap.size w ((w.alloc o).alloc o') := ((Below.refl _ _).alloc (Nat.le_refl _) o).alloc (by simp) o'

end Go.Proofs.YtblgmjnkllkhbaaDoor
end

/- the text Types2 -/
section
namespace Go.Proofs.YtblgmjnkllkhbaaDoor
open Go.RowKit Go.Dx

def zeroDig : Value := .agg (Array.replicate 16 (.int .u8 0))
theorem info_dig : (Tryd.prog.info? 23).map (fun i => (i.zero, i.size, i.bytes)) = some (some zeroDig, 16, 16) := by kernel_rfl
section
variable {w : World} {ops : Array Oper} {rest : List Oper} {act : Act} {Q : Exit → Act → World → Prop} {ty : TypeId} {pos : String} {after : Array Edge}
theorem build_dig (d : Nat) (x : Operand) (us : List Value) (hx : act.eval x = .agg us.toArray) (hl : us.length = 16)
    (hK : wpList Tryd.prog ops Q rest (act.put (some d) (.slice (some ⟨w.heap.size, 0, none⟩) 1 1)) (w.alloc (.cells us.toArray 23))) :
    wpList Tryd.prog ops Q ({ dst := some d, op := .buildSlice 48 1 #[(0, x)], type := ty, pos := pos, after := after, guard := none } :: rest) act w :=
  build_one d 48 x 23 Tryd.underlying48 zeroDig 16 16 info_dig rfl (by decide) (by decide) _ us hx rfl hl hK
theorem arr_dig (d : Nat) (x : Operand) (a : Option Addr) (len c : Nat) (hx : act.eval x = .slice a len c) (hn : 16 ≤ len)
    (hK : wpList Tryd.prog ops Q rest (act.put (some d) (.pointer a)) w) :
    wpList Tryd.prog ops Q ({ dst := some d, op := .sliceToArrayPointer 23 x, type := ty, pos := pos, after := after, guard := none } :: rest) act w :=
  to_array d 23 x 16 _ Tryd.underlying23 a len c hx hn hK
end
section
variable {w : World} {ops : Array Oper} {rest : List Oper} {o : Oper} {act : Act} {Q : Exit → Act → World → Prop}
/-- 'append(out, d)' on []Digest -/
theorem app_d (hg : o.guard = none) (s x : Operand) (hop : o.op = Op.call { callee := Callee.builtin Builtin.append, args := #[s, x], argTypes := #[48, 48] })
    (w0 : World) (B : Nat) (a : Option Addr) (n c : Nat) (xs : List Value) (hs : act.eval s = .slice a n c) (hown : Own w B 23 16 a n c xs)
    (us : List UInt8) (hl : us.length = 16) (hx : act.eval x = .slice (some ⟨w.heap.size, 0, none⟩) 1 1)
    (hn : (n + 1) * 16 ≤ 140737488355328) (hB : B ≤ w.heap.size) (hbel : Below B w0 w)
    (hK : ∀ a' c' w', Own w' B 23 16 a' (n + 1) c' (xs ++ us.map B8) → w.grownBy w' (a.map (·.block)) → Below B w0 w' → wpList Tryd.prog ops Q rest (act.put o.dst (.slice a' (n + 1) c')) w') :
    wpList Tryd.prog ops Q (o :: rest) act (w.alloc (.cells (us.map B8).toArray 23)) :=
  append_lit hg s x 48 hop 23 zeroDig 16 16 Tryd.underlying48 info_dig rfl w0 B a n c xs hs hown 1 (us.map B8) hx (by simp [hl]) (one_map _ (fun _ => rfl) _) hn (by unfold maxLen; omega) hB hbel hK
end
end Go.Proofs.YtblgmjnkllkhbaaDoor
end

/- the text Wire13 -/
section
namespace Go.Proofs.YtblgmjnkllkhbaaDoor
open Go.RowKit Go.Dx

/-- what decoding a list of digests returns: their number, their bytes, the place behind them, the error -/
def decDigs (l : List UInt8) : Nat × List UInt8 × Int × Int :=
  if cntErr l 16 = 0 then ((decInt l).1.toNat, (l.drop (decInt l).2.1.toNat).take ((decInt l).1.toNat * 16), (decInt l).2.1 + 16 * (decInt l).1, 0) else (0, [], 0, cntErr l 16)

end Go.Proofs.YtblgmjnkllkhbaaDoor
end

/- the text Wire14 -/
section
namespace Go.Proofs.YtblgmjnkllkhbaaDoor
open Go.RowKit Go.Dx

/-- digest number k -/
def digAt (f : List UInt8) (k : Nat) : List UInt8 := (f.drop (k * 16)).take 16
theorem digAt_len {f : List UInt8} {n k : Nat} (h : f.length = n * 16) (hk : k < n) : (digAt f k).length = 16 := by unfold digAt; rw [List.length_take, List.length_drop]; omega
theorem digAt_step {f1 f2 : List UInt8} {k : Nat} (h : f1.take (k * 16) = f2.take (k * 16)) : (digAt f1 k = digAt f2 k ↔ f1.take ((k + 1) * 16) = f2.take ((k + 1) * 16)) := by
  rw [Nat.add_mul, Nat.one_mul, List.take_add, List.take_add, h]
  unfold digAt
  exact ⟨fun e => by rw [e], fun e => List.append_cancel_left e⟩
theorem dig_cells {w : World} {b o n c : Nat} {f : List UInt8} (h : Sl w 16 (some ⟨b, o, none⟩) n c (f.map B8)) (k : Nat) : ∀ j u, ((digAt f k).map B8)[j]? = some u → w.cell? ((⟨b, o + k * 16, none⟩ : Addr).add j) = some u := by
  intro j u hj
  unfold digAt at hj
  rw [List.map_take, List.map_drop, List.getElem?_take] at hj
  split at hj
  · rw [List.getElem?_drop] at hj
    have := h.cell _ rfl _ _ hj
    rw [Addr.add_lit] at this ⊢
    rw [Nat.add_assoc]; exact this
  · cases hj

end Go.Proofs.YtblgmjnkllkhbaaDoor
end

/- the text Wire15 -/
section
namespace Go.Proofs.YtblgmjnkllkhbaaDoor
open Go.RowKit Go.Dx

/-- a row that is being filled -/
def rowAt (ys : List UInt8) (j : Nat) : List UInt8 := ys.take j ++ List.replicate (16 - j) 0
theorem rowAt_len {ys : List UInt8} {j : Nat} (h : ys.length = 16) (hj : j ≤ 16) : (rowAt ys j).length = 16 := by simp [rowAt]; omega
theorem rowAt_set {ys : List UInt8} {j : Nat} (h : ys.length = 16) (hj : j < 16) {x : UInt8} (hx : ys[j]? = some x) : (rowAt ys j).set j x = rowAt ys (j + 1) := by
  unfold rowAt
  rw [List.set_append_right _ _ (by simp; omega), List.take_add_one, hx]
  have e : 16 - j = (16 - (j + 1)) + 1 := by omega
  have e2 : j - (ys.take j).length = 0 := by rw [List.length_take]; omega
  rw [e, e2, List.replicate_succ]
  simp
theorem rowAt_get {ys : List UInt8} {j : Nat} (h : ys.length = 16) (hj : j < 16) : (rowAt ys j)[j]? = some 0 := by
  unfold rowAt
  rw [List.getElem?_append_right (by simp; omega), List.getElem?_replicate]
  have e2 : j - (ys.take j).length = 0 := by rw [List.length_take]; omega
  rw [e2]; simp; omega
theorem rowAt_all {ys : List UInt8} (h : ys.length = 16) : rowAt ys 16 = ys := by simp [rowAt, ← h]

/-- the sum of lengths that the law's 'few' reckons -/
def fewSum (l : List ByteArray) (k : Nat) : Nat := l.length + ((l.take k).map (·.size)).sum
theorem fewSum_succ {l : List ByteArray} {k : Nat} {x : ByteArray} (h : l[k]? = some x) : fewSum l (k + 1) = fewSum l k + x.size := by
  unfold fewSum; rw [List.take_add_one, h]; simp; omega
theorem wrap64_nat (n : Nat) (h : n < 9223372036854775808) : wrap64 (n : Int) = n := by unfold wrap64; omega

end Go.Proofs.YtblgmjnkllkhbaaDoor
end

/- the text Wire16 -/
section
namespace Go.Proofs.YtblgmjnkllkhbaaDoor
open Go.RowKit Go.Dx

/-- a literal []byte, []int, []string that was just laid -/
theorem lit_b (w : World) (b : Nat) (hb : b = w.heap.size) (l : List UInt8) (L : Array Value) (hL : L = (l.map B8).toArray) (n : Nat) (hn : l.length = n) (hm : n ≤ maxLen) : Sl (w.alloc (.cells L 5)) 1 (some ⟨b, 0, none⟩) n n (l.map B8) := by
  subst hL hb; exact Sl.fresh w _ 1 n _ (by simp [hn]) hm
theorem lit_i (w : World) (b : Nat) (hb : b = w.heap.size) (l : List Int) (L : Array Value) (hL : L = (l.map I64).toArray) (n : Nat) (hn : l.length = n) (hm : n ≤ maxLen) : Sl (w.alloc (.cells L 3)) 1 (some ⟨b, 0, none⟩) n n (l.map I64) := by
  subst hL hb; exact Sl.fresh w _ 1 n _ (by simp [hn]) hm
theorem lit_s (w : World) (b : Nat) (hb : b = w.heap.size) (l : List ByteArray) (L : Array Value) (hL : L = (l.map Value.string).toArray) (n : Nat) (hn : l.length = n) (hm : n ≤ maxLen) : Sl (w.alloc (.cells L 9)) 1 (some ⟨b, 0, none⟩) n n (l.map Value.string) := by
  subst hL hb; exact Sl.fresh w _ 1 n _ (by simp [hn]) hm

theorem d1 : decInt [130, 1, 0, 9] = (256, 3, 0) := by decide +kernel
theorem d2 : decInt [130, 1] = (0, 0, 3) := by decide +kernel
theorem d3 : decInt [129, 0] = (0, 0, 2) := by decide +kernel
theorem d4 : (decBytes [129, 2, 97, 98, 7]) = (⟨#[97, 98]⟩, 4, 0) := by decide +kernel
theorem d5 : decSeq decInt [129, 2, 129, 1, 127] = ([1, -1], 5, 0) := by decide +kernel
theorem d6 : decSeq decBytes [129, 2, 128, 129, 1, 97, 5] = ([⟨#[]⟩, ⟨#[97]⟩], 6, 0) := by decide +kernel
theorem d7 : encInt (-257) = [125, 254, 255] := by decide +kernel
theorem d8 : encBytes [97, 98] = [129, 2, 97, 98] := by decide +kernel
theorem d9 : encInts [1, -1] = [129, 2, 129, 1, 127] := by decide +kernel
theorem d10 : encStrs [⟨#[]⟩, ⟨#[97]⟩] = [129, 2, 128, 129, 1, 97] := by decide +kernel
def dgl : List UInt8 := [1, 2, 0, 0, 0, 0, 0, 0, 0, 0, 0, 0, 0, 0, 0, 0]
theorem d11 : encInt (1 : Nat) ++ dgl = 129 :: 1 :: dgl := by decide +kernel
theorem d12 : decDigs (129 :: 1 :: dgl) = (1, dgl, 18, 0) := by decide +kernel
end Go.Proofs.YtblgmjnkllkhbaaDoor
end

/- the text Wire17 -/
section
namespace Go.Proofs.YtblgmjnkllkhbaaDoor
open Go.RowKit Go.Dx

theorem bstep {B : Nat} {w0 w w' : World} {o : Obj} (h : Below B w0 w ∧ B ≤ w.heap.size) (hb : Below (w.alloc o).heap.size (w.alloc o) w') : Below B w0 w' ∧ B ≤ w'.heap.size := by
  have h1 := hb.size
  have h2 := h.2
  simp at h1
  exact ⟨(h.1.alloc h.2 o).trans (hb.mono (by simp; omega)), by omega⟩
theorem GetInt_at {l : List UInt8} {r : Int × Int × Int} (h : decInt l = r) {a : Option Addr} {n c : Nat} {w : World} (hs : Sl w 1 a n c (l.map B8)) :
    Calls Tryd.prog 36 #[.slice a n c] w fun e w' => e = .returned (R3 r) ∧ Below w.heap.size w w' := by subst h; exact (wire_GetInt l a n c w hs).mono fun e w' ⟨h1, h2⟩ => ⟨h1, h2 ▸ Below.refl _ _⟩
theorem Int_at {x : Int} {r : List UInt8} (h : encInt x = r) (h0 : -9223372036854775808 ≤ x) (h1 : x ≤ 9223372036854775807) {w : World} :
    Calls Tryd.prog 26 #[.int .i64 x] w (Gives 5 1 r.length (r.map B8) w) := by subst h; exact wire_Int x h0 h1 w
theorem Same_at {l1 l2 : List UInt8} {r : Bool} (h : decide (l1 = l2) = r) {a1 a2 : Option Addr} {n1 n2 c1 c2 : Nat} {w : World} (h1 : Sl w 1 a1 n1 c1 (l1.map B8)) (h2 : Sl w 1 a2 n2 c2 (l2.map B8)) :
    Calls Tryd.prog 58 #[.slice a1 n1 c1, .slice a2 n2 c2] w fun e w' => e = .returned (.bool r) ∧ Below w.heap.size w w' := by subst h; exact (ref_Same _ _ _ _ _ _ _ _ _ h1 h2).mono fun e w' ⟨h1, n, h2⟩ => ⟨h1, h2 ▸ Still.below n⟩
theorem bs0 {B : Nat} {w0 w w' : World} (h : Below B w0 w ∧ B ≤ w.heap.size) (hb : Below w.heap.size w w') : Below B w0 w' ∧ B ≤ w'.heap.size :=
  ⟨h.1.trans (hb.mono h.2), Nat.le_trans h.2 hb.size⟩

theorem Ints_at {l : List Int} {r : List UInt8} (h : encInts l = r) (hl : ∀ x ∈ l, -9223372036854775808 ≤ x ∧ x ≤ 9223372036854775807) (hT : r.length ≤ 140737488355000) (hN : l.length ≤ 140737488355000) {a : Option Addr} {n c : Nat} {w : World} (hs : Sl w 1 a n c (l.map I64)) :
    Calls Tryd.prog 60 #[.slice a n c] w (Gives 5 1 r.length (r.map B8) w) := by subst h; exact wire_Ints l hl hT hN a n c w hs
theorem Bytes_at {s : ByteArray} {r : List UInt8} (h : encBytes s.data.toList = r) (hs : s.size ≤ 140737488355000) {w : World} :
    Calls Tryd.prog 54 #[.string s] w (Gives 5 1 r.length (r.map B8) w) := by subst h; exact wire_Bytes s hs w
theorem lit_d (w : World) (b : Nat) (hb : b = w.heap.size) (fl : List UInt8) (L : Array Value) (hL : L = (fl.map B8).toArray) (n : Nat) (hn : fl.length = n * 16) (hm : n ≤ maxLen) : Sl (w.alloc (.cells L 23)) 16 (some ⟨b, 0, none⟩) n n (fl.map B8) := by
  subst hL hb; exact Sl.fresh w _ 16 n _ (by simp [hn]) hm
section
variable {w : World} {ops : Array Oper} {rest : List Oper} {act : Act} {Q : Exit → Act → World → Prop} {ty : TypeId} {pos : String} {after : Array Edge} {g : Option (Nat × Bool)}
theorem unguard {dst : Option Nat} {op : Op} (hw : Region.wanted { dst := dst, op := op, type := ty, pos := pos, after := after, guard := g } (yielded ops act.tmps) = true)
    (h : wpList Tryd.prog ops Q ({ dst := dst, op := op, type := ty, pos := pos, after := after, guard := none } :: rest) act w) :
    wpList Tryd.prog ops Q ({ dst := dst, op := op, type := ty, pos := pos, after := after, guard := g } :: rest) act w := by
  have h2 : Region.wanted { dst := dst, op := op, type := ty, pos := pos, after := after, guard := none } (yielded ops act.tmps) = true := rfl
  unfold wpList at h ⊢
  rw [if_pos h2] at h
  rw [if_pos hw]
  exact h
theorem load_dig_g (d : Nat) (x : Operand) (p : Addr) (hx : act.eval x = .pointer (some p)) (cs : List Value) (hl : cs.length = 16) (hc : ∀ j u, cs[j]? = some u → w.cell? (p.add j) = some u)
    (hw : Region.wanted { dst := some d, op := .load 23 x, type := ty, pos := pos, after := after, guard := g } (yielded ops act.tmps) = true)
    (hK : wpList Tryd.prog ops Q rest (act.put (some d) (.agg cs.toArray)) w) :
    wpList Tryd.prog ops Q ({ dst := some d, op := .load 23 x, type := ty, pos := pos, after := after, guard := g } :: rest) act w :=
  unguard hw (load_dig d x p hx cs hl hc hK)
theorem build_dig_g (d : Nat) (x : Operand) (us : List Value) (hx : act.eval x = .agg us.toArray) (hl : us.length = 16)
    (hw : Region.wanted { dst := some d, op := .buildSlice 48 1 #[(0, x)], type := ty, pos := pos, after := after, guard := g } (yielded ops act.tmps) = true)
    (hK : wpList Tryd.prog ops Q rest (act.put (some d) (.slice (some ⟨w.heap.size, 0, none⟩) 1 1)) (w.alloc (.cells us.toArray 23))) :
    wpList Tryd.prog ops Q ({ dst := some d, op := .buildSlice 48 1 #[(0, x)], type := ty, pos := pos, after := after, guard := g } :: rest) act w :=
  unguard hw (build_dig d x us hx hl hK)
end
theorem L1 : #[Value.int .u8 130, .int .u8 1, .int .u8 0, .int .u8 9] = (List.map B8 [130, 1, 0, 9]).toArray := by rfl
theorem L2 : #[Value.int .u8 130, .int .u8 1] = (List.map B8 [130, 1]).toArray := by rfl
theorem L3 : #[Value.int .u8 129, .int .u8 0] = (List.map B8 [129, 0]).toArray := by rfl
theorem L4 : #[Value.int .u8 129, .int .u8 2, .int .u8 97, .int .u8 98, .int .u8 7] = (List.map B8 [129, 2, 97, 98, 7]).toArray := by rfl
theorem L5 : #[Value.int .u8 129, .int .u8 2, .int .u8 129, .int .u8 1, .int .u8 127] = (List.map B8 [129, 2, 129, 1, 127]).toArray := by rfl
theorem L6 : #[Value.int .u8 129, .int .u8 2, .int .u8 128, .int .u8 129, .int .u8 1, .int .u8 97, .int .u8 5] = (List.map B8 [129, 2, 128, 129, 1, 97, 5]).toArray := by rfl
theorem L7 : #[Value.string ⟨#[]⟩, .string ⟨#[97]⟩] = (List.map Value.string [⟨#[]⟩, ⟨#[97]⟩]).toArray := by rfl
theorem L8 : #[Value.int .u8 129, .int .u8 2, .int .u8 128, .int .u8 129, .int .u8 1, .int .u8 97] = (List.map B8 [129, 2, 128, 129, 1, 97]).toArray := by rfl
theorem L9 : #[Value.int .u8 125, .int .u8 254, .int .u8 255] = (List.map B8 [125, 254, 255]).toArray := by rfl
theorem L10 : #[Value.int .i64 1, .int .i64 (-1)] = (List.map I64 [1, -1]).toArray := by rfl
theorem L11 : #[Value.int .u8 129, .int .u8 2, .int .u8 97, .int .u8 98] = (List.map B8 [129, 2, 97, 98]).toArray := by rfl
end Go.Proofs.YtblgmjnkllkhbaaDoor
end

/- the text Types3 -/
section
namespace Go.Proofs.YtblgmjnkllkhbaaDoor
open Go.RowKit Go.Dx
section
variable {w : World} {ops : Array Oper} {rest : List Oper} {o : Oper} {act : Act} {Q : Exit → Act → World → Prop} {ty : TypeId} {pos : String} {after : Array Edge}
theorem cutfull_b (d : Nat) (x hi mx : Operand) (a : Option Addr) (n c : Nat) (cs : List Value) (hx : act.eval x = .slice a n c) (hs : Sl w 1 a n c cs) (ku km : IntKind) (uv mv : Int) (hu : act.eval hi = .int ku uv) (hm : act.eval mx = .int km mv)
    (huv : uv = (n : Int)) (hmv : mv = (n : Int))
    (hK : Sl w 1 a n n cs → wpList Tryd.prog ops Q rest (act.put (some d) (.slice a n n)) w) :
    wpList Tryd.prog ops Q ({ dst := some d, op := .slice 52 x none (some hi) (some mx), type := ty, pos := pos, after := after, guard := none } :: rest) act w :=
  cut_full d 52 x hi mx 5 Tryd.underlying52 1 size_u8 a n c hx hs.le ku km uv mv hu hm huv hmv (fun h => by have := hs.nil h; have := hs.le; omega)
    (hK ⟨hs.len, Nat.le_refl _, Nat.le_trans hs.le hs.cap, fun h => by have := hs.nil h; have := hs.le; omega, hs.cell⟩)
theorem appfull_b (hg : o.guard = none) (s x : Operand) (hop : o.op = Op.call { callee := Callee.builtin Builtin.append, args := #[s, x], argTypes := #[52, 52] })
    (a : Option Addr) (n : Nat) (xs : List UInt8) (hs : act.eval s = .slice a n n) (hxs : Sl w 1 a n n (xs.map B8))
    (a2 : Option Addr) (m c2 : Nat) (ys : List UInt8) (hx : act.eval x = .slice a2 m c2) (hy : Sl w 1 a2 m c2 (ys.map B8))
    (hn : n + m ≤ 140737488355328)
    (hK : ∀ a' c' w', Sl w' 1 a' (n + m) c' ((xs ++ ys).map B8) → Below w.heap.size w w' → wpList Tryd.prog ops Q rest (act.put o.dst (.slice a' (n + m) c')) w') :
    wpList Tryd.prog ops Q (o :: rest) act w :=
  append_full hg s x 52 hop 5 (.int .u8 0) 1 1 Tryd.underlying52 info_u8 rfl a n _ hs hxs a2 m c2 _ hx hy (one_map _ (fun _ => rfl) _) (by omega) (by unfold maxLen; omega)
    (fun a' c' w' h1 h2 => hK a' c' w' (by rw [List.map_append]; exact h1) h2)
end
end Go.Proofs.YtblgmjnkllkhbaaDoor
end

/- the text Law1 -/
section
namespace Go.Proofs.YtblgmjnkllkhbaaDoor
open Go.RowKit Go.Dx

theorem GetInt_any {l : List UInt8} {a : Option Addr} {n c : Nat} {w : World} (hs : Sl w 1 a n c (l.map B8)) {x y z : Int} (h : decInt l = (x, y, z)) :
    Calls Tryd.prog 36 #[.slice a n c] w fun e w' => e = .returned (R3 (x, y, z)) ∧ w = w' := by
  rw [← h]; exact wire_GetInt l a n c w hs
end Go.Proofs.YtblgmjnkllkhbaaDoor
end

/- the text Pure8 -/
section
/- Proper prefixes of encodings ask for more. No Go. -/
namespace Go.Dx

theorem cnt_more_enc {N : Nat} (hN : N ≤ 9223372036854775807) {size : Int} {i : Nat} (r : List UInt8) (hi : i < (encInt (N : Int)).length) : cntErr ((encInt (N : Int) ++ r).take i) size = 3 := by
  have h := decInt_cut (n := (N : Int)) (by omega) (by omega) hi
  rw [List.take_append_of_le_length (by omega)]
  unfold cntErr
  rw [h, if_pos (by decide)]
theorem cnt_more {N : Nat} (hN : N ≤ 9223372036854775807) {S : Nat} (h1 : 1 ≤ S) (t : List UInt8) (ht : t.length < N * S) : cntErr (encInt (N : Int) ++ t) (S : Int) = 3 := by
  have hd := decInt_enc (n := (N : Int)) (by omega) (by omega) t
  unfold cntErr
  rw [hd, if_neg (by simp), if_neg (by simp only; omega), if_pos]
  simp only
  rw [List.length_append]
  have e : (((encInt (N : Int)).length + t.length : Nat) : Int) - ((encInt (N : Int)).length : Int) = (t.length : Int) := by omega
  rw [e]
  have h3 : t.length / S < N := (Nat.div_lt_iff_lt_mul (by omega)).2 ht
  have h4 : (t.length : Int) / (S : Int) = ((t.length / S : Nat) : Int) := by simp
  rw [h4]
  omega
theorem take_enc {N : Nat} (r : List UInt8) {i : Nat} (hi : (encInt (N : Int)).length ≤ i) : (encInt (N : Int) ++ r).take i = encInt (N : Int) ++ r.take (i - (encInt (N : Int)).length) := by
  rw [List.take_append, List.take_of_length_le hi]

/-- what lacks its end asks for more -/
def Cuts {α : Type} (P : α → Prop) (f : List UInt8 → α × Int × Int) (enc : α → List UInt8) : Prop := ∀ x i, P x → i < (enc x).length → (f ((enc x).take i)).2.2 = 3
theorem cuts_int : Cuts (fun x => -9223372036854775808 ≤ x ∧ x ≤ 9223372036854775807) decInt encInt := fun x i h hi => by rw [decInt_cut h.1 h.2 hi]
theorem cuts_bytes : Cuts (fun s : ByteArray => s.size ≤ 9223372036854775807) decBytes (fun s => encBytes s.data.toList) := fun s i hs hi => by
  have hl : s.data.toList.length = s.size := Array.length_toList
  simp only [encBytes] at hi ⊢
  rw [hl] at hi ⊢
  rw [List.length_append, hl] at hi
  have hs : s.size ≤ 9223372036854775807 := hs
  have hc : cntErr ((encInt (s.size : Int) ++ s.data.toList).take i) 1 = 3 := by
    by_cases h : i < (encInt (s.size : Int)).length
    · exact cnt_more_enc hs _ h
    · rw [take_enc _ (by omega)]
      exact cnt_more (S := 1) hs (by omega) _ (by rw [List.length_take, hl]; omega)
  unfold decBytes
  rw [if_neg (by rw [hc]; decide), hc]

theorem cut_at {α : Type} (enc : α → List UInt8) : ∀ (xs : List α) (j : Nat), j < (xs.flatMap enc).length →
    ∃ (k : Nat) (hk : k < xs.length) (m : Nat), m < (enc xs[k]).length ∧ (xs.flatMap enc).take j = (xs.take k).flatMap enc ++ (enc xs[k]).take m
  | [], j, h => by simp at h
  | x :: xs, j, h => by
    rw [List.flatMap_cons, List.length_append] at h
    by_cases hj : j < (enc x).length
    · refine ⟨0, by simp, j, by simpa using hj, ?_⟩
      rw [List.flatMap_cons, List.take_append_of_le_length (by omega)]
      simp
    · obtain ⟨k, hk, m, hm, e⟩ := cut_at enc xs (j - (enc x).length) (by omega)
      refine ⟨k + 1, by simpa using hk, m, by simpa using hm, ?_⟩
      rw [List.flatMap_cons, List.take_append, List.take_of_length_le (by omega), e]
      simp
theorem decSeq_cut {α : Type} {P : α → Prop} {f : List UInt8 → α × Int × Int} {enc : α → List UInt8} (hf : Round P f enc) (hc : Cuts P f enc) (xs : List α) (hP : ∀ x ∈ xs, P x) (hN : xs.length ≤ 9223372036854775807)
    {i : Nat} (hi : i < (encInt (xs.length : Int) ++ xs.flatMap enc).length) : decSeq f ((encInt (xs.length : Int) ++ xs.flatMap enc).take i) = ([], 0, 3) := by
  rw [List.length_append] at hi
  by_cases h : i < (encInt (xs.length : Int)).length
  · rw [decSeq_cnt (by rw [cnt_more_enc hN _ h]; decide), cnt_more_enc hN _ h]
  · rw [take_enc _ (by omega)]
    generalize hj : i - (encInt (xs.length : Int)).length = j
    have hj2 : j < (xs.flatMap enc).length := by omega
    by_cases hlt : j < xs.length * 1
    · have h3 : cntErr (encInt (xs.length : Int) ++ (xs.flatMap enc).take j) 1 = 3 := cnt_more (S := 1) hN (by omega) _ (by rw [List.length_take]; omega)
      rw [decSeq_cnt (by rw [h3]; decide), h3]
    · have h0 : cntErr (encInt (xs.length : Int) ++ (xs.flatMap enc).take j) 1 = 0 := cnt_round hN (by omega) (by rw [List.length_take]; show _ * 1 ≤ _; omega)
      have hd := decInt_enc (n := (xs.length : Int)) (by omega) (by omega) ((xs.flatMap enc).take j)
      obtain ⟨k, hk, m, hm, e⟩ := cut_at enc xs j hj2
      have hs := seqTo_round hf (encInt (xs.length : Int)) ((enc xs[k]).take m) (xs.take k) (fun x hx => hP x (List.mem_of_mem_take hx)) k (by rw [List.length_take]; omega)
      rw [List.take_take, Nat.min_self] at hs
      rw [e]
      rw [e] at h0 hd
      have hdrop : (encInt (xs.length : Int) ++ ((xs.take k).flatMap enc ++ (enc xs[k]).take m)).drop ((encInt (xs.length : Int)).length + ((xs.take k).flatMap enc).length) = (enc xs[k]).take m := by
        rw [← List.append_assoc, ← List.length_append, List.drop_left]
      have h3 := hc xs[k] m (hP _ (List.getElem_mem hk)) hm
      have hst := seqTo_stop hs (by rw [hdrop, h3]; decide)
      rw [hdrop, h3] at hst
      exact decSeq_err h0 (by rw [hd]) (by rw [hd]) hk (by decide) hst
end Go.Dx
end

/- the text Law7 -/
section
namespace Go.Proofs.YtblgmjnkllkhbaaDoor
open Go.RowKit Go.Dx

def total (xs : List ByteArray) : Nat := (xs.map (·.size)).sum
theorem ret_dec {p q : Prop} [Decidable p] [Decidable q] (h : p ↔ q) : Ending.returned (.bool (decide p)) = .returned (.bool (decide q)) := by rw [decide_eq_decide.2 h]
theorem total_snoc (xs : List ByteArray) (y : ByteArray) : total (xs ++ [y]) = total xs + y.size := by simp [total]
theorem total_take {xs : List ByteArray} {k : Nat} {y : ByteArray} (h : xs[k]? = some y) : total (xs.take (k + 1)) = total (xs.take k) + y.size := by
  rw [List.take_add_one, h]; exact total_snoc _ _
theorem total_take_le (xs : List ByteArray) (k : Nat) : total (xs.take k) ≤ total xs := by
  have h : total xs = total (xs.take k) + total (xs.drop k) := by
    conv => lhs; rw [← List.take_append_drop k xs]
    simp only [total, List.map_append, List.sum_append]
  omega
theorem total_le {xs : List ByteArray} {M : Nat} (h : ∀ x ∈ xs, x.size ≤ M) : total xs ≤ xs.length * M := by
  induction xs with
  | nil => simp [total]
  | cons x xs ih =>
    have h1 := h x List.mem_cons_self
    have h2 := ih fun y hy => h y (List.mem_cons_of_mem _ hy)
    simp only [total, List.map_cons, List.sum_cons, List.length_cons, Nat.add_mul] at *
    omega

end Go.Proofs.YtblgmjnkllkhbaaDoor
end

/- the text Law8 -/
section
namespace Go.Proofs.YtblgmjnkllkhbaaDoor
open Go.RowKit Go.Dx

theorem tr_int {x : Int} (h0 : -9223372036854775808 ≤ x) (h1 : x ≤ 9223372036854775807) {E : List UInt8} (hE : encInt x = E) {i : Nat} (hi : i < E.length) : decInt (E.take i) = (0, 0, 3) := by
  subst hE; exact decInt_cut h0 h1 hi
theorem tr_bytes {s : ByteArray} (hs : s.size ≤ 140737488355000) {E : List UInt8} (hE : encBytes s.data.toList = E) {i : Nat} (hi : i < E.length) : ∃ y1 y2, decBytes (E.take i) = (y1, y2, 3) := by
  subst hE
  have h := cuts_bytes s i (by show s.size ≤ _; omega) hi
  exact ⟨_, _, Prod.ext rfl (Prod.ext rfl h)⟩
theorem tr_ints {l : List Int} (hl : ∀ x ∈ l, -9223372036854775808 ≤ x ∧ x ≤ 9223372036854775807) (hN : l.length ≤ 140737488355000) {E : List UInt8} (hE : encInts l = E) {i : Nat} (hi : i < E.length) : decSeq decInt (E.take i) = ([], 0, 3) := by
  subst hE; exact decSeq_cut round_int cuts_int l hl (by omega) hi
theorem tr_strs {l : List ByteArray} (hl : ∀ x ∈ l, x.size ≤ 140737488355000) (hN : l.length ≤ 140737488355000) {E : List UInt8} (hE : encStrs l = E) {i : Nat} (hi : i < E.length) : decSeq decBytes (E.take i) = ([], 0, 3) := by
  subst hE; exact decSeq_cut round_bytes cuts_bytes l (fun x hx => by have := hl x hx; show x.size ≤ _; omega) (by omega) hi
theorem tr_digs {fl : List UInt8} {n : Nat} (hf : fl.length = n * 16) (hN : n ≤ 140737488355000) {E : List UInt8} (hE : encInt n ++ fl = E) {i : Nat} (hi : i < E.length) : decDigs (E.take i) = (0, [], 0, 3) := by
  subst hE
  rw [List.length_append] at hi
  have h3 : cntErr ((encInt (n : Int) ++ fl).take i) 16 = 3 := by
    by_cases h : i < (encInt (n : Int)).length
    · exact cnt_more_enc (by omega) _ h
    · rw [take_enc _ (by omega)]
      exact cnt_more (S := 16) (by omega) (by omega) _ (by rw [List.length_take]; omega)
  unfold decDigs
  rw [if_neg (by rw [h3]; decide), h3]
theorem encStrs_le (l : List ByteArray) : (encStrs l).length ≤ 9 + 9 * l.length + total l := by
  have h : ∀ l : List ByteArray, (l.flatMap fun s => encBytes s.data.toList).length ≤ 9 * l.length + total l := by
    intro l
    induction l with
    | nil => simp [total]
    | cons x l ih =>
      have h2 := encInt_le (x.data.toList.length : Int)
      have h3 : x.data.toList.length = x.size := Array.length_toList
      simp only [List.flatMap_cons, List.length_append, List.length_cons, total, List.map_cons, List.sum_cons, encBytes] at *
      omega
  have h1 := h l
  have h2 := encInt_le (l.length : Int)
  unfold encStrs
  rw [List.length_append]
  omega
theorem encInts_le' (l : List Int) : (encInts l).length ≤ 9 + 9 * l.length := by
  have h : ∀ l : List Int, (l.flatMap encInt).length ≤ 9 * l.length := by
    intro l
    induction l with
    | nil => simp
    | cons x l ih => have := encInt_le x; rw [List.flatMap_cons, List.length_append, List.length_cons]; omega
  have h1 := h l
  have h2 := encInt_le (l.length : Int)
  unfold encInts
  rw [List.length_append]
  omega
theorem encBytes_le' (l : List UInt8) : (encBytes l).length ≤ 9 + l.length := by
  have h2 := encInt_le (l.length : Int)
  unfold encBytes
  rw [List.length_append]
  omega

end Go.Proofs.YtblgmjnkllkhbaaDoor
end

/- the text Law9 -/
section
namespace Go.Proofs.YtblgmjnkllkhbaaDoor
open Go.RowKit Go.Dx

theorem rInt_at {x : Int} {r : List UInt8} (h : encInt x = r) (h0 : -9223372036854775808 ≤ x) (h1 : x ≤ 9223372036854775807) {w : World} :
    Calls Tryd.prog 30 #[.int .i64 x] w (Gives 5 1 r.length (r.map B8) w) := by subst h; exact ref_Int x h0 h1 w
theorem rInts_at {l : List Int} {r : List UInt8} (h : encInts l = r) (hl : ∀ x ∈ l, -9223372036854775808 ≤ x ∧ x ≤ 9223372036854775807) (hT : r.length ≤ 140737488355000) (hN : l.length ≤ 140737488355000) {a : Option Addr} {n c : Nat} {w : World} (hs : Sl w 1 a n c (l.map I64)) :
    Calls Tryd.prog 63 #[.slice a n c] w (Gives 5 1 r.length (r.map B8) w) := by subst h; exact ref_Ints l hl hT hN a n c w hs
theorem rBytes_at {s : ByteArray} {r : List UInt8} (h : encBytes s.data.toList = r) (hs : s.size ≤ 140737488355000) {w : World} :
    Calls Tryd.prog 68 #[.string s] w (Gives 5 1 r.length (r.map B8) w) := by subst h; exact ref_Bytes s hs w
theorem size_of_total {t : List ByteArray} {x : ByteArray} (h : x ∈ t) : x.size ≤ total t := by
  induction t with
  | nil => cases h
  | cons y t ih =>
    simp only [total, List.map_cons, List.sum_cons] at *
    rcases List.mem_cons.1 h with rfl | h
    · omega
    · have := ih h; omega

end Go.Proofs.YtblgmjnkllkhbaaDoor
end

/- the text S2 -/
section
/- Chapter 03: node, Digest. -/
namespace Go.Proofs.YtblgmjnkllkhbaaDoor
open Go.RowKit Go.Dx
def msgD (p : List UInt8) (i : Int) (m : ByteArray) : List UInt8 := (sha (inputL 4 [byB p, byB (encInt i), m])).take 16
set_option maxRecDepth 100000 in
set_option maxHeartbeats 2000000 in
theorem sg_node (l r : List UInt8) (hl : l.length = 16) (hr : r.length = 16) {D : List UInt8} (hD : nodeL l r = D) (w : World) (hL : Laid w) :
    Calls Tryd.prog 40 #[.agg (l.map B8).toArray, .agg (r.map B8).toArray] w fun e w' => e = .returned (.agg (D.map B8).toArray) ∧ Below w.heap.size w w' := by
  obtain ⟨Z, hZ⟩ : ∃ Z, Hid (zero16 = Z) := ⟨_, rfl⟩
  have h16 := zero_16
  rw [hZ.out] at h16
  have hZl : Hid (Z.length = 16) := hide (by rw [← hZ.out]; rfl)
  have hL := hide hL
  have hDl : D.length = 16 := by rw [← hD]; exact ofD_len _ _
  have HDl := hide hDl
  have HD := hide hD
  have hsz : ∀ s ∈ [byB l, byB r], s.size ≤ 10000 := by intro s hs; simp at hs; rcases hs with rfl | rfl <;> rw [byB_size] <;> omega
  have HSZ := hide hsz
  have hl := hide hl
  have hr := hide hr
  have hzD : Hid ((Tryd.prog.info? 23).map (·.size) = some (D.map B8).length) := hide (by rw [List.length_map, hDl]; exact size_dig')
  have hzl : Hid ((Tryd.prog.info? 23).map (·.size) = some (l.map B8).length) := hide (by rw [List.length_map, hl.out]; exact size_dig')
  have hzr : Hid ((Tryd.prog.info? 23).map (·.size) = some (r.map B8).length) := hide (by rw [List.length_map, hr.out]; exact size_dig')
  clear hDl hsz hD
  go_enter Tryd.func40, Tryd.ntmps40
  go_wp2_with fail
  obtain ⟨w1, G1, G2, G3, hw1, e1, e2, e3, x1, x2, x3, b1, l1, l2, l3⟩ := allocs3 w (l.map B8) (r.map B8) (Z.map B8) 23 23 23
  have hL1 := hide (hL.out.below b1)
  rw [← e3, ← e2, ← hw1, ← e1]
  have l0 : w.heap.size ≤ G1 := Nat.le_of_eq e1.symm
  clear hw1 e1 e2 e3
  refine wp_region_free 6 [⟨0, 5, [5], fun vs _ => vs = [.slice (some ⟨G1, 0, none⟩) 16 16]⟩, ⟨1, 6, [6], fun vs _ => vs = [.string (byB l)]⟩, ⟨2, 7, [7], fun vs _ => vs = [.slice (some ⟨G2, 0, none⟩) 16 16]⟩, ⟨3, 8, [8], fun vs _ => vs = [.string (byB r)]⟩, ⟨4, 9, [9], fun vs w' => ∃ b, vs = [.slice (some ⟨b, 0, none⟩) 2 2] ∧ Sl w' 1 (some ⟨b, 0, none⟩) 2 2 ([byB l, byB r].map Value.string)⟩, ⟨5, 10, [10], fun vs _ => vs = [.agg (D.map B8).toArray]⟩] (by kernel_rfl) (by kernel_rfl) ?_ ?_ ?_
  · simp only [All]
    refine ⟨fun _ _ _ _ h => h, fun _ _ _ _ h => h, fun _ _ _ _ h => h, fun _ _ _ _ h => h, ?_, fun _ _ _ _ h => h, trivial⟩
    · rintro vs w w' hb ⟨b, h1, h2⟩
      exact ⟨b, h1, h2.below hb⟩
  · simp only [All]
    refine ⟨?_, ?_, ?_, ?_, ?_, ?_, trivial⟩
    · intro o ho a' w' hb hfr hdep
      obtain rfl := Option.some.inj ho
      have g2 : a'.tmps[2]?.getD undef = .pointer (some ⟨G1, 0, none⟩) := by have h := hfr 2 (by kernel_rfl); simpa using h
      clear ho hfr hdep
      refine cut_var 5 23 5 16 _ none none Tryd.underlying23 size_u8 G1 0 (by simpa [Act.eval] using g2) 0 16 (.inl ⟨rfl, rfl⟩) (.inl ⟨rfl, rfl⟩) (by omega) (by omega) (by omega) ?_
      exact ⟨rfl, _, rfl, Below.refl _ _, rfl⟩
    · intro o ho a' w' hb hfr hdep
      obtain rfl := Option.some.inj ho
      have g5 : a'.tmps[5]?.getD undef = .slice (some ⟨G1, 0, none⟩) 16 16 := by have h := hdep 0 _ rfl (by kernel_rfl); simpa using h
      clear ho hfr hdep
      refine to_str 6 _ _ _ _ l (by simpa [Act.eval] using g5) ((x1.under hb).dig hl.out) ?_
      exact ⟨rfl, _, rfl, Below.refl _ _, rfl⟩
    · intro o ho a' w' hb hfr hdep
      obtain rfl := Option.some.inj ho
      have g3 : a'.tmps[3]?.getD undef = .pointer (some ⟨G2, 0, none⟩) := by have h := hfr 3 (by kernel_rfl); simpa using h
      clear ho hfr hdep
      refine cut_var 7 23 5 16 _ none none Tryd.underlying23 size_u8 G2 0 (by simpa [Act.eval] using g3) 0 16 (.inl ⟨rfl, rfl⟩) (.inl ⟨rfl, rfl⟩) (by omega) (by omega) (by omega) ?_
      exact ⟨rfl, _, rfl, Below.refl _ _, rfl⟩
    · intro o ho a' w' hb hfr hdep
      obtain rfl := Option.some.inj ho
      have g7 : a'.tmps[7]?.getD undef = .slice (some ⟨G2, 0, none⟩) 16 16 := by have h := hdep 2 _ rfl (by kernel_rfl); simpa using h
      clear ho hfr hdep
      refine to_str 8 _ _ _ _ r (by simpa [Act.eval] using g7) ((x2.under hb).dig hr.out) ?_
      exact ⟨rfl, _, rfl, Below.refl _ _, rfl⟩
    · intro o ho a' w' hb hfr hdep
      obtain rfl := Option.some.inj ho
      have g6 : a'.tmps[6]?.getD undef = .string (byB l) := by have h := hdep 1 _ rfl (by kernel_rfl); simpa using h
      have g8 : a'.tmps[8]?.getD undef = .string (byB r) := by have h := hdep 3 _ rfl (by kernel_rfl); simpa using h
      clear ho hfr hdep
      go_wp2_with fail
      exact ⟨rfl, _, rfl, sblo _ _, _, rfl, Sl.fresh _ _ 1 2 ([byB l, byB r].map Value.string) rfl (by decide)⟩
    · intro o ho a' w' hb hfr hdep
      obtain rfl := Option.some.inj ho
      obtain ⟨b9, h9, s9⟩ := hdep 4 _ rfl (by kernel_rfl)
      have g9 : a'.tmps[9]?.getD undef = .slice (some ⟨b9, 0, none⟩) 2 2 := by simpa using h9
      clear ho hfr hdep
      go_wp2_with fail
      refine (of_at HD.out (by simp) HSZ.out (hL1.out.below hb) s9).mono ?_
      rintro e w2 ⟨rfl, h2⟩
      go_wp2_with fail
      exact ⟨rfl, _, rfl, h2, rfl⟩
  · intro g w2 hb hp
    have p10 := hp 5 _ rfl
    clear hp
    simp at p10
    simp only [List.drop_succ_cons, List.drop_zero, List.map_cons, List.map_nil, putAll, Act.put, List.setIfInBounds_toArray, List.set_cons_succ, List.set_cons_zero, List.cons_append, List.nil_append, p10]
    refine store_all 23 _ _ 23 G3 (Z.map B8) (D.map B8) (.agg (D.map B8).toArray) hzD.out (x3.under hb) (by rfl) (by rfl) rfl (by rw [List.length_map, HDl.out, List.length_map, hZl.out]) (one_map _ (fun _ => rfl) _) ?_
    intro w3 x9 hgr hsz'
    go_wp2_with fail
    refine bodyPost_ret (run_results_cell rfl rfl isAgg_dig hzD.out x9) rfl ⟨rfl, ?_⟩
    exact (b1.trans (hb.mono b1.size)).grown hgr (Nat.le_trans b1.size hb.size) (fun k hk => by cases hk; omega)
set_option maxRecDepth 100000 in
set_option maxHeartbeats 2000000 in
theorem ref_node (l r : List UInt8) (hl : l.length = 16) (hr : r.length = 16) {D : List UInt8} (hD : nodeL l r = D) (w : World) (hL : LaidR w) :
    Calls Tryd.prog 43 #[.agg (l.map B8).toArray, .agg (r.map B8).toArray] w fun e w' => e = .returned (.agg (D.map B8).toArray) ∧ Below w.heap.size w w' := by
  obtain ⟨Z, hZ⟩ : ∃ Z, Hid (zero16 = Z) := ⟨_, rfl⟩
  have h16 := zero_16
  rw [hZ.out] at h16
  have hZl : Hid (Z.length = 16) := hide (by rw [← hZ.out]; rfl)
  have hL := hide hL
  have hDl : D.length = 16 := by rw [← hD]; exact ofD_len _ _
  have HDl := hide hDl
  have HD := hide hD
  have hsz : ∀ s ∈ [byB l, byB r], s.size ≤ 10000 := by intro s hs; simp at hs; rcases hs with rfl | rfl <;> rw [byB_size] <;> omega
  have HSZ := hide hsz
  have hl := hide hl
  have hr := hide hr
  have hzD : Hid ((Tryd.prog.info? 23).map (·.size) = some (D.map B8).length) := hide (by rw [List.length_map, hDl]; exact size_dig')
  have hzl : Hid ((Tryd.prog.info? 23).map (·.size) = some (l.map B8).length) := hide (by rw [List.length_map, hl.out]; exact size_dig')
  have hzr : Hid ((Tryd.prog.info? 23).map (·.size) = some (r.map B8).length) := hide (by rw [List.length_map, hr.out]; exact size_dig')
  clear hDl hsz hD
  go_enter Tryd.func43, Tryd.ntmps43
  go_wp2_with fail
  obtain ⟨w1, G1, G2, G3, hw1, e1, e2, e3, x1, x2, x3, b1, l1, l2, l3⟩ := allocs3 w (l.map B8) (r.map B8) (Z.map B8) 23 23 23
  have hL1 := hide (hL.out.below b1)
  rw [← e3, ← e2, ← hw1, ← e1]
  have l0 : w.heap.size ≤ G1 := Nat.le_of_eq e1.symm
  clear hw1 e1 e2 e3
  refine wp_region_free 6 [⟨0, 5, [5], fun vs _ => vs = [.agg (l.map B8).toArray]⟩, ⟨1, 6, [6], fun vs _ => vs = [.string (byB l)]⟩, ⟨2, 7, [7], fun vs _ => vs = [.agg (r.map B8).toArray]⟩, ⟨3, 8, [8], fun vs _ => vs = [.string (byB r)]⟩, ⟨4, 9, [9], fun vs w' => ∃ b, vs = [.slice (some ⟨b, 0, none⟩) 2 2] ∧ Sl w' 1 (some ⟨b, 0, none⟩) 2 2 ([byB l, byB r].map Value.string)⟩, ⟨5, 10, [10], fun vs _ => vs = [.agg (D.map B8).toArray]⟩] (by kernel_rfl) (by kernel_rfl) ?_ ?_ ?_
  · simp only [All]
    refine ⟨fun _ _ _ _ h => h, fun _ _ _ _ h => h, fun _ _ _ _ h => h, fun _ _ _ _ h => h, ?_, fun _ _ _ _ h => h, trivial⟩
    · rintro vs w w' hb ⟨b, h1, h2⟩
      exact ⟨b, h1, h2.below hb⟩
  · simp only [All]
    refine ⟨?_, ?_, ?_, ?_, ?_, ?_, trivial⟩
    · intro o ho a' w' hb hfr hdep
      obtain rfl := Option.some.inj ho
      have g2 : a'.tmps[2]?.getD undef = .pointer (some ⟨G1, 0, none⟩) := by have h := hfr 2 (by kernel_rfl); simpa using h
      clear ho hfr hdep
      refine load_box 5 23 _ 23 G1 0 (l.map B8) (l.map B8) isAgg_dig hzl.out (x1.under hb) (by simpa [Act.eval] using g2) (fun j u hj => by rw [Nat.zero_add]; exact hj) ?_
      exact ⟨rfl, _, rfl, Below.refl _ _, rfl⟩
    · intro o ho a' w' hb hfr hdep
      obtain rfl := Option.some.inj ho
      have g5 : a'.tmps[5]?.getD undef = .agg (l.map B8).toArray := by have h := hdep 0 _ rfl (by kernel_rfl); simpa using h
      clear ho hfr hdep
      go_wp2_with fail
      refine (text_any l hl.out _).mono ?_
      rintro e w2 ⟨rfl, h2⟩
      go_wp2_with fail
      exact ⟨rfl, _, rfl, h2, rfl⟩
    · intro o ho a' w' hb hfr hdep
      obtain rfl := Option.some.inj ho
      have g3 : a'.tmps[3]?.getD undef = .pointer (some ⟨G2, 0, none⟩) := by have h := hfr 3 (by kernel_rfl); simpa using h
      clear ho hfr hdep
      refine load_box 7 23 _ 23 G2 0 (r.map B8) (r.map B8) isAgg_dig hzr.out (x2.under hb) (by simpa [Act.eval] using g3) (fun j u hj => by rw [Nat.zero_add]; exact hj) ?_
      exact ⟨rfl, _, rfl, Below.refl _ _, rfl⟩
    · intro o ho a' w' hb hfr hdep
      obtain rfl := Option.some.inj ho
      have g7 : a'.tmps[7]?.getD undef = .agg (r.map B8).toArray := by have h := hdep 2 _ rfl (by kernel_rfl); simpa using h
      clear ho hfr hdep
      go_wp2_with fail
      refine (text_any r hr.out _).mono ?_
      rintro e w2 ⟨rfl, h2⟩
      go_wp2_with fail
      exact ⟨rfl, _, rfl, h2, rfl⟩
    · intro o ho a' w' hb hfr hdep
      obtain rfl := Option.some.inj ho
      have g6 : a'.tmps[6]?.getD undef = .string (byB l) := by have h := hdep 1 _ rfl (by kernel_rfl); simpa using h
      have g8 : a'.tmps[8]?.getD undef = .string (byB r) := by have h := hdep 3 _ rfl (by kernel_rfl); simpa using h
      clear ho hfr hdep
      go_wp2_with fail
      exact ⟨rfl, _, rfl, sblo _ _, _, rfl, Sl.fresh _ _ 1 2 ([byB l, byB r].map Value.string) rfl (by decide)⟩
    · intro o ho a' w' hb hfr hdep
      obtain rfl := Option.some.inj ho
      obtain ⟨b9, h9, s9⟩ := hdep 4 _ rfl (by kernel_rfl)
      have g9 : a'.tmps[9]?.getD undef = .slice (some ⟨b9, 0, none⟩) 2 2 := by simpa using h9
      clear ho hfr hdep
      go_wp2_with fail
      refine (rof_at HD.out (by simp) HSZ.out (hL1.out.below hb) s9).mono ?_
      rintro e w2 ⟨rfl, h2⟩
      go_wp2_with fail
      exact ⟨rfl, _, rfl, h2, rfl⟩
  · intro g w2 hb hp
    have p10 := hp 5 _ rfl
    clear hp
    simp at p10
    simp only [List.drop_succ_cons, List.drop_zero, List.map_cons, List.map_nil, putAll, Act.put, List.setIfInBounds_toArray, List.set_cons_succ, List.set_cons_zero, List.cons_append, List.nil_append, p10]
    refine store_all 23 _ _ 23 G3 (Z.map B8) (D.map B8) (.agg (D.map B8).toArray) hzD.out (x3.under hb) (by rfl) (by rfl) rfl (by rw [List.length_map, HDl.out, List.length_map, hZl.out]) (one_map _ (fun _ => rfl) _) ?_
    intro w3 x9 hgr hsz'
    go_wp2_with fail
    refine bodyPost_ret (run_results_cell rfl rfl isAgg_dig hzD.out x9) rfl ⟨rfl, ?_⟩
    exact (b1.trans (hb.mono b1.size)).grown hgr (Nat.le_trans b1.size hb.size) (fun k hk => by cases hk; omega)
set_option maxRecDepth 100000 in
set_option maxHeartbeats 2000000 in
theorem sg_Digest (p : List UInt8) (hp : p.length = 16) (i : Int) (hi0 : -9223372036854775808 ≤ i) (hi1 : i ≤ 9223372036854775807) (m : ByteArray) (hm : m.size ≤ 10000) {D : List UInt8} (hD : msgD p i m = D) (w : World) (hL : Laid w) :
    Calls Tryd.prog 16 #[.agg (p.map B8).toArray, .int .i64 i, .string m] w fun e w' => e = .returned (.agg (D.map B8).toArray) ∧ Below w.heap.size w w' := by
  obtain ⟨Z, hZ⟩ : ∃ Z, Hid (zero16 = Z) := ⟨_, rfl⟩
  have h16 := zero_16
  rw [hZ.out] at h16
  have hZl : Hid (Z.length = 16) := hide (by rw [← hZ.out]; rfl)
  have hL := hide hL
  have hDl : D.length = 16 := by rw [← hD]; exact List.length_take.trans (by rw [sha_len]; rfl)
  have HDl := hide hDl
  have HD := hide hD
  have hsz : ∀ s ∈ [byB p, byB (encInt i), m], s.size ≤ 10000 := by
    have := encInt_le i
    intro s hs; simp at hs; rcases hs with rfl | rfl | rfl
    · rw [byB_size]; omega
    · rw [byB_size]; omega
    · exact hm
  have HSZ := hide hsz
  have hp := hide hp
  have hzD : Hid ((Tryd.prog.info? 23).map (·.size) = some (D.map B8).length) := hide (by rw [List.length_map, hDl]; exact size_dig')
  have hzp : Hid ((Tryd.prog.info? 23).map (·.size) = some (p.map B8).length) := hide (by rw [List.length_map, hp.out]; exact size_dig')
  clear hDl hsz hD
  go_enter Tryd.func16, Tryd.ntmps16
  go_wp2_with fail
  obtain ⟨w1, G1, G2, hw1, e1, e2, x1, x2, b1, l1, l2⟩ := allocs2 w (p.map B8) (Z.map B8) 23 23
  have hL1 := hide (hL.out.below b1)
  rw [← e2, ← hw1, ← e1]
  have l0 : w.heap.size ≤ G1 := Nat.le_of_eq e1.symm
  clear hw1 e1 e2
  refine wp_region_free 8 [⟨0, 7, [7], fun vs _ => vs = [.slice (some ⟨G1, 0, none⟩) 16 16]⟩, ⟨1, 8, [8], fun vs _ => vs = [.string (byB p)]⟩, ⟨2, 9, [9], fun vs _ => vs = [.int .i64 i]⟩, ⟨3, 10, [10], fun vs w => ∃ a c, vs = [.slice a (encInt i).length c] ∧ Sl w 1 a (encInt i).length c ((encInt i).map B8)⟩, ⟨4, 11, [11], fun vs _ => vs = [.string (byB (encInt i))]⟩, ⟨5, 12, [12], fun vs _ => vs = [.string m]⟩, ⟨6, 13, [13], fun vs w' => ∃ b, vs = [.slice (some ⟨b, 0, none⟩) 3 3] ∧ Sl w' 1 (some ⟨b, 0, none⟩) 3 3 ([byB p, byB (encInt i), m].map Value.string)⟩, ⟨7, 14, [14], fun vs _ => vs = [.agg (D.map B8).toArray]⟩] (by kernel_rfl) (by kernel_rfl) ?_ ?_ ?_
  · simp only [All]
    refine ⟨fun _ _ _ _ h => h, fun _ _ _ _ h => h, fun _ _ _ _ h => h, ?_, fun _ _ _ _ h => h, fun _ _ _ _ h => h, ?_, fun _ _ _ _ h => h, trivial⟩
    · rintro vs w2 w3 hb ⟨a, c, h1, h2⟩
      exact ⟨a, c, h1, h2.below hb⟩
    · rintro vs w w' hb ⟨b, h1, h2⟩
      exact ⟨b, h1, h2.below hb⟩
  · simp only [All]
    refine ⟨?_, ?_, ?_, ?_, ?_, ?_, ?_, ?_, trivial⟩
    · intro o ho a' w' hb hfr hdep
      obtain rfl := Option.some.inj ho
      have g3 : a'.tmps[3]?.getD undef = .pointer (some ⟨G1, 0, none⟩) := by have h := hfr 3 (by kernel_rfl); simpa using h
      clear ho hfr hdep
      refine cut_var 7 23 5 16 _ none none Tryd.underlying23 size_u8 G1 0 (by simpa [Act.eval] using g3) 0 16 (.inl ⟨rfl, rfl⟩) (.inl ⟨rfl, rfl⟩) (by omega) (by omega) (by omega) ?_
      exact ⟨rfl, _, rfl, Below.refl _ _, rfl⟩
    · intro o ho a' w' hb hfr hdep
      obtain rfl := Option.some.inj ho
      have g7 : a'.tmps[7]?.getD undef = .slice (some ⟨G1, 0, none⟩) 16 16 := by have h := hdep 0 _ rfl (by kernel_rfl); simpa using h
      clear ho hfr hdep
      refine to_str 8 _ _ _ _ p (by simpa [Act.eval] using g7) ((x1.under hb).dig hp.out) ?_
      exact ⟨rfl, _, rfl, Below.refl _ _, rfl⟩
    · intro o ho a' w' hb hfr hdep
      obtain rfl := Option.some.inj ho
      have g1 : a'.tmps[1]?.getD undef = .int .i64 i := by have h := hfr 1 (by kernel_rfl); simpa using h
      clear ho hfr hdep
      go_wp2_with fail
      exact ⟨rfl, _, rfl, Below.refl _ _, rfl⟩
    · intro o ho a' w' hb hfr hdep
      obtain rfl := Option.some.inj ho
      have g9 : a'.tmps[9]?.getD undef = .int .i64 i := by have h := hdep 2 _ rfl (by kernel_rfl); simpa using h
      clear ho hfr hdep
      go_wp2_with fail
      refine (wire_Int i hi0 hi1 w').mono ?_
      rintro e w2 ⟨a2, c2, rfl, o2, h2⟩
      go_wp2_with fail
      exact ⟨rfl, _, rfl, h2, _, _, rfl, o2.sl⟩
    · intro o ho a' w' hb hfr hdep
      obtain rfl := Option.some.inj ho
      obtain ⟨a10, c10, h10, s10⟩ := hdep 3 _ rfl (by kernel_rfl)
      have g10 : a'.tmps[10]?.getD undef = .slice a10 (encInt i).length c10 := by simpa using h10
      clear ho hfr hdep
      refine to_str 11 _ _ _ _ (encInt i) (by simpa [Act.eval] using g10) s10 ?_
      exact ⟨rfl, _, rfl, Below.refl _ _, rfl⟩
    · intro o ho a' w' hb hfr hdep
      obtain rfl := Option.some.inj ho
      have g2 : a'.tmps[2]?.getD undef = .string m := by have h := hfr 2 (by kernel_rfl); simpa using h
      clear ho hfr hdep
      go_wp2_with fail
      exact ⟨rfl, _, rfl, Below.refl _ _, rfl⟩
    · intro o ho a' w' hb hfr hdep
      obtain rfl := Option.some.inj ho
      have g8 : a'.tmps[8]?.getD undef = .string (byB p) := by have h := hdep 1 _ rfl (by kernel_rfl); simpa using h
      have g11 : a'.tmps[11]?.getD undef = .string (byB (encInt i)) := by have h := hdep 4 _ rfl (by kernel_rfl); simpa using h
      have g12 : a'.tmps[12]?.getD undef = .string m := by have h := hdep 5 _ rfl (by kernel_rfl); simpa using h
      clear ho hfr hdep
      go_wp2_with fail
      exact ⟨rfl, _, rfl, sblo _ _, _, rfl, Sl.fresh _ _ 1 3 ([byB p, byB (encInt i), m].map Value.string) rfl (by decide)⟩
    · intro o ho a' w' hb hfr hdep
      obtain rfl := Option.some.inj ho
      obtain ⟨b13, h13, s13⟩ := hdep 6 _ rfl (by kernel_rfl)
      have g13 : a'.tmps[13]?.getD undef = .slice (some ⟨b13, 0, none⟩) 3 3 := by simpa using h13
      clear ho hfr hdep
      go_wp2_with fail
      refine (of_at HD.out (by simp) HSZ.out (hL1.out.below hb) s13).mono ?_
      rintro e w2 ⟨rfl, h2⟩
      go_wp2_with fail
      exact ⟨rfl, _, rfl, h2, rfl⟩
  · intro g w2 hb hp
    have p14 := hp 7 _ rfl
    clear hp
    simp at p14
    simp only [List.drop_succ_cons, List.drop_zero, List.map_cons, List.map_nil, putAll, Act.put, List.setIfInBounds_toArray, List.set_cons_succ, List.set_cons_zero, List.cons_append, List.nil_append, p14]
    refine store_all 23 _ _ 23 G2 (Z.map B8) (D.map B8) (.agg (D.map B8).toArray) hzD.out (x2.under hb) (by rfl) (by rfl) rfl (by rw [List.length_map, HDl.out, List.length_map, hZl.out]) (one_map _ (fun _ => rfl) _) ?_
    intro w3 x9 hgr hsz'
    go_wp2_with fail
    refine bodyPost_ret (run_results_cell rfl rfl isAgg_dig hzD.out x9) rfl ⟨rfl, ?_⟩
    exact (b1.trans (hb.mono b1.size)).grown hgr (Nat.le_trans b1.size hb.size) (fun k hk => by cases hk; omega)
end Go.Proofs.YtblgmjnkllkhbaaDoor
end

/- the text S3 -/
section
/- Chapter 03: start, advance. -/
namespace Go.Proofs.YtblgmjnkllkhbaaDoor
open Go.RowKit Go.Dx
set_option maxRecDepth 100000 in
set_option maxHeartbeats 2000000 in
theorem sg_start (s : ByteArray) (hs : s.size ≤ 1000) (i k : Int) (hi : 0 ≤ i ∧ i ≤ 9223372036854775807) (hk : 0 ≤ k ∧ k ≤ 1000) {D : List UInt8} (hD : startL s.data.toList i k = D) (w : World) (hL : Laid w) :
    Calls Tryd.prog 28 #[.string s, .int .i64 i, .int .i64 k] w fun e w' => e = .returned (.agg (D.map B8).toArray) ∧ Below w.heap.size w w' := by
  obtain ⟨Z, hZ⟩ : ∃ Z, Hid (zero16 = Z) := ⟨_, rfl⟩
  have h16 := zero_16
  rw [hZ.out] at h16
  have hZl : Hid (Z.length = 16) := hide (by rw [← hZ.out]; rfl)
  have hL := hide hL
  have hDl : D.length = 16 := by rw [← hD]; exact startL_len _ _ _
  have HDl := hide hDl
  obtain ⟨M, hM⟩ : ∃ M, Hid (macL s.data.toList (chainB ++ encInts [i, k]) = M) := ⟨_, rfl⟩
  have hMl : M.length = 32 := by rw [← hM.out]; unfold macL; rw [sha_len]
  have HDM : Hid (M.take 16 = D) := hide (by rw [← hM.out, ← hD]; rfl)
  have HMl := hide hMl
  have hb2 : ∀ x ∈ [i, k], -9223372036854775808 ≤ x ∧ x ≤ 9223372036854775807 := by intro x hx; simp at hx; rcases hx with rfl | rfl <;> omega
  have hle := encInts_le [i, k]
  obtain ⟨E, hE⟩ : ∃ E, Hid (encInts [i, k] = E) := ⟨_, rfl⟩
  rw [hE.out] at hle
  have HLE : Hid (E.length ≤ 27) := hide hle
  have HB2 := hide hb2
  have hzD : Hid ((Tryd.prog.info? 23).map (·.size) = some (D.map B8).length) := hide (by rw [List.length_map, hDl]; exact size_dig')
  clear hDl hMl hD hle hb2
  go_enter Tryd.func28, Tryd.ntmps28
  go_wp2_with fail
  obtain ⟨w1, G1, G2, hw1, e1, e2, x1, x2, b1, l1, l2⟩ := allocs2 w (Z.map B8) [.int .i64 i, .int .i64 k] 23 3
  rw [← e2, ← hw1, ← e1]
  have l0 : w.heap.size ≤ G1 := Nat.le_of_eq e1.symm
  clear hw1 e1 e2
  refine (sg_ints [i, k] HB2.out (by simp) hE.out _ _ _ w1 (x2.sl_all (n := 2) rfl (by decide))).mono ?_
  rintro e w2 ⟨rfl, h2⟩
  have b2 := b1.trans (h2.mono b1.size)
  have x1 := x1.under h2
  clear h2 x2 b1
  have hcat : (⟨#[99, 104, 97, 105, 110]⟩ : ByteArray) ++ ⟨E.toArray⟩ = byB (chainB ++ E) := byB_append chainB E
  have HC := hide hcat
  have HCS : Hid ((⟨#[99, 104, 97, 105, 110]⟩ : ByteArray).size + (⟨E.toArray⟩ : ByteArray).size ≤ 9223372036854775807) := hide (by show 5 + (byB E).size ≤ _; rw [byB_size]; have := HLE.out; omega)
  clear hcat
  go_wp2_with (with_reducible refine str_add 12 _ _ _ _ ⟨#[99, 104, 97, 105, 110]⟩ ⟨E.toArray⟩ (byB (chainB ++ E)) rfl rfl HCS.out HC.out ?_)
  refine (mac_at (key := s) (text := byB (chainB ++ E)) (r := M) (by rw [← hM.out, hE.out]; rfl) (by omega) (by rw [byB_size, List.length_append]; have := HLE.out; show 5 + _ ≤ _; omega) (hL.out.below b2)).mono ?_
  rintro e w3 ⟨rfl, h3⟩
  have b3 := b2.trans (h3.mono b2.size)
  have x1 := x1.under h3
  clear h3 b2
  have hX1 : (⟨M.toArray⟩ : ByteArray).extract 0 16 = ⟨D.toArray⟩ := by rw [← HDM.out]; exact byB_take M 16
  have hX2 : 16 ≤ (⟨M.toArray⟩ : ByteArray).size := by show 16 ≤ (byB M).size; rw [byB_size, HMl.out]; omega
  have hX1 := hide hX1
  have hX2 := hide hX2
  have b3' := hide b3
  have x1' := hide x1
  clear b3 x1
  go_wp2_with (first
    | (with_reducible refine str_hi 14 9 Tryd.underlying9 _ _ _ ⟨D.toArray⟩ .i64 16 rfl rfl hX2.out hX1.out ?_)
    | (with_reducible refine to_bytes_l 15 _ D 16 HDl.out (by decide) (by decide) rfl ?_; intro b o c w4 s4 h4 hp4; have S4 := hide s4; have H4 := hide h4; clear s4 h4 hp4)
    | (with_reducible refine arr_dig 16 _ _ _ _ rfl (by decide) ?_)
    | (with_reducible refine load_dig 17 _ _ rfl (D.map B8) (by rw [List.length_map, HDl.out]) (S4.out.cell _ rfl) ?_)
    | (with_reducible refine hold_store ?_))
  refine hide ?_
  have h4 := H4.out
  have x1 := x1'.out.under h4
  have b4 := b3'.out.trans (h4.mono b3'.out.size)
  refine store_all 23 _ _ 23 G1 (Z.map B8) (D.map B8) (.agg (D.map B8).toArray) hzD.out x1 (by rfl) (by rfl) rfl (by rw [List.length_map, HDl.out, List.length_map, hZl.out]) (one_map _ (fun _ => rfl) _) ?_
  intro w6 x9 hgr hsz'
  go_wp2_with fail
  refine bodyPost_ret (run_results_cell rfl rfl isAgg_dig hzD.out x9) rfl ⟨rfl, ?_⟩
  exact b4.grown hgr b4.size (fun k hk => by cases hk; omega)
set_option maxRecDepth 100000 in
set_option maxHeartbeats 2000000 in
theorem sg_advance (i k f : Int) (hi : 0 ≤ i ∧ i ≤ 9223372036854775807) (hk : 0 ≤ k ∧ k ≤ 1000) (n : Nat) (hf : 0 ≤ f) (hn : f + n ≤ 1000) (v0 : List UInt8) (hv0 : v0.length = 16) {D : List UInt8} (hD : advL i k f n v0 = D) (w : World) (hL : Laid w) :
    Calls Tryd.prog 27 #[.int .i64 i, .int .i64 k, .int .i64 f, .int .i64 (f + n), .agg (v0.map B8).toArray] w fun e w' => e = .returned (.agg (D.map B8).toArray) ∧ Below w.heap.size w w' := by
  obtain ⟨Z, hZ⟩ : ∃ Z, Hid (zero16 = Z) := ⟨_, rfl⟩
  have h16 := zero_16
  rw [hZ.out] at h16
  have hZl : Hid (Z.length = 16) := hide (by rw [← hZ.out]; rfl)
  have hL := hide hL
  have hDl : D.length = 16 := by rw [← hD]; exact advL_len _ _ _ _ hv0
  have HDl := hide hDl
  have HD := hide hD
  have hv0 := hide hv0
  obtain ⟨z, hz⟩ : ∃ z, Hid (z = f + n) := ⟨_, rfl⟩
  rw [← hz.out]
  have hzr : 0 ≤ z ∧ z ≤ 1000 := by have := hz.out; omega
  have hzD : Hid ((Tryd.prog.info? 23).map (·.size) = some (D.map B8).length) := hide (by rw [List.length_map, hDl]; exact size_dig')
  clear hDl hD
  go_enter Tryd.func27, Tryd.ntmps27
  go_wp2_with fail
  obtain ⟨w1, G1, G2, hw1, e1, e2, x1, x2, b1, l1, l2⟩ := allocs2 w (v0.map B8) (Z.map B8) 23 23
  rw [← e2, ← hw1, ← e1]
  have l0 : w.heap.size ≤ G1 := Nat.le_of_eq e1.symm
  clear hw1 e1 e2
  go_loopg [11] n (fun gh at_ w' => ∃ (t : Nat) (x : Int) (v : List UInt8), t ≤ n ∧ gh = n - t ∧ Hid (x = f + t) ∧ at_ = .int .i64 x ∧ Hid (v = advL i k f t v0) ∧ Hid (v.length = 16) ∧ Box w' G1 23 (v.map B8) ∧ Box w' G2 23 (Z.map B8) ∧ Below w.heap.size w w')
  case atStart => exact ⟨0, f, v0, by omega, by omega, hide (by simp), rfl, hide rfl, hv0, x1, x2, b1⟩
  case round =>
    clear x1 x2 b1
    obtain ⟨t, x, v, ht, hg, HX, rfl, HVV, hv, x1, x2, b⟩ := hrel
    have HG := hide hg
    clear hg
    by_cases hlt : t < n
    · have hxx := HX.out
      have hzz := hz.out
      have d0 : decide (x < z) = true := decide_eq_true (by omega)
      have hx0 : 0 ≤ x ∧ x ≤ 1000 := by omega
      clear hxx hzz
      have HB3 : Hid (∀ y ∈ [i, k, x], -9223372036854775808 ≤ y ∧ y ≤ 9223372036854775807) := hide (bounded3 hi hk hx0)
      have hle := encInts_le [i, k, x]
      obtain ⟨E, hE⟩ : ∃ E, Hid (encInts [i, k, x] = E) := ⟨_, rfl⟩
      rw [hE.out] at hle
      obtain ⟨v2, HV2⟩ : ∃ v2, Hid (ofD 5 [E, v] = v2) := ⟨_, rfl⟩
      have hv2 : Hid (v2.length = 16) := hide (by rw [← HV2.out]; exact ofD_len _ _)
      have hE2 : ofD 5 [encInts [i, k, x], v] = v2 := by rw [hE.out]; exact HV2.out
      have HSZ : Hid (∀ s ∈ [byB E, byB v], s.size ≤ 10000) := hide (by
        have := hv.out
        have h9 : E.length ≤ 36 := hle
        intro s hs; simp at hs; rcases hs with rfl | rfl <;> rw [byB_size] <;> omega)
      have hL3 : Hid (Laid wr) := hide (hL.out.below b)
      have hzv : Hid ((Tryd.prog.info? 23).map (·.size) = some (v.map B8).length) := hide (by rw [List.length_map, hv.out]; exact size_dig')
      have hzv2 : Hid ((Tryd.prog.info? 23).map (·.size) = some (v2.map B8).length) := hide (by rw [List.length_map, hv2.out]; exact size_dig')

      clear hle
      go_wp2_with fail
      refine wp_region_free 9 [⟨0, 18, [18], fun vs _ => vs = [.int .i64 i]⟩, ⟨1, 19, [19], fun vs _ => vs = [.int .i64 k]⟩, ⟨2, 20, [20], fun vs _ => vs = [.int .i64 x]⟩, ⟨3, 21, [21], fun vs w' => ∃ b, vs = [.slice (some ⟨b, 0, none⟩) 3 3] ∧ Sl w' 1 (some ⟨b, 0, none⟩) 3 3 ([i, k, x].map I64)⟩, ⟨4, 22, [22], fun vs _ => vs = [.string (byB E)]⟩, ⟨5, 23, [23], fun vs _ => vs = [.slice (some ⟨G1, 0, none⟩) 16 16]⟩, ⟨6, 24, [24], fun vs _ => vs = [.string (byB v)]⟩, ⟨7, 25, [25], fun vs w' => ∃ b, vs = [.slice (some ⟨b, 0, none⟩) 2 2] ∧ Sl w' 1 (some ⟨b, 0, none⟩) 2 2 ([byB E, byB v].map Value.string)⟩, ⟨8, 26, [26], fun vs _ => vs = [.agg (v2.map B8).toArray]⟩] (by kernel_rfl) (by kernel_rfl) ?_ ?_ ?_
      · simp only [All]
        refine ⟨fun _ _ _ _ h => h, fun _ _ _ _ h => h, fun _ _ _ _ h => h, ?_, fun _ _ _ _ h => h, fun _ _ _ _ h => h, fun _ _ _ _ h => h, ?_, fun _ _ _ _ h => h, trivial⟩
        · rintro vs w w' hb ⟨b, h1, h2⟩
          exact ⟨b, h1, h2.below hb⟩
        · rintro vs w w' hb ⟨b, h1, h2⟩
          exact ⟨b, h1, h2.below hb⟩
      · simp only [All]
        refine ⟨?_, ?_, ?_, ?_, ?_, ?_, ?_, ?_, ?_, trivial⟩
        · intro o ho a' w' hb hfr hdep
          obtain rfl := Option.some.inj ho
          have g0 : a'.tmps[0]?.getD undef = .int .i64 i := by have h := hfr 0 (by kernel_rfl); simpa using h
          clear ho hfr hdep
          go_wp2_with fail
          exact ⟨rfl, _, rfl, Below.refl _ _, rfl⟩
        · intro o ho a' w' hb hfr hdep
          obtain rfl := Option.some.inj ho
          have g1 : a'.tmps[1]?.getD undef = .int .i64 k := by have h := hfr 1 (by kernel_rfl); simpa using h
          clear ho hfr hdep
          go_wp2_with fail
          exact ⟨rfl, _, rfl, Below.refl _ _, rfl⟩
        · intro o ho a' w' hb hfr hdep
          obtain rfl := Option.some.inj ho
          have g11 : a'.tmps[11]?.getD undef = .int .i64 x := by have h := hfr 11 (by kernel_rfl); simpa using h
          clear ho hfr hdep
          go_wp2_with fail
          exact ⟨rfl, _, rfl, Below.refl _ _, rfl⟩
        · intro o ho a' w' hb hfr hdep
          obtain rfl := Option.some.inj ho
          have g18 : a'.tmps[18]?.getD undef = .int .i64 i := by have h := hdep 0 _ rfl (by kernel_rfl); simpa using h
          have g19 : a'.tmps[19]?.getD undef = .int .i64 k := by have h := hdep 1 _ rfl (by kernel_rfl); simpa using h
          have g20 : a'.tmps[20]?.getD undef = .int .i64 x := by have h := hdep 2 _ rfl (by kernel_rfl); simpa using h
          clear ho hfr hdep
          go_wp2_with fail
          exact ⟨rfl, _, rfl, sblo _ _, _, rfl, Sl.fresh _ _ 1 3 ([i, k, x].map I64) rfl (by decide)⟩
        · intro o ho a' w' hb hfr hdep
          obtain rfl := Option.some.inj ho
          obtain ⟨b21, h21, s21⟩ := hdep 3 _ rfl (by kernel_rfl)
          have g21 : a'.tmps[21]?.getD undef = .slice (some ⟨b21, 0, none⟩) 3 3 := by simpa using h21
          clear ho hfr hdep
          go_wp2_with fail
          refine (sg_ints [i, k, x] HB3.out (by simp) hE.out _ _ _ _ s21).mono ?_
          rintro e w2 ⟨rfl, h2⟩
          go_wp2_with fail
          exact ⟨rfl, _, rfl, h2, rfl⟩
        · intro o ho a' w' hb hfr hdep
          obtain rfl := Option.some.inj ho
          have g9 : a'.tmps[9]?.getD undef = .pointer (some ⟨G1, 0, none⟩) := by have h := hfr 9 (by kernel_rfl); simpa using h
          clear ho hfr hdep
          refine cut_var 23 23 5 16 _ none none Tryd.underlying23 size_u8 G1 0 (by simpa [Act.eval] using g9) 0 16 (.inl ⟨rfl, rfl⟩) (.inl ⟨rfl, rfl⟩) (by omega) (by omega) (by omega) ?_
          exact ⟨rfl, _, rfl, Below.refl _ _, rfl⟩
        · intro o ho a' w' hb hfr hdep
          obtain rfl := Option.some.inj ho
          have g23 : a'.tmps[23]?.getD undef = .slice (some ⟨G1, 0, none⟩) 16 16 := by have h := hdep 5 _ rfl (by kernel_rfl); simpa using h
          clear ho hfr hdep
          refine to_str 24 _ _ _ _ v (by simpa [Act.eval] using g23) ((x1.under hb).dig hv.out) ?_
          exact ⟨rfl, _, rfl, Below.refl _ _, rfl⟩
        · intro o ho a' w' hb hfr hdep
          obtain rfl := Option.some.inj ho
          have g22 : a'.tmps[22]?.getD undef = .string (byB E) := by have h := hdep 4 _ rfl (by kernel_rfl); simpa using h
          have g24 : a'.tmps[24]?.getD undef = .string (byB v) := by have h := hdep 6 _ rfl (by kernel_rfl); simpa using h
          clear ho hfr hdep
          go_wp2_with fail
          exact ⟨rfl, _, rfl, sblo _ _, _, rfl, Sl.fresh _ _ 1 2 ([byB E, byB v].map Value.string) rfl (by decide)⟩
        · intro o ho a' w' hb hfr hdep
          obtain rfl := Option.some.inj ho
          obtain ⟨b25, h25, s25⟩ := hdep 7 _ rfl (by kernel_rfl)
          have g25 : a'.tmps[25]?.getD undef = .slice (some ⟨b25, 0, none⟩) 2 2 := by simpa using h25
          clear ho hfr hdep
          go_wp2_with fail
          refine (of_at HV2.out (by simp) HSZ.out (hL3.out.below hb) s25).mono ?_
          rintro e w2 ⟨rfl, h2⟩
          go_wp2_with fail
          exact ⟨rfl, _, rfl, h2, rfl⟩
      · intro g w2 hb hp
        have p26 := hp 8 _ rfl
        clear hp
        simp at p26
        simp only [List.drop_succ_cons, List.drop_zero, List.map_cons, List.map_nil, putAll, Act.put, List.setIfInBounds_toArray, List.set_cons_succ, List.set_cons_zero, List.cons_append, List.nil_append, p26]
        refine store_all 23 _ _ 23 G1 (v.map B8) (v2.map B8) (.agg (v2.map B8).toArray) hzv2.out (x1.under hb) (by rfl) (by rfl) rfl (by rw [List.length_map, hv2.out, List.length_map, hv.out]) (one_map _ (fun _ => rfl) _) ?_
        intro w3 x9 hgr hsz'
        have hg1 := x1.lt
        have x2 := (x2.under hb).grown hgr (fun h => by cases h; omega)
        have b3 := (b.trans (hb.mono b.size)).grown hgr (Nat.le_trans b.size hb.size) (fun k hk => by cases hk; omega)
        clear hgr hb p26 hg1
        go_wp2_with fail
        go_roundg (n - (t + 1))
        case measure => have := HG.out; omega
        case rel => exact ⟨t + 1, x + 1, v2, by omega, rfl, hide (by have := HX.out; omega), by go_num, hide (by rw [advL, ← HX.out, ← hE2, HVV.out]), hv2, x9, x2, b3⟩

    · obtain rfl : t = n := by omega
      have hxx := HX.out
      have hzz := hz.out
      have d0 : decide (x < z) = false := decide_eq_false (by omega)
      clear hxx hzz
      have HDv : Hid (v = D) := hide (by rw [HVV.out]; exact HD.out)
      rw [HDv.out] at x1
      go_wp2_with (first
        | (with_reducible refine load_box 27 23 _ 23 G1 0 (D.map B8) (D.map B8) isAgg_dig hzD.out x1 rfl (fun j u hj => by rw [Nat.zero_add]; exact hj) ?_)
        | (with_reducible refine hold_store ?_))
      refine hide ?_
      refine store_all 23 _ _ 23 G2 (Z.map B8) (D.map B8) (.agg (D.map B8).toArray) hzD.out x2 (by rfl) (by rfl) rfl (by rw [List.length_map, HDl.out, List.length_map, hZl.out]) (one_map _ (fun _ => rfl) _) ?_
      intro w6 x9 hgr hsz'
      go_wp2_with fail
      refine bodyPost_ret (run_results_cell rfl rfl isAgg_dig hzD.out x9) rfl ⟨rfl, ?_⟩
      exact b.grown hgr b.size (fun k hk => by cases hk; omega)
end Go.Proofs.YtblgmjnkllkhbaaDoor
end

/- the text S4 -/
section
/- Chapter 03: Digits. -/
namespace Go.Proofs.YtblgmjnkllkhbaaDoor
open Go.RowKit Go.Dx
/-- the cells of the digits, the first k of them written -/
def digA (d : List UInt8) (k : Nat) : List Int := (List.range 68).map fun j => if j < k then (digN d j : Int) else 0
def zero68 : List Int := List.replicate 68 0
theorem zero_68 (W : World) : (zeroValue 43).run Tryd.prog W = .ok (.agg (zero68.map I64).toArray) W := by kernel_rfl
theorem digA_get {d : List UInt8} {k j : Nat} (h : j < 68) : (digA d k)[j]? = some (if j < k then (digN d j : Int) else 0) := by
  unfold digA; rw [List.getElem?_map, List.getElem?_range h]; rfl
theorem digA_len (d : List UInt8) (k : Nat) : (digA d k).length = 68 := by unfold digA; rw [List.length_map, List.length_range]
theorem digA_set {d : List UInt8} {k : Nat} (h : k < 64) : ((digA d k).map I64).set k (I64 (digN d k : Int)) = (digA d (k + 1)).map I64 := by
  rw [← List.map_set]
  congr 1
  apply List.ext_getElem?
  intro j
  by_cases hj : j < 68
  · rw [List.getElem?_set, digA_get hj]
    by_cases e : k = j
    · subst e; rw [if_pos rfl, if_pos (by rw [digA_len]; omega), digA_get hj, if_pos (by omega)]
    · rw [if_neg e, digA_get hj]
      by_cases e2 : j < k
      · rw [if_pos e2, if_pos (by omega)]
      · rw [if_neg e2, if_neg (by omega)]
  · rw [List.getElem?_eq_none (by rw [List.length_set, digA_len]; omega), List.getElem?_eq_none (by rw [digA_len]; omega)]
theorem shr_digit (u : UInt8) (r : Nat) (h : r < 4) : u.toNat / 2 ^ (6 - 2 * r) = u.toNat / 4 ^ (3 - r) := by
  have : 2 ^ (6 - 2 * r) = 4 ^ (3 - r) := by rcases (by omega : r = 0 ∨ r = 1 ∨ r = 2 ∨ r = 3) with rfl | rfl | rfl | rfl <;> rfl
  rw [this]
theorem shr_wrap (u : UInt8) (n : Nat) : wrap64 ((u.toNat : Int) / 2 ^ n) = ((u.toNat / 2 ^ n : Nat) : Int) := by
  have h1 := UInt8.toNat_lt u
  have h2 : u.toNat / 2 ^ n ≤ u.toNat := Nat.div_le_self _ _
  have e : ((u.toNat : Int) / 2 ^ n) = ((u.toNat / 2 ^ n : Nat) : Int) := by norm_cast
  rw [e]
  clear e
  generalize u.toNat / 2 ^ n = m at *
  unfold wrap64
  omega
/-- the cells of the digits, the last n of the four checksum digits written -/
def digB (d : List UInt8) (n : Nat) : List Int := (List.range 68).map fun j => if j < 64 then (digN d j : Int) else if 68 ≤ j + n then (dgs d j : Int) else 0
theorem digB_zero (d : List UInt8) : digB d 0 = digA d 64 := by
  unfold digB digA
  apply List.map_congr_left
  intro j hj
  rw [List.mem_range] at hj
  split
  · rfl
  · rw [if_neg (by omega)]
theorem digB_all (d : List UInt8) : digB d 4 = (List.range 68).map fun j => (dgs d j : Int) := by
  unfold digB
  apply List.map_congr_left
  intro j hj
  split
  · rename_i h; unfold dgs; rw [if_pos h]
  · rw [if_pos (by omega)]
theorem digB_len (d : List UInt8) (k : Nat) : (digB d k).length = 68 := by unfold digB; rw [List.length_map, List.length_range]
theorem digB_get {d : List UInt8} {n j : Nat} (h : j < 68) : (digB d n)[j]? = some (if j < 64 then (digN d j : Int) else if 68 ≤ j + n then (dgs d j : Int) else 0) := by
  unfold digB; rw [List.getElem?_map, List.getElem?_range h]; rfl
theorem digB_set {d : List UInt8} {n : Nat} (h : n < 4) : ((digB d n).map I64).set (67 - n) (I64 (dgs d (67 - n) : Int)) = (digB d (n + 1)).map I64 := by
  rw [← List.map_set]
  congr 1
  apply List.ext_getElem?
  intro j
  by_cases hj : j < 68
  · rw [List.getElem?_set, digB_get hj]
    by_cases e : 67 - n = j
    · subst e; rw [if_pos rfl, if_pos (by rw [digB_len]; omega), digB_get hj, if_neg (by omega), if_pos (by omega)]
    · rw [if_neg e, digB_get hj]
      by_cases e1 : j < 64
      · rw [if_pos e1, if_pos e1]
      · rw [if_neg e1, if_neg e1]
        by_cases e2 : 68 ≤ j + n
        · rw [if_pos e2, if_pos (by omega)]
        · rw [if_neg e2, if_neg (by omega)]
  · rw [List.getElem?_eq_none (by rw [List.length_set, digB_len]; omega), List.getElem?_eq_none (by rw [digB_len]; omega)]
theorem sumN_le (d : List UInt8) (n : Nat) : sumN d n ≤ 3 * n := by
  induction n with
  | zero => exact Nat.le_refl _
  | succ n ih => rw [sumN]; omega
set_option maxRecDepth 100000 in
set_option maxHeartbeats 2000000 in
theorem sg_Digits (d : List UInt8) (hd : d.length = 16) (w : World) :
    Calls Tryd.prog 10 #[.agg (d.map B8).toArray] w fun e w' => ∃ b, e = .returned (.slice (some ⟨b, 0, none⟩) 68 68) ∧ Box w' b 43 (((List.range 68).map fun j => (dgs d j : Int)).map I64) ∧ w.heap.size ≤ b ∧ Below w.heap.size w w' := by
  obtain ⟨Z, hZ⟩ : ∃ Z, Hid (zero68 = Z) := ⟨_, rfl⟩
  have h16 := zero_68
  rw [hZ.out] at h16
  have hZA : Hid (Z = digA d 0) := hide (by rw [← hZ.out]; unfold digA zero68; simp; decide)
  go_enter Tryd.func10, Tryd.ntmps10
  go_wp2_with fail
  obtain ⟨w1, G1, G3, hw1, e1, e2, x1, x3, b1, l1, l2⟩ := allocs2 w (d.map B8) (Z.map I64) 23 43
  rw [← e2, ← hw1, ← e1]
  have l0 : w.heap.size ≤ G1 := Nat.le_of_eq e1.symm
  clear hw1 e1 e2
  rw [hZA.out] at x3
  have hd := hide hd
  go_loopg [4, 7] 64 (fun gh s v w' => ∃ k : Nat, k ≤ 64 ∧ gh = 64 - k ∧ s = .int .i64 (sumN d k : Int) ∧ v = .int .i64 (k : Int) ∧ Box w' G1 23 (d.map B8) ∧ Box w' G3 43 ((digA d k).map I64) ∧ Below w.heap.size w w')
  case atStart => exact ⟨0, by omega, by omega, rfl, rfl, x1, x3, b1⟩
  case round =>
    clear x1 x3 b1
    obtain ⟨k, hk, hg, rfl, rfl, x1, x3, b⟩ := hrel
    have HG := hide hg
    clear hg
    by_cases hlt : k < 64
    · obtain ⟨u, hu⟩ : ∃ u, d[k / 4]? = some u := ⟨d[k / 4]'(by rw [hd.out]; omega), by simp⟩
      have q0 : wr.cell? ⟨G1, k / 4, none⟩ = some (B8 u) := x1.at_ (box_at hu)
      have f3 := x3.free k
      have HU := hide hu
      have d0 : decide ((k : Int) < 64) = true := decide_eq_true (by omega)
      clear hu
      obtain ⟨s, hs⟩ : ∃ s, Hid (u.toNat / 2 ^ (6 - 2 * (k % 4)) = s) := ⟨_, rfl⟩
      have hw := shr_wrap u (6 - 2 * (k % 4))
      rw [hs.out] at hw
      have hdg : digN d k = s % 4 := by
        unfold digN
        rw [List.getD_eq_getElem?_getD, HU.out, Option.getD_some, ← shr_digit u (k % 4) (by omega), hs.out]
      have q3 : wr.cell? ⟨G3, k, none⟩ = some (I64 0) := x3.at_ (by rw [List.getElem?_map, digA_get (by omega), if_neg (by omega)]; rfl)
      have hDG := hide hdg
      have hsl := hide (sumN_le d k)
      have hsm : sumN d k ≤ 192 := by have := hsl.out; omega
      obtain ⟨S, hS⟩ : ∃ S, Hid (sumN d k = S) := ⟨_, rfl⟩
      rw [hS.out] at hsm ⊢
      clear hdg
      go_wp2_with fail
      go_roundg (64 - (k + 1))
      case measure => have := HG.out; omega
      case rel =>
        have x3' := x3.put k (I64 (digN d k : Int))
        rw [digA_set hlt, hDG.out] at x3'
        refine ⟨k + 1, by omega, rfl, ?_, by go_num, x1.far (by simp; omega) _, ?_, ?_⟩
        · rw [sumN, hS.out, hDG.out]; go_num
        · exact x3'
        · exact b.setCell (by simp; omega) _
    · obtain rfl : k = 64 := by omega
      rw [← digB_zero] at x3
      have hsl := hide (sumN_le d 64)
      have hsm : sumN d 64 ≤ 192 := by have := hsl.out; omega
      obtain ⟨S, hS⟩ : ∃ S, Hid (sumN d 64 = S) := ⟨_, rfl⟩
      rw [hS.out] at hsm ⊢
      go_wp2_with fail
      go_loopg [4, 6] 4 (fun gh s v w' => ∃ n : Nat, n ≤ 4 ∧ gh = 4 - n ∧ s = .int .i64 ((S / 4 ^ n : Nat) : Int) ∧ v = .int .i64 ((67 : Int) - n) ∧ Box w' G3 43 ((digB d n).map I64) ∧ Below w.heap.size w w')
      case atStart => exact ⟨0, by omega, by omega, by simp, rfl, x3, b⟩
      case round =>
        clear x1 x3 b
        obtain ⟨n, hn, hg, rfl, rfl, x3, b⟩ := hrel
        have HG := hide hg
        clear hg
        by_cases hlt : n < 4
        · have f3 := x3.free (67 - n)
          have q3 : ∃ z, wr.cell? ⟨G3, 67 - n, none⟩ = some (I64 z) := ⟨_, x3.at_ (by rw [List.getElem?_map, digB_get (by omega)]; rfl)⟩
          obtain ⟨z, q3⟩ := q3
          have d0 : decide (64 ≤ (67 : Int) - n) = true := decide_eq_true (by omega)
          obtain ⟨T, hT⟩ : ∃ T, Hid (S / 4 ^ n = T) := ⟨_, rfl⟩
          have hTS : T ≤ 192 := by rw [← hT.out]; exact Nat.le_trans (Nat.div_le_self _ _) hsm
          rw [hT.out]
          have hdg : Hid (dgs d (67 - n) = T % 4) := hide (by unfold dgs; rw [if_neg (by omega), hS.out, show 67 - (67 - n) = n by omega, hT.out])
          go_wp2_with fail
          go_roundg (4 - (n + 1))
          case measure => have := HG.out; omega
          case rel =>
            have x3' := x3.put (67 - n) (I64 (dgs d (67 - n) : Int))
            rw [digB_set hlt, hdg.out] at x3'
            refine ⟨n + 1, by omega, rfl, ?_, by go_num, ?_, ?_⟩
            · rw [Nat.pow_succ, ← Nat.div_div_eq_div_mul, hT.out]; go_num
            · exact x3'
            · exact b.setCell (by simp; omega) _
        · obtain rfl : n = 4 := by omega
          rw [digB_all] at x3
          go_wp2_with (with_reducible refine cut_var 40 43 3 68 _ none none Tryd.underlying43 size_int G3 0 rfl 0 68 (.inl ⟨rfl, rfl⟩) (.inl ⟨rfl, rfl⟩) (by omega) (by omega) (by omega) ?_)
          go_ret
          exact ⟨G3, rfl, x3, by omega, b⟩
end Go.Proofs.YtblgmjnkllkhbaaDoor
end

/- the text Shelf -/
section
/-
  DERIVED: THE SHELF's CONTRACTS AT THIS DUMP, IN PLAIN WORDS (tools/lay-plain.mjs out of 'TryShelf.lean', which tools/lay-shelf.mjs wrote): THE SAME DECLARATIONS UNDER THE SAME NAMES: 'import', 'namespace', 'open', 'def', 'theorem' AND NOTHING ELSE: no command of the shelf's: FOR A HAND-IN. Each laying: the table of numbers ('.._ren') and one theorem, a field a fact of the dump's own or the kernel's comparison; each contract: ONE APPLICATION.
-/
namespace Go.Proofs
open Go.Shelf
def Tryd.lays169_ren : Go.Shelf.Ren := ⟨fun | 169 => 29 | n => n, fun | 70 => 51 | 9 => 9 | 0 => 0 | 72 => 54 | 37 => 52 | 127 => 79 | 3 => 3 | 5 => 5 | n => n, fun | n => n⟩
theorem Tryd.lays169 : Go.Proofs.Lays.n169 Tryd.prog Tryd.lays169_ren := {
  mixed := by kernel_rfl
  f169 := Tryd.func29.trans (congrArg some (by kernel_rfl))
  t0 := Tryd.underlying0
  a0 := Tryd.isAgg0
  z0 := Tryd.sizeOf0
  v0 := Tryd.zeroValue0
  t3 := Tryd.underlying3
  a3 := Tryd.isAgg3
  z3 := Tryd.sizeOf3
  v3 := Tryd.zeroValue3
  t9 := Tryd.underlying9
  a9 := Tryd.isAgg9
  z9 := Tryd.sizeOf9
  v9 := Tryd.zeroValue9
  t37 := Tryd.underlying52
  a37 := Tryd.isAgg52
  z37 := Tryd.sizeOf52
  v37 := Tryd.zeroValue52
  t70 := Tryd.underlying51
  a70 := Tryd.isAgg51
  z70 := Tryd.sizeOf51
  v70 := Tryd.zeroValue51
  t72 := Tryd.underlying54
  a72 := Tryd.isAgg54
  z72 := Tryd.sizeOf54
  v72 := Tryd.zeroValue54
  t127 := Tryd.underlying79
  a127 := Tryd.isAgg79
  z127 := Tryd.sizeOf79
  v127 := Tryd.zeroValue79 }
theorem Tryd.Builder_Extra_169 : Builder.Extra Tryd.prog Tryd.lays169_ren := {
  sizeBuilder := by kernel_rfl
  liesBuilder := by kernel_rfl
  t5 := Tryd.underlying5
  a5 := Tryd.isAgg5
  z5 := Tryd.sizeOf5
  v5 := Tryd.zeroValue5
  infoByte := by kernel_rfl
  cellsByte := by kernel_rfl
  sizeByte := by kernel_rfl
  neB5 := by decide }
open Go.RowKit in
/-- (*strings.Builder).String: "String returns the accumulated string.": OF A BUILDER THAT HOLDS AT LEAST ONE BYTE. ✋ THE MODEL FREEZES THOSE BYTES IN THE BUFFER (unsafe.String): a later write INTO them ends the model's run without an answer; a later append BEHIND them goes on. The statement's order of evaluation is drawn: one draw. (LAID: no walk: one application.) -/
theorem Tryd.Builder_String (B b : Nat) (l : List UInt8) (w : World) (h : Lib.IsBuilder 54 5 B b (Lib.byteCells l) w) (h0 : l ≠ []) :
    Calls Tryd.prog 29 #[.pointer (some ⟨b, 0, none⟩)] w fun e w' => e = .returned (.string ⟨l.toArray⟩) ∧ Below B w w' := Any.Builder_String Tryd.lays169 Tryd.Builder_Extra_169 B b l w h h0
open Go.RowKit in
/-- (*strings.Builder).String OF A BUILDER THAT HOLDS NO BYTE: the empty string. (Its buffer is nil, or a row of which it has taken nothing yet; where that row has NO capacity the model lays one new block for unsafe.SliceData's 'some address'.) One draw. (LAID: no walk: one application.) -/
theorem Tryd.Builder_String_empty (B b : Nat) (w : World) (h : Lib.IsBuilder 54 5 B b [] w) (hBw : B ≤ w.heap.size) :
    Calls Tryd.prog 29 #[.pointer (some ⟨b, 0, none⟩)] w fun e w' => e = .returned (.string ⟨#[]⟩) ∧ Below B w w' := Any.Builder_String_empty Tryd.lays169 Tryd.Builder_Extra_169 B b w h hBw
open Go.RowKit in
/-- (*strings.Builder).String: "String returns the accumulated string.": WHATEVER THE BUILDER HOLDS. (LAID: no walk: one application.) -/
theorem Tryd.Builder_String_any (B b : Nat) (l : List UInt8) (w : World) (h : Lib.IsBuilder 54 5 B b (Lib.byteCells l) w) (hBw : B ≤ w.heap.size) :
    Calls Tryd.prog 29 #[.pointer (some ⟨b, 0, none⟩)] w fun e w' => e = .returned (.string ⟨l.toArray⟩) ∧ Below B w w' := Any.Builder_String_any Tryd.lays169 Tryd.Builder_Extra_169 B b l w h hBw
end Go.Proofs
end

/- the text SB -/
section
/- strings.Builder: copyCheck and Write (String is laid by the shelf); what is kept. -/
set_option linter.unusedVariables false
namespace Go.Proofs.YtblgmjnkllkhbaaDoor
open Go.RowKit Go.Dx

theorem sb_size : (Tryd.prog.info? 54).map (·.size) = some 2 := by kernel_rfl
theorem sb_lies : liesAt Tryd.prog Tryd.prog.depth 54 (2 / Tryd.prog.cellsOf 54) 0 54 1 = true := by kernel_rfl

set_option maxHeartbeats 1000000 in
set_option maxRecDepth 100000 in
theorem sb_check_used (b : Nat) (w : World) (h0 : w.cell? ⟨b, 0, none⟩ = some (.pointer (some ⟨b, 0, none⟩))) :
    Calls Tryd.prog 47 #[.pointer (some ⟨b, 0, none⟩)] w fun e w' => e = .returned (.tuple #[]) ∧ w' = w := by
  obtain ⟨j, hj, _⟩ := Option.map_eq_some_iff.1 sb_size
  go_enter Tryd.func47, Tryd.ntmps47
  go_wp2
  rw [Lib.run_neq_ptr_same w _ Tryd.underlying51 hj]
  go_wp2
  go_end0
  exact ⟨rfl, rfl⟩

set_option maxHeartbeats 1000000 in
set_option maxRecDepth 100000 in
theorem sb_check_fresh (b : Nat) (w : World) (h0 : w.cell? ⟨b, 0, none⟩ = some (.pointer none)) (hsh : w.shape? b = some (54, 2)) (hfz : w.frozen? ⟨b, 0, none⟩ = false) :
    Calls Tryd.prog 47 #[.pointer (some ⟨b, 0, none⟩)] w fun e w' => e = .returned (.tuple #[]) ∧ w' = w.setCell ⟨b, 0, none⟩ (.pointer (some ⟨b, 0, none⟩)) := by
  obtain ⟨j, hj, hjs⟩ := Option.map_eq_some_iff.1 sb_size
  go_enter Tryd.func47, Tryd.ntmps47
  go_wp2
  rw [Lib.run_to_unsafe w ⟨b, 0, none⟩ Tryd.underlying51 Tryd.underlying95 hj (by rw [hjs]; decide) hsh (Nat.zero_lt_succ 1)]
  simp only [Result.andThen]
  rw [Oper.upon_value]
  go_wp2
  rw [run_callFunc_extern Tryd.func59 (by kernel_rfl) (by kernel_rfl) (by kernel_rfl) (e := Extern.AbiNoEscape.same) (by kernel_rfl)]
  rw [Lib.run_noEscape]
  simp only [Result.andThen]
  rw [Oper.upon_value]
  go_wp2
  rw [Lib.run_from_unsafe w ⟨b, 0, none⟩ Tryd.underlying95 Tryd.underlying51 hj hsh sb_lies]
  simp only [Result.andThen]
  rw [Oper.upon_value]
  go_wp2
  go_end0
  exact ⟨rfl, rfl⟩

/-- blocks that a builder's Write keeps -/
def Keeps (b : Nat) (w w' : World) : Prop := ∀ D t cs, D ≠ b → t ≠ 5 → Box w D t cs → Box w' D t cs
theorem Keeps.trans {b : Nat} {w w' w'' : World} (h : Keeps b w w') (k : Keeps b w' w'') : Keeps b w w'' := fun D t cs hD ht x => k D t cs hD ht (h D t cs hD ht x)
theorem Keeps.below {b : Nat} {w w' : World} (h : Below w.heap.size w w') : Keeps b w w' := fun D t cs _ _ x => x.under h
theorem sbw_check (B b : Nat) (bs : List Value) (w : World) (h : Lib.IsBuilder 54 5 B b bs w) :
    Calls Tryd.prog 47 #[.pointer (some ⟨b, 0, none⟩)] w fun e w' => e = .returned (.tuple #[]) ∧ (Lib.BuilderAt 54 5 B b (.pointer (some ⟨b, 0, none⟩)) bs w' ∧ Below B w w' ∧ Keeps b w w' ∧ w'.heap.size = w.heap.size ∧ ∀ k, k ≠ b → w'.heap[k]? = w.heap[k]?) := by
  rcases h with h | h
  · refine (sb_check_fresh b w h.cell0 h.shape h.frozen0).mono ?_
    rintro e w' ⟨rfl, rfl⟩
    exact ⟨rfl, h.used _, (Below.refl B w).setCell (p := ⟨b, 0, none⟩) h.1 _, fun D t cs hD _ x => x.far hD _, by simp [World.setCell], fun k hk => Below.heap_setCell _ _ _ _ hk⟩
  · refine (sb_check_used b w h.cell0).mono ?_
    rintro e w' ⟨rfl, rfl⟩
    exact ⟨rfl, h, Below.refl B w', fun D t cs _ _ x => x, rfl, fun k _ => rfl⟩

theorem own_base {w : World} {B : Nat} {e : TypeId} {sz : Nat} {v : Value} {n : Nat} {xs : List Value} (h : w.ownsRow B e sz v n xs) {k : Nat} (hk : v.ownBlock = some k) : B ≤ k := by
  rcases h.2 with ⟨rfl, _⟩ | ⟨g, cap, cur, rfl, hg, _⟩
  · cases hk
  · cases hk; exact hg
theorem row_below {w w' : World} {B : Nat} {e : TypeId} {sz : Nat} {v : Value} {n : Nat} {xs : List Value} (h : w.ownsRow B e sz v n xs) (hb : Below w.heap.size w w') : w'.ownsRow B e sz v n xs := by
  obtain ⟨h1, h2⟩ := h
  refine ⟨h1, ?_⟩
  rcases h2 with h2 | ⟨g, cap, cur, hv, hg, hh, h3⟩
  · exact .inl h2
  · exact .inr ⟨g, cap, cur, hv, hg, (hb.block g (Array.getElem?_eq_some_iff.1 hh).1).trans hh, h3⟩
theorem builder_below {T e : TypeId} {B b : Nat} {bs : List Value} {w w' : World} (h : Lib.IsBuilder T e B b bs w) (hb : Below w.heap.size w w') : Lib.IsBuilder T e B b bs w' := by
  have k : ∀ p, Lib.BuilderAt T e B b p bs w → Lib.BuilderAt T e B b p bs w' := by
    rintro p ⟨hB, v, hh, ho, hn⟩
    exact ⟨hB, v, (hb.block b (Array.getElem?_eq_some_iff.1 hh).1).trans hh, row_below ho hb, hn⟩
  exact h.imp (k _) (k _)
theorem builder_lt {T e : TypeId} {B b : Nat} {bs : List Value} {w : World} (h : Lib.IsBuilder T e B b bs w) : b < w.heap.size := h.elim (fun h => h.lt) (fun h => h.lt)
set_option maxHeartbeats 2000000 in
set_option maxRecDepth 100000 in
theorem sb_Write (B b : Nat) (bs : List Value) (ys : List UInt8) (D0 o c : Nat) (w : World) (h : Lib.IsBuilder 54 5 B b bs w) (hne : D0 ≠ b) (hs : Sl w 1 (some ⟨D0, o, none⟩) ys.length c (ys.map B8)) (hlen : bs.length + ys.length ≤ 140737488355328) (hBw : B ≤ w.heap.size) :
    Calls Tryd.prog 25 #[.pointer (some ⟨b, 0, none⟩), .slice (some ⟨D0, o, none⟩) ys.length c] w fun e w' => e = .returned (.tuple #[.int .i64 ys.length, .nilIface]) ∧ Lib.BuilderAt 54 5 B b (.pointer (some ⟨b, 0, none⟩)) (bs ++ ys.map B8) w' ∧ Below B w w' ∧ Keeps b w w' := by
  obtain ⟨i0, hi, hz0, hz1, hz2⟩ := info_parts info_u8
  go_enter Tryd.func25, Tryd.ntmps25
  go_wp2_with (go_at_call 47; refine (sbw_check B b bs _ h).mono ?_)
  rintro e w1 ⟨rfl, h1, hb1, hk1, hsz1, hq1⟩
  obtain ⟨hB, v, hbk, hown, hne1⟩ := h1
  have c0 : w1.cell? ⟨b, 0, none⟩ = some (.pointer (some ⟨b, 0, none⟩)) := by rw [Lib.cell_of_heap hbk]; rfl
  have c1 : w1.cell? ⟨b, 1, none⟩ = some v := by rw [Lib.cell_of_heap hbk]; rfl
  have hcell : ∀ j u, (ys.map B8)[j]? = some u → w1.cell? ((⟨D0, o, none⟩ : Addr).add j) = some u := fun j u hj => by
    have hh := hs.cell _ rfl j u hj
    rw [Addr.add_lit] at hh ⊢
    rw [← hh]
    exact World.cell?_of_block (hq1 D0 hne)
  have HC := hide hcell
  have HLEN := hide hlen
  clear hcell hlen
  go_wp2_with (at_builtin; refine wpList_append_own _ rfl _ _ 52 rfl B 5 i0 (.int .u8 0) 1 1 Tryd.underlying52 hi hz0 hz1 hz2 rfl (by decide) _ _ _ rfl hown ⟨D0, o, none⟩ ys.length c (ys.map B8) rfl (by rw [List.length_map, Nat.mul_one]) HC.out (one_map _ (fun _ => rfl) _) (by have := HLEN.out; unfold maxLen; omega) (by have := HLEN.out; omega) (by omega) ?_)
  intro v' w2 hown' hgrow _
  have hlt : b < w1.heap.size := by
    rcases Nat.lt_or_ge b w1.heap.size with h' | h'
    · exact h'
    · simp [Array.getElem?_eq_none h'] at hbk
  have hb2 : w2.heap[b]? = some (.cells #[.pointer (some ⟨b, 0, none⟩), v] 54 (0, 0)) := by
    rw [hgrow.block b hlt (fun e => hne1 e.symm)]
    exact hbk
  have d0 : w2.cell? ⟨b, 0, none⟩ = some (.pointer (some ⟨b, 0, none⟩)) := by rw [Lib.cell_of_heap hb2]; rfl
  have d1 : w2.cell? ⟨b, 1, none⟩ = some v := by rw [Lib.cell_of_heap hb2]; rfl
  have f1 : w2.frozen? ⟨b, 1, none⟩ = false := Lib.frozen_of_heap hb2 1
  have hgrow : w1.grownBy w2 v.ownBlock := hgrow
  have hown' : w2.ownsRow B 5 1 v' (bs ++ ys.map B8).length (bs ++ ys.map B8) := by rw [List.length_append, List.length_map]; exact hown'
  obtain ⟨a', n', c', rfl⟩ : ∃ a' n' c', v' = .slice a' n' c' := by
    rcases hown'.2 with ⟨hv, _⟩ | ⟨g, cap, cur, hv, _⟩
    · exact ⟨_, _, _, hv⟩
    · exact ⟨_, _, _, hv⟩
  have HO := hide hown'
  have HGR := hide hgrow
  clear hown' hgrow
  go_wp2
  go_ret2
  have hown' := HO.out
  have hgrow := HGR.out
  refine ⟨rfl, ?_, ?_, ?_⟩
  · exact Lib.BuilderAt.put (T := 54) (e := 5) hB hb2 (bs' := bs ++ ys.map B8) hown' (by decide)
  · exact (hb1.grown hgrow (by omega) (fun k hk => own_base hown hk)).setCell (p := ⟨b, 1, none⟩) hB _
  · refine hk1.trans fun D t cs hD ht x => ?_
    refine (x.grown hgrow ?_).far hD _
    intro e
    rcases hown.2 with ⟨rfl, _⟩ | ⟨g, cap, cur, rfl, _, hg, _⟩
    · cases e
    · cases e
      unfold Box at x
      rw [hg] at x
      injection x with x
      injection x with _ x2 _
      exact ht x2.symm
theorem sb_Write_n (B b : Nat) (bs : List Value) (ys : List UInt8) (n : Nat) (hn : ys.length = n) (D0 o c : Nat) (w : World) (h : Lib.IsBuilder 54 5 B b bs w) (hne : D0 ≠ b) (hs : Sl w 1 (some ⟨D0, o, none⟩) n c (ys.map B8)) (hlen : bs.length + n ≤ 140737488355328) (hBw : B ≤ w.heap.size) :
    Calls Tryd.prog 25 #[.pointer (some ⟨b, 0, none⟩), .slice (some ⟨D0, o, none⟩) n c] w fun e w' => e = .returned (.tuple #[.int .i64 n, .nilIface]) ∧ Lib.BuilderAt 54 5 B b (.pointer (some ⟨b, 0, none⟩)) (bs ++ ys.map B8) w' ∧ Below B w w' ∧ Keeps b w w' := by
  subst hn
  exact sb_Write B b bs ys D0 o c w h hne hs hlen hBw
end Go.Proofs.YtblgmjnkllkhbaaDoor
end
