/- The contracts of the functions that the law reaches, joined into one text. -/
import Derived.Test.YtdeknimelkdaeaaBaseP23D
set_option linter.unusedVariables false
set_option linter.unusedSimpArgs false

/- the text P19 -/
section
/- Chapter 35: the reference's Good. -/
set_option linter.unusedVariables false
namespace Go.Proofs.Ytdeknimelkdaeaa
open Go.RowKit Go.Dx Go.Al
/-- pages within bounds -/
def Sm (p : Pgl) : Prop := p.length ≤ 5864062014634 ∧ ∀ r ∈ p, r.length ≤ 140737488351232
theorem Sm.nil : Sm [] := ⟨by simp, fun r hr => by cases hr⟩
theorem Sm.cp {p : Pgl} (h : Sm p) : Cp p := ⟨fun r hr => by have := h.2 r hr; omega, by have := h.1; omega⟩
set_option maxHeartbeats 1000000 in
theorem ref35_SameSheet (s t : Sht) (s0 t0 s3 t3 : Option Addr) (s1 s2 s4 s5 t1 t2 t4 t5 : Nat) (w : World) (h0 : PgE w (s0, s1, s2) s.1) (h1 : PgE w (s3, s4, s5) s.2) (k0 : PgE w (t0, t1, t2) t.1) (k1 : PgE w (t3, t4, t5) t.2)
    (hs : Sm s.1 ∧ Sm s.2) (ht : Sm t.1 ∧ Sm t.2) :
    Calls Try.prog 25 #[.agg #[.slice s0 s1 s2, .slice s3 s4 s5], .agg #[.slice t0 t1 t2, .slice t3 t4 t5]] w fun e w' => e = .returned (.bool (samS s t)) ∧ Below w.heap.size w w' := by
  obtain ⟨r0, P0⟩ := h0
  obtain ⟨r1, P1⟩ := h1
  obtain ⟨q0, Q0⟩ := k0
  obtain ⟨q1, Q1⟩ := k1
  have hS0 := hide (fun (w1 : World) (hb : Below w.heap.size w w1) => ref4_Same s.1 t.1 r0 q0 s0 t0 s1 t1 s2 t2 w1 (P0.below hb) (Q0.below hb) hs.1.1 ht.1.1 hs.1.2 ht.1.2)
  have hS1 := hide (fun (w1 : World) (hb : Below w.heap.size w w1) => ref4_Same s.2 t.2 r1 q1 s3 t3 s4 t4 s5 t5 w1 (P1.below hb) (Q1.below hb) hs.2.1 ht.2.1 hs.2.2 ht.2.2)
  unfold samS
  clear P0 P1 Q0 Q1 hs ht
  obtain ⟨e1, he1⟩ : ∃ e1, decide (plainL s.1 = plainL t.1) = e1 := ⟨_, rfl⟩
  obtain ⟨e2, he2⟩ : ∃ e2, decide (plainL s.2 = plainL t.2) = e2 := ⟨_, rfl⟩
  rw [he1] at hS0 ⊢
  rw [he2] at hS1 ⊢
  clear he1 he2
  cases e1
  · go_enter Try.func25, Try.ntmps25
    go_wp2_with (first
      | (go_at_call_of 47 (Value.slice s0 s1 s2); refine (hS0.out _ (blo3 (sblo _ _) (Nat.le_refl _) _)).mono ?_; rintro e w2 ⟨rfl, rfl⟩))
    go_ret
    exact ⟨rfl, blo3 (sblo _ _) (Nat.le_refl _) _⟩
  · go_enter Try.func25, Try.ntmps25
    go_wp2_with (first
      | (go_at_call_of 47 (Value.slice s0 s1 s2); refine (hS0.out _ (blo3 (sblo _ _) (Nat.le_refl _) _)).mono ?_; rintro e w2 ⟨rfl, rfl⟩)
      | (go_at_call_of 47 (Value.slice s3 s4 s5); refine (hS1.out _ (blo3 (sblo _ _) (Nat.le_refl _) _)).mono ?_; rintro e w2 ⟨rfl, rfl⟩))
    go_ret
    exact ⟨rfl, blo3 (sblo _ _) (Nat.le_refl _) _⟩
def PtS (u v : Value) (vs : List Value) (w' : World) : Prop := ∃ b o, vs = [.pointer (some ⟨b, o, none⟩)] ∧ w'.cell? ⟨b, o, none⟩ = some u ∧ w'.cell? ⟨b, o + 1, none⟩ = some v
def fval : Option Nat → Int
  | none => -1
  | some j => (j : Int)
def FO (all : List Sht) (T : List Bool) (s : Sht) (N k0 : Nat) (fo : Option Nat) : Prop := (∀ j, k0 ≤ j → j < fo.getD N → cand all T s j = false) ∧ (∀ j, fo = some j → k0 ≤ j ∧ j < N ∧ cand all T s j = true)
theorem FO.start (all : List Sht) (T : List Bool) (s : Sht) (N : Nat) : FO all T s N N none := ⟨fun j h1 h2 => by simp at h2; omega, fun j h => by cases h⟩
theorem FO.no {all : List Sht} {T : List Bool} {s : Sht} {N k : Nat} {fo : Option Nat} (h : FO all T s N (k + 1) fo) (hc : cand all T s k = false) : FO all T s N k fo :=
  ⟨fun j h1 h2 => by
    by_cases hj : j = k
    · rw [hj]; exact hc
    · exact h.1 j (by omega) h2, fun j hj => ⟨by have := (h.2 j hj).1; omega, (h.2 j hj).2⟩⟩
theorem FO.yes {all : List Sht} {T : List Bool} {s : Sht} {N k : Nat} {fo : Option Nat} (h : FO all T s N (k + 1) fo) (hk : k < N) (hc : cand all T s k = true) : FO all T s N k (some k) :=
  ⟨fun j h1 h2 => by simp at h2; omega, fun j hj => by cases hj; exact ⟨Nat.le_refl _, hk, hc⟩⟩
set_option maxRecDepth 100000 in
set_option maxHeartbeats 8000000 in
theorem ref35_Good (want : List Pgl) (hsw : List Hd) (out : List Sht) (wso : List HS) (a0 a1 : Option Addr) (n0 c0 n1 c1 : Nat) (w : World) (hw : Pgs w a0 n0 c0 hsw want) (ho : Shp w a1 n1 c1 wso out)
    (hcw : ∀ p ∈ want, Sm p) (hco : ∀ s ∈ out, Sm s.1 ∧ Sm s.2) (hnw : want.length ≤ 1000000) (hno : out.length ≤ 1000000) :
    Calls Try.prog 12 #[.slice a0 n0 c0, .slice a1 n1 c1] w fun e w' => ∃ ag cg am cm, e = .returned (.tuple #[.slice ag (goodF want out).1.length cg, .slice am (goodF want out).2.length cm]) ∧
      Sl w' 1 ag (goodF want out).1.length cg ((goodF want out).1.map N64) ∧ Sl w' 1 am (goodF want out).2.length cm ((goodF want out).2.map N64) ∧ Below w.heap.size w w' := by
  obtain rfl := hw.n_eq
  obtain rfl := ho.n_eq
  obtain ⟨M, hM⟩ : ∃ M, Hid (out.length = M) := ⟨_, hide rfl⟩
  obtain ⟨K, hK⟩ : ∃ K, Hid (want.length = K) := ⟨_, hide rfl⟩
  obtain ⟨N, hN⟩ : ∃ N, Hid ((sheetsL want).length = N) := ⟨_, hide rfl⟩
  have hsc := ref35_Sheets want hsw a0 want.length c0 w hw hnw
  rw [hN.out] at hsc
  have hKN : K ≤ 2 * N := by have := sheetsL_len want; rw [hN.out, hK.out] at this; omega
  have hN6 : N ≤ 1000000 := by have := sheetsL_len want; rw [hN.out, hK.out] at this; have := hK.out; omega
  rw [hM.out] at hno ⊢
  rw [hK.out] at hsc hnw ⊢
  have hL6 : Hid (∀ s ∈ sheetsL want, Sm s.1 ∧ Sm s.2) := hide (fun s hs => by
    obtain ⟨h1, h2⟩ := sheetsL_mem want s hs
    refine ⟨hcw _ h1, ?_⟩
    rcases h2 with h2 | h2
    · exact hcw _ h2
    · rw [h2]; exact Sm.nil)
  obtain ⟨F, hF⟩ : ∃ F, Hid (goodF want out = F) := ⟨_, hide rfl⟩
  rw [hF.out]
  go_enter Try.func12, Try.ntmps12
  go_wp2_with (first
    | (go_at_call 9; refine hsc.mono ?_; rintro e w2 ⟨a6, c6, wsL, rfl, hO6, hE6, hb6⟩; refine hold ?_))
  refine hide ?_
  clear hsc
  have HS : Hid (Shp w2 a6 N c6 wsL (sheetsL want)) := hide ⟨hO6.sl, hE6.below hb6⟩
  clear hO6 hE6
  go_wp2_with (with_reducible refine make_row 18 _ _ _ 4 (.bool false) 1 Try.underlying67 info_bool rfl _ _ _ _ N rfl rfl rfl rfl (by omega) (by omega) ?_; intro w3 hr3 hb3 hz3; have hx3 := hide (row_boxP hr3); clear hr3 hz3)
  obtain ⟨bT, HT⟩ : ∃ b, Hid (w2.heap.size = b) := ⟨_, hide rfl⟩
  rw [HT.out] at hx3 hb3 ⊢
  have hbT : w.heap.size ≤ bT := by rw [← HT.out]; exact hb6.size
  have HO := hide (ho.below hb6)
  clear hw ho
  go_loopg [8, 9] M (fun g o i w' => ∃ (m : Nat) (ag : Option Addr) (cg : Nat) (G : List Nat) (T : List Bool), m ≤ M ∧ g = M - m ∧ i = .int .i64 (m : Int) ∧ o = .slice ag G.length cg ∧ Own w' bT 3 1 ag G.length cg (G.map N64) ∧ (G, T) = goodUp (sheetsL want) out m ∧ Box w' bT 4 (T.map .bool) ∧ Below bT w2 w')
  case atStart => exact ⟨0, none, 0, [], List.replicate N false, by omega, by omega, rfl, rfl, Own.nil _ _ _ _, by rw [← hN.out]; rfl, by have := hx3.out; simpa using this, hb3⟩
  case round =>
    obtain ⟨m, ag, cg, G, T, hm, hg, rfl, rfl, hG, hGT, hT, hb⟩ := hrel
    have HG := hide hg
    have HO2 := hide hG
    have HGT := hide hGT
    have HTB := hide hT
    clear hg hG hGT hT
    obtain ⟨q, hq⟩ : ∃ q, Hid (G.length = q) := ⟨_, hide rfl⟩
    have hqm : q ≤ m := by have := (goodUp_len (sheetsL want) out m).2; rw [← HGT.out, hq.out] at this; exact this
    have hTl : Hid (T.length = N) := hide (by have := (goodUp_len (sheetsL want) out m).1; rw [← HGT.out, hN.out] at this; exact this)
    rw [hq.out] at HO2 ⊢
    have hbw : Below w2.heap.size w2 wr := by rw [HT.out]; exact hb
    by_cases hml : m < M
    · obtain ⟨s, hs⟩ : ∃ s, out[m]? = some s := ⟨out[m]'(by rw [hM.out]; exact hml), by simp⟩
      obtain ⟨⟨⟨s0, s1, s2⟩, ⟨s3, s4, s5⟩⟩, hx, hE0, hE1⟩ := HO.out.at_ hs
      have hsl := hco s (List.mem_of_getElem? hs)
      have HX := hide hs
      have HY := hide hx
      have HE0 := hide hE0
      have HE1 := hide hE1
      clear hs hx hE0 hE1
      have hsh : shc ((s0, s1, s2), (s3, s4, s5)) = [.slice s0 s1 s2, .slice s3 s4 s5] := rfl
      have HO3 := HO2
      clear HO2
      go_wp2_with fail
      go_loopg [10, 11] N (fun g f i w' => ∃ (k0 : Nat) (fo : Option Nat), k0 ≤ N ∧ g = k0 ∧ i = .int .i64 ((k0 : Int) - 1) ∧ f = .int .i64 (fval fo) ∧ FO (sheetsL want) T s N k0 fo ∧ Own w' bT 3 1 ag q cg (G.map N64) ∧ Box w' bT 4 (T.map .bool) ∧ Below bT w2 w')
      case atStart => exact ⟨N, none, by omega, rfl, by first | rfl | go_num, rfl, FO.start _ _ _ _, HO3.out, HTB.out, hb⟩
      case round =>
        clear hb hbw HTB HO3
        obtain ⟨k0, fo, hk, hg, hv1, rfl, hl, hG, hT, hb⟩ := hrel
        have HG2 := hide hg
        have HL := hide hl
        have HGo := hide hG
        have HTB := hide hT
        clear hg hl hG hT
        have hbT4 : bT ≤ wr.heap.size := Nat.le_of_lt HTB.out.lt
        have hbw : Below w2.heap.size w2 wr := by rw [HT.out]; exact hb
        cases k0 with
        | succ k =>
          have e1 : (((k + 1 : Nat) : Int) - 1) = (k : Int) := by omega
          rw [e1] at hv1
          subst hv1
          clear e1
          have hkl : k < N := by omega
          obtain ⟨t, ht⟩ : ∃ t, (sheetsL want)[k]? = some t := ⟨(sheetsL want)[k]'(by rw [hN.out]; exact hkl), by simp⟩
          obtain ⟨⟨⟨t0, t1, t2⟩, ⟨t3, t4, t5⟩⟩, hx, hF0, hF1⟩ := HS.out.at_ ht
          have htl := hL6.out t (List.mem_of_getElem? ht)
          have HX2 := hide ht
          have HY2 := hide hx
          have hsh2 : shc ((t0, t1, t2), (t3, t4, t5)) = [.slice t0 t1 t2, .slice t3 t4 t5] := rfl
          have HSr := (HS.out.below hbw).top
          have HOr := (HO.out.below hbw).top
          rw [hM.out] at HOr
          obtain ⟨tk, htk⟩ : ∃ tk, T[k]? = some tk := ⟨T[k]'(by rw [hTl.out]; exact hkl), by simp⟩
          have hct : wr.cell? ⟨bT, k, none⟩ = some (.bool tk) := HTB.out.at_ (by rw [List.getElem?_map, htk]; rfl)
          have HTK := hide htk
          have hsm := hide (fun (w1 : World) (hb1 : Below wr.heap.size wr w1) => ref35_SameSheet s t s0 t0 s3 t3 s1 s2 s4 s5 t1 t2 t4 t5 w1 ((HE0.out.below hbw).below hb1) ((HE1.out.below hbw).below hb1) ((hF0.below hbw).below hb1) ((hF1.below hbw).below hb1) hsl htl)
          clear htk ht hx hF0 hF1 htl
          have hge : decide ((0 : Int) ≤ (k : Int)) = true := decide_eq_true (by omega)
          cases tk with
          | true =>
            go_wp2_with fail
            refine wp_region_free 15 [⟨0, 32, [32], fun vs _ => vs = [.slice (some ⟨bT, 0, none⟩) N N]⟩, ⟨1, 33, [33], fun vs _ => vs = [.int .i64 (k : Int)]⟩, ⟨2, 34, [34], fun vs _ => vs = [.pointer (some ⟨bT, k, none⟩)]⟩, ⟨3, 35, [35], fun vs _ => vs = [.bool true]⟩, ⟨4, 36, [36], fun vs _ => vs = [.bool false]⟩, ⟨5, 37, [37], fun vs _ => vs = [.bool false]⟩, ⟨6, 38, [38], fun vs _ => vs = [undef]⟩, ⟨7, 39, [39], fun vs _ => vs = [undef]⟩, ⟨8, 40, [40], fun vs _ => vs = [undef]⟩, ⟨9, 41, [41], fun vs _ => vs = [undef]⟩, ⟨10, 42, [42], fun vs _ => vs = [undef]⟩, ⟨11, 43, [43], fun vs _ => vs = [undef]⟩, ⟨12, 44, [44], fun vs _ => vs = [undef]⟩, ⟨13, 45, [45], fun vs _ => vs = [undef]⟩, ⟨14, 46, [46], fun vs _ => vs = [undef]⟩] (by kernel_rfl) (by kernel_rfl) ?_ ?_ ?_
            · simp only [All]
              refine ⟨fun _ _ _ _ h => h, fun _ _ _ _ h => h, fun _ _ _ _ h => h, fun _ _ _ _ h => h, fun _ _ _ _ h => h, fun _ _ _ _ h => h, fun _ _ _ _ h => h, fun _ _ _ _ h => h, fun _ _ _ _ h => h, fun _ _ _ _ h => h, fun _ _ _ _ h => h, fun _ _ _ _ h => h, fun _ _ _ _ h => h, fun _ _ _ _ h => h, fun _ _ _ _ h => h, trivial⟩
            · simp only [All]
              refine ⟨?_, ?_, ?_, ?_, ?_, ?_, ?_, ?_, ?_, ?_, ?_, ?_, ?_, ?_, ?_, trivial⟩
              · intro o ho a' w' hb hfr hdep
                obtain rfl := Option.some.inj ho
                have g7 : a'.tmps[7]?.getD undef = .slice (some ⟨bT, 0, none⟩) N N := by have h := hfr 7 (by kernel_rfl); simpa using h
                clear ho hfr hdep
                go_wp2_with fail
                exact ⟨rfl, _, rfl, Below.refl _ _, rfl⟩
              · intro o ho a' w' hb hfr hdep
                obtain rfl := Option.some.inj ho
                have g11 : a'.tmps[11]?.getD undef = .int .i64 (k : Int) := by have h := hfr 11 (by kernel_rfl); simpa using h
                clear ho hfr hdep
                go_wp2_with fail
                exact ⟨rfl, _, rfl, Below.refl _ _, rfl⟩
              · intro o ho a' w' hb hfr hdep
                obtain rfl := Option.some.inj ho
                have g32 : a'.tmps[32]?.getD undef = .slice (some ⟨bT, 0, none⟩) N N := by have h := hdep 0 _ rfl (by kernel_rfl); simpa using h
                have g33 : a'.tmps[33]?.getD undef = .int .i64 (k : Int) := by have h := hdep 1 _ rfl (by kernel_rfl); simpa using h
                clear ho hfr hdep
                refine index_known 34 _ _ _ 4 Try.underlying67 size_bool1 bT N N (by show a'.tmps.getD 32 undef = _; simpa using g32) _ _ k (by show a'.tmps.getD 33 undef = _; simpa using g33) rfl hkl ?_
                exact ⟨rfl, _, rfl, Below.refl _ _, rfl⟩
              · intro o ho a' w' hb hfr hdep
                obtain rfl := Option.some.inj ho
                have g34 : a'.tmps[34]?.getD undef = .pointer (some ⟨bT, k, none⟩) := by have h := hdep 2 _ rfl (by kernel_rfl); simpa using h
                clear ho hfr hdep
                have hcl := cell_blw hct hb
                go_wp2_with fail
                exact ⟨rfl, _, rfl, Below.refl _ _, rfl⟩
              · intro o ho a' w' hb hfr hdep
                obtain rfl := Option.some.inj ho
                have g35 : a'.tmps[35]?.getD undef = .bool true := by have h := hdep 3 _ rfl (by kernel_rfl); simpa using h
                clear ho hfr hdep
                go_wp2_with fail
                exact ⟨rfl, _, rfl, Below.refl _ _, rfl⟩
              · intro o ho a' w' hb hfr hdep
                obtain rfl := Option.some.inj ho
                have g36 : a'.tmps[36]?.getD undef = .bool false := by have h := hdep 4 _ rfl (by kernel_rfl); simpa using h
                clear ho hfr hdep
                go_wp2_with fail
                exact ⟨rfl, _, rfl, Below.refl _ _, rfl⟩
              · intro o ho a' w' hb hfr hdep
                obtain rfl := Option.some.inj ho
                have g37 : a'.tmps[37]?.getD undef = .bool false := by have h := hdep 5 _ rfl (by kernel_rfl); simpa using h
                have q37 := opt_bool g37
                clear ho hfr hdep
                go_wp2_with fail
                exact ⟨rfl, _, rfl, Below.refl _ _, rfl⟩
              · intro o ho a' w' hb hfr hdep
                obtain rfl := Option.some.inj ho
                have g37 : a'.tmps[37]?.getD undef = .bool false := by have h := hdep 5 _ rfl (by kernel_rfl); simpa using h
                have q37 := opt_bool g37
                clear ho hfr hdep
                go_wp2_with fail
                exact ⟨rfl, _, rfl, Below.refl _ _, rfl⟩
              · intro o ho a' w' hb hfr hdep
                obtain rfl := Option.some.inj ho
                have g37 : a'.tmps[37]?.getD undef = .bool false := by have h := hdep 5 _ rfl (by kernel_rfl); simpa using h
                have q37 := opt_bool g37
                clear ho hfr hdep
                go_wp2_with fail
                exact ⟨rfl, _, rfl, Below.refl _ _, rfl⟩
              · intro o ho a' w' hb hfr hdep
                obtain rfl := Option.some.inj ho
                have g37 : a'.tmps[37]?.getD undef = .bool false := by have h := hdep 5 _ rfl (by kernel_rfl); simpa using h
                have q37 := opt_bool g37
                clear ho hfr hdep
                go_wp2_with fail
                exact ⟨rfl, _, rfl, Below.refl _ _, rfl⟩
              · intro o ho a' w' hb hfr hdep
                obtain rfl := Option.some.inj ho
                have g37 : a'.tmps[37]?.getD undef = .bool false := by have h := hdep 5 _ rfl (by kernel_rfl); simpa using h
                have q37 := opt_bool g37
                clear ho hfr hdep
                go_wp2_with fail
                exact ⟨rfl, _, rfl, Below.refl _ _, rfl⟩
              · intro o ho a' w' hb hfr hdep
                obtain rfl := Option.some.inj ho
                have g37 : a'.tmps[37]?.getD undef = .bool false := by have h := hdep 5 _ rfl (by kernel_rfl); simpa using h
                have q37 := opt_bool g37
                clear ho hfr hdep
                go_wp2_with fail
                exact ⟨rfl, _, rfl, Below.refl _ _, rfl⟩
              · intro o ho a' w' hb hfr hdep
                obtain rfl := Option.some.inj ho
                have g37 : a'.tmps[37]?.getD undef = .bool false := by have h := hdep 5 _ rfl (by kernel_rfl); simpa using h
                have q37 := opt_bool g37
                clear ho hfr hdep
                go_wp2_with fail
                exact ⟨rfl, _, rfl, Below.refl _ _, rfl⟩
              · intro o ho a' w' hb hfr hdep
                obtain rfl := Option.some.inj ho
                have g37 : a'.tmps[37]?.getD undef = .bool false := by have h := hdep 5 _ rfl (by kernel_rfl); simpa using h
                have q37 := opt_bool g37
                clear ho hfr hdep
                go_wp2_with fail
                exact ⟨rfl, _, rfl, Below.refl _ _, rfl⟩
              · intro o ho a' w' hb hfr hdep
                obtain rfl := Option.some.inj ho
                have g37 : a'.tmps[37]?.getD undef = .bool false := by have h := hdep 5 _ rfl (by kernel_rfl); simpa using h
                have q37 := opt_bool g37
                clear ho hfr hdep
                go_wp2_with fail
                exact ⟨rfl, _, rfl, Below.refl _ _, rfl⟩
            · intro gg w5 hbl hp'
              have p37 := hp' 5 _ rfl
              have p46 := hp' 14 _ rfl
              clear hp'
              simp at p37 p46
              simp only [List.drop_succ_cons, List.drop_zero, List.map_cons, List.map_nil, putAll, Act.put, List.setIfInBounds_toArray, List.set_cons_succ, List.set_cons_zero, List.cons_append, List.nil_append, p37, p46]
              clear p37 p46
              have G5 := hide (HGo.out.below hbl)
              have T5 := hide (HTB.out.under hbl)
              have hb5 : Below bT w2 w5 := hb.trans (hbl.mono hbT4)
              have HC := hide (HL.out.no (cand_false (all := sheetsL want) (s := s) HTK.out))
              go_wp2_with fail
              go_roundg k
              case measure => have := HG2.out; omega
              case rel => exact ⟨k, fo, by omega, rfl, by go_num, rfl, HC.out, G5.out, T5.out, hb5⟩

          | false =>
            have hC1 : Hid (cand (sheetsL want) T s k = samS s t) := hide (cand_sam (all := sheetsL want) (s := s) HTK.out HX2.out)
            generalize samS s t = eq at hC1 hsm
            go_wp2_with fail
            refine wp_region_free 15 [⟨0, 32, [32], fun vs _ => vs = [.slice (some ⟨bT, 0, none⟩) N N]⟩, ⟨1, 33, [33], fun vs _ => vs = [.int .i64 (k : Int)]⟩, ⟨2, 34, [34], fun vs _ => vs = [.pointer (some ⟨bT, k, none⟩)]⟩, ⟨3, 35, [35], fun vs _ => vs = [.bool false]⟩, ⟨4, 36, [36], fun vs _ => vs = [.bool true]⟩, ⟨5, 37, [37], fun vs _ => vs = [.bool true]⟩, ⟨6, 38, [38], fun vs _ => vs = [.slice a1 M c1]⟩, ⟨7, 39, [39], fun vs _ => vs = [.int .i64 (m : Int)]⟩, ⟨8, 40, [40], PtS (.slice s0 s1 s2) (.slice s3 s4 s5)⟩, ⟨9, 41, [41], fun vs _ => vs = [.agg #[.slice s0 s1 s2, .slice s3 s4 s5]]⟩, ⟨10, 42, [42], fun vs _ => vs = [.slice a6 N c6]⟩, ⟨11, 43, [43], fun vs _ => vs = [.int .i64 (k : Int)]⟩, ⟨12, 44, [44], PtS (.slice t0 t1 t2) (.slice t3 t4 t5)⟩, ⟨13, 45, [45], fun vs _ => vs = [.agg #[.slice t0 t1 t2, .slice t3 t4 t5]]⟩, ⟨14, 46, [46], fun vs _ => vs = [.bool eq]⟩] (by kernel_rfl) (by kernel_rfl) ?_ ?_ ?_
            · simp only [All]
              refine ⟨fun _ _ _ _ h => h, fun _ _ _ _ h => h, fun _ _ _ _ h => h, fun _ _ _ _ h => h, fun _ _ _ _ h => h, fun _ _ _ _ h => h, fun _ _ _ _ h => h, fun _ _ _ _ h => h, ?_, fun _ _ _ _ h => h, fun _ _ _ _ h => h, fun _ _ _ _ h => h, ?_, fun _ _ _ _ h => h, fun _ _ _ _ h => h, trivial⟩
              · rintro vs w1 w2 hb ⟨b, o, h1, h2, h3⟩
                exact ⟨b, o, h1, cell_blw h2 hb, cell_blw h3 hb⟩
              · rintro vs w1 w2 hb ⟨b, o, h1, h2, h3⟩
                exact ⟨b, o, h1, cell_blw h2 hb, cell_blw h3 hb⟩
            · simp only [All]
              refine ⟨?_, ?_, ?_, ?_, ?_, ?_, ?_, ?_, ?_, ?_, ?_, ?_, ?_, ?_, ?_, trivial⟩
              · intro o ho a' w' hb hfr hdep
                obtain rfl := Option.some.inj ho
                have g7 : a'.tmps[7]?.getD undef = .slice (some ⟨bT, 0, none⟩) N N := by have h := hfr 7 (by kernel_rfl); simpa using h
                clear ho hfr hdep
                go_wp2_with fail
                exact ⟨rfl, _, rfl, Below.refl _ _, rfl⟩
              · intro o ho a' w' hb hfr hdep
                obtain rfl := Option.some.inj ho
                have g11 : a'.tmps[11]?.getD undef = .int .i64 (k : Int) := by have h := hfr 11 (by kernel_rfl); simpa using h
                clear ho hfr hdep
                go_wp2_with fail
                exact ⟨rfl, _, rfl, Below.refl _ _, rfl⟩
              · intro o ho a' w' hb hfr hdep
                obtain rfl := Option.some.inj ho
                have g32 : a'.tmps[32]?.getD undef = .slice (some ⟨bT, 0, none⟩) N N := by have h := hdep 0 _ rfl (by kernel_rfl); simpa using h
                have g33 : a'.tmps[33]?.getD undef = .int .i64 (k : Int) := by have h := hdep 1 _ rfl (by kernel_rfl); simpa using h
                clear ho hfr hdep
                refine index_known 34 _ _ _ 4 Try.underlying67 size_bool1 bT N N (by show a'.tmps.getD 32 undef = _; simpa using g32) _ _ k (by show a'.tmps.getD 33 undef = _; simpa using g33) rfl hkl ?_
                exact ⟨rfl, _, rfl, Below.refl _ _, rfl⟩
              · intro o ho a' w' hb hfr hdep
                obtain rfl := Option.some.inj ho
                have g34 : a'.tmps[34]?.getD undef = .pointer (some ⟨bT, k, none⟩) := by have h := hdep 2 _ rfl (by kernel_rfl); simpa using h
                clear ho hfr hdep
                have hcl := cell_blw hct hb
                go_wp2_with fail
                exact ⟨rfl, _, rfl, Below.refl _ _, rfl⟩
              · intro o ho a' w' hb hfr hdep
                obtain rfl := Option.some.inj ho
                have g35 : a'.tmps[35]?.getD undef = .bool false := by have h := hdep 3 _ rfl (by kernel_rfl); simpa using h
                clear ho hfr hdep
                go_wp2_with fail
                exact ⟨rfl, _, rfl, Below.refl _ _, rfl⟩
              · intro o ho a' w' hb hfr hdep
                obtain rfl := Option.some.inj ho
                have g36 : a'.tmps[36]?.getD undef = .bool true := by have h := hdep 4 _ rfl (by kernel_rfl); simpa using h
                clear ho hfr hdep
                go_wp2_with fail
                exact ⟨rfl, _, rfl, Below.refl _ _, rfl⟩
              · intro o ho a' w' hb hfr hdep
                obtain rfl := Option.some.inj ho
                have g1 : a'.tmps[1]?.getD undef = .slice a1 M c1 := by have h := hfr 1 (by kernel_rfl); simpa using h
                have g37 : a'.tmps[37]?.getD undef = .bool true := by have h := hdep 5 _ rfl (by kernel_rfl); simpa using h
                have q37 := opt_bool g37
                clear ho hfr hdep
                refine unguard_any (by simp [Region.wanted, yielded, q37]) ?_
                go_wp2_with fail
                exact ⟨rfl, _, rfl, Below.refl _ _, rfl⟩
              · intro o ho a' w' hb hfr hdep
                obtain rfl := Option.some.inj ho
                have g9 : a'.tmps[9]?.getD undef = .int .i64 (m : Int) := by have h := hfr 9 (by kernel_rfl); simpa using h
                have g37 : a'.tmps[37]?.getD undef = .bool true := by have h := hdep 5 _ rfl (by kernel_rfl); simpa using h
                have q37 := opt_bool g37
                clear ho hfr hdep
                refine unguard_any (by simp [Region.wanted, yielded, q37]) ?_
                go_wp2_with fail
                exact ⟨rfl, _, rfl, Below.refl _ _, rfl⟩
              · intro o ho a' w' hb hfr hdep
                obtain rfl := Option.some.inj ho
                have g38 : a'.tmps[38]?.getD undef = .slice a1 M c1 := by have h := hdep 6 _ rfl (by kernel_rfl); simpa using h
                have g39 : a'.tmps[39]?.getD undef = .int .i64 (m : Int) := by have h := hdep 7 _ rfl (by kernel_rfl); simpa using h
                have g37 : a'.tmps[37]?.getD undef = .bool true := by have h := hdep 5 _ rfl (by kernel_rfl); simpa using h
                have q37 := opt_bool g37
                clear ho hfr hdep
                refine unguard_any (by simp [Region.wanted, yielded, q37]) ?_
                refine idx_sh 40 _ _ _ _ _ wso (by show a'.tmps.getD 38 undef = _; simpa using g38) (HOr.below hb) _ _ m (by show a'.tmps.getD 39 undef = _; simpa using g39) rfl _ HY.out _ _ hsh ?_
                intro b o hc0 hc1 hbo
                exact ⟨rfl, _, rfl, Below.refl _ _, b, o, rfl, hc0, hc1⟩
              · intro o ho a' w' hb hfr hdep
                obtain rfl := Option.some.inj ho
                obtain ⟨b40, o40, g40, c40, k40⟩ := hdep 8 _ rfl (by kernel_rfl)
                simp at g40
                have g37 : a'.tmps[37]?.getD undef = .bool true := by have h := hdep 5 _ rfl (by kernel_rfl); simpa using h
                have q37 := opt_bool g37
                clear ho hfr hdep
                refine unguard_any (by simp [Region.wanted, yielded, q37]) ?_
                refine load_sheet2 41 _ b40 o40 (o40 + 1) (by show a'.tmps.getD 40 undef = _; simpa using g40) _ _ c40 k40 rfl ?_
                exact ⟨rfl, _, rfl, Below.refl _ _, rfl⟩
              · intro o ho a' w' hb hfr hdep
                obtain rfl := Option.some.inj ho
                have g6 : a'.tmps[6]?.getD undef = .slice a6 N c6 := by have h := hfr 6 (by kernel_rfl); simpa using h
                have g37 : a'.tmps[37]?.getD undef = .bool true := by have h := hdep 5 _ rfl (by kernel_rfl); simpa using h
                have q37 := opt_bool g37
                clear ho hfr hdep
                refine unguard_any (by simp [Region.wanted, yielded, q37]) ?_
                go_wp2_with fail
                exact ⟨rfl, _, rfl, Below.refl _ _, rfl⟩
              · intro o ho a' w' hb hfr hdep
                obtain rfl := Option.some.inj ho
                have g11 : a'.tmps[11]?.getD undef = .int .i64 (k : Int) := by have h := hfr 11 (by kernel_rfl); simpa using h
                have g37 : a'.tmps[37]?.getD undef = .bool true := by have h := hdep 5 _ rfl (by kernel_rfl); simpa using h
                have q37 := opt_bool g37
                clear ho hfr hdep
                refine unguard_any (by simp [Region.wanted, yielded, q37]) ?_
                go_wp2_with fail
                exact ⟨rfl, _, rfl, Below.refl _ _, rfl⟩
              · intro o ho a' w' hb hfr hdep
                obtain rfl := Option.some.inj ho
                have g42 : a'.tmps[42]?.getD undef = .slice a6 N c6 := by have h := hdep 10 _ rfl (by kernel_rfl); simpa using h
                have g43 : a'.tmps[43]?.getD undef = .int .i64 (k : Int) := by have h := hdep 11 _ rfl (by kernel_rfl); simpa using h
                have g37 : a'.tmps[37]?.getD undef = .bool true := by have h := hdep 5 _ rfl (by kernel_rfl); simpa using h
                have q37 := opt_bool g37
                clear ho hfr hdep
                refine unguard_any (by simp [Region.wanted, yielded, q37]) ?_
                refine idx_sh 44 _ _ _ _ _ wsL (by show a'.tmps.getD 42 undef = _; simpa using g42) (HSr.below hb) _ _ k (by show a'.tmps.getD 43 undef = _; simpa using g43) rfl _ HY2.out _ _ hsh2 ?_
                intro b o hc0 hc1 hbo
                exact ⟨rfl, _, rfl, Below.refl _ _, b, o, rfl, hc0, hc1⟩
              · intro o ho a' w' hb hfr hdep
                obtain rfl := Option.some.inj ho
                obtain ⟨b44, o44, g44, c44, k44⟩ := hdep 12 _ rfl (by kernel_rfl)
                simp at g44
                have g37 : a'.tmps[37]?.getD undef = .bool true := by have h := hdep 5 _ rfl (by kernel_rfl); simpa using h
                have q37 := opt_bool g37
                clear ho hfr hdep
                refine unguard_any (by simp [Region.wanted, yielded, q37]) ?_
                refine load_sheet2 45 _ b44 o44 (o44 + 1) (by show a'.tmps.getD 44 undef = _; simpa using g44) _ _ c44 k44 rfl ?_
                exact ⟨rfl, _, rfl, Below.refl _ _, rfl⟩
              · intro o ho a' w' hb hfr hdep
                obtain rfl := Option.some.inj ho
                have g41 : a'.tmps[41]?.getD undef = .agg #[.slice s0 s1 s2, .slice s3 s4 s5] := by have h := hdep 9 _ rfl (by kernel_rfl); simpa using h
                have g45 : a'.tmps[45]?.getD undef = .agg #[.slice t0 t1 t2, .slice t3 t4 t5] := by have h := hdep 13 _ rfl (by kernel_rfl); simpa using h
                have g37 : a'.tmps[37]?.getD undef = .bool true := by have h := hdep 5 _ rfl (by kernel_rfl); simpa using h
                have q37 := opt_bool g37
                clear ho hfr hdep
                refine unguard_any (by simp [Region.wanted, yielded, q37]) ?_
                go_wp2_with (go_at_call 25; refine (hsm.out _ hb).mono ?_; rintro e w2 ⟨rfl, h2⟩)
                exact ⟨rfl, _, rfl, h2, rfl⟩
            · intro gg w5 hbl hp'
              have p37 := hp' 5 _ rfl
              have p46 := hp' 14 _ rfl
              clear hp'
              simp at p37 p46
              simp only [List.drop_succ_cons, List.drop_zero, List.map_cons, List.map_nil, putAll, Act.put, List.setIfInBounds_toArray, List.set_cons_succ, List.set_cons_zero, List.cons_append, List.nil_append, p37, p46]
              clear p37 p46
              have G5 := hide (HGo.out.below hbl)
              have T5 := hide (HTB.out.under hbl)
              have hb5 : Below bT w2 w5 := hb.trans (hbl.mono hbT4)
              cases eq
              · have HC := hide (HL.out.no hC1.out)
                go_wp2_with fail
                go_roundg k
                case measure => have := HG2.out; omega
                case rel => exact ⟨k, fo, by omega, rfl, by go_num, rfl, HC.out, G5.out, T5.out, hb5⟩
              · have HC := hide (HL.out.yes hkl hC1.out)
                go_wp2_with fail
                go_roundg k
                case measure => have := HG2.out; omega
                case rel => exact ⟨k, (some k), by omega, rfl, by go_num, rfl, HC.out, G5.out, T5.out, hb5⟩

        | zero =>
          have e1 : (((0 : Nat) : Int) - 1) = -1 := by omega
          rw [e1] at hv1
          subst hv1
          clear e1
          cases fo with
          | none =>
            have hGT9 : Hid ((G, T) = goodUp (sheetsL want) out (m + 1)) := hide (by rw [goodUp_no HX.out (by rw [← HGT.out, hN.out]; exact fun j hj => HL.out.1 j (Nat.zero_le _) hj), ← HGT.out])
            simp only [fval]
            go_wp2_with fail
            go_roundg (M - (m + 1))
            case measure => have := HG.out; omega
            case rel => exact ⟨m + 1, ag, cg, G, T, by omega, rfl, by go_num, by rw [hq.out], by rw [hq.out]; exact HGo.out, hGT9.out, HTB.out, hb⟩
          | some k =>
            obtain ⟨-, hkl, hck⟩ := HL.out.2 k rfl
            have HU := hide (goodUp_yes HX.out (k := k) (by rw [hN.out]; exact hkl) (by rw [← HGT.out]; exact hck) (by rw [← HGT.out]; exact fun j hj => HL.out.1 j (Nat.zero_le _) hj))
            clear hck
            simp only [fval]
            go_wp2_with (first
              | (with_reducible refine index_known 53 _ _ _ 4 Try.underlying67 size_bool1 bT N N rfl _ _ k rfl rfl hkl ?_)
              | (with_reducible refine hold_store ?_))
            refine hide ?_
            have UT := HTB.out
            have UG := HGo.out
            refine store_cell 4 _ _ 4 bT k (T.map .bool) (.bool true) size_bool1 UT rfl rfl rfl rfl (by rw [List.length_map, hTl.out]; exact hkl) ?_; intro w8 x8 g8 s8
            have hT8 : Hid (Box w8 bT 4 ((T.set k true).map .bool)) := hide (by rw [List.map_set]; exact x8)
            have hG8 := own_off UG UT (by decide) g8
            have hb8 : Below bT w2 w8 := hb.grown g8 (Nat.le_of_lt UT.lt) (fun b hb => by cases hb; exact Nat.le_refl _)
            clear x8 s8 g8 UT UG HL hbw
            have hB8 : bT ≤ w8.heap.size := Nat.le_of_lt hT8.out.lt
            go_wp2_with (at_builtin; refine app_i rfl _ _ rfl w2 bT _ _ _ _ rfl hG8 _ rfl (by omega) hB8 hb8 ?_; intro a9 c9 w9 ho9 hg9 hb9)
            have hT9 := hide (box_off hT8.out hG8 (by decide) hg9)
            have HO9 := hide ho9
            have hGT9 : Hid ((G ++ [m], T.set k true) = goodUp (sheetsL want) out (m + 1)) := hide (by rw [HU.out, ← HGT.out])
            clear ho9 hG8 hT8 hb8 HU HGT
            go_roundg (M - (m + 1))
            case measure => have := HG.out; omega
            case rel => exact ⟨m + 1, a9, c9, G ++ [m], T.set k true, by omega, rfl, by go_num, by rw [List.length_append, hq.out]; rfl, by rw [List.length_append, hq.out, List.map_append]; exact HO9.out, hGT9.out, hT9.out, hb9⟩
    · obtain rfl : m = M := by omega
      have hFF : Hid (F = (G, missUp T K)) := hide (by rw [← hF.out]; unfold goodF; rw [hM.out, hK.out, ← HGT.out])
      have HGs := hide HO2.out.sl
      clear HO2 HGT hF
      go_wp2_with fail
      rename World => wS
      go_loopg [12, 13] K (fun g o i w' => ∃ (k : Nat) (am : Option Addr) (cm : Nat), k ≤ K ∧ g = K - k ∧ i = .int .i64 (k : Int) ∧ o = .slice am (missUp T k).length cm ∧ Own w' wS.heap.size 3 1 am (missUp T k).length cm ((missUp T k).map N64) ∧ Below wS.heap.size wS w')
      case atStart => exact ⟨0, none, 0, by omega, by omega, rfl, rfl, Own.nil _ _ _ _, Below.refl _ _⟩
      case round =>
        obtain ⟨k, am, cm, hk, hg, rfl, rfl, hO, hbk⟩ := hrel
        have HG2 := hide hg
        have HOm := hide hO
        clear hg hO
        have hml := missUp_len T k
        obtain ⟨p, hp⟩ : ∃ p, Hid ((missUp T k).length = p) := ⟨_, hide rfl⟩
        rw [hp.out] at HOm hml ⊢
        by_cases hkl : k < K
        · obtain ⟨h, hh⟩ : ∃ h, Hid (k / 2 = h) := ⟨_, hide rfl⟩
          have hdiv1 : (k : Int) / 2 = (h : Int) := by have := hh.out; omega
          have hdiv2 : Int.tdiv (k : Int) 2 = (h : Int) := by rw [Int.tdiv_eq_ediv_of_nonneg (by omega)]; exact hdiv1
          have hhN : h < N := by have := hh.out; omega
          obtain ⟨tk, htk⟩ : ∃ tk, T[h]? = some tk := ⟨T[h]'(by rw [hTl.out]; exact hhN), by simp⟩
          have hms : Hid (missUp T (k + 1) = missUp T k ++ if tk = true then [] else [k]) := hide (by rw [missUp_succ, hh.out, List.getD_eq_getElem?_getD, htk]; rfl)
          have hct : wr.cell? ⟨bT, h, none⟩ = some (.bool tk) := (HTB.out.under hbk).at_ (by rw [List.getElem?_map, htk]; rfl)
          clear htk
          cases tk with
          | true =>
            go_wp2_with (with_reducible refine index_known 67 _ _ _ 4 Try.underlying67 size_bool1 bT N N rfl _ _ h rfl rfl hhN ?_)
            have hms2 : Hid (missUp T (k + 1) = missUp T k) := hide (by rw [hms.out]; simp)
            go_roundg (K - (k + 1))
            case measure => have := HG2.out; omega
            case rel => exact ⟨k + 1, am, cm, by omega, rfl, by go_num, by rw [hms2.out, hp.out], by rw [hms2.out, hp.out]; exact HOm.out, hbk⟩
          | false =>
            have hms2 : Hid (missUp T (k + 1) = missUp T k ++ [k]) := hide (by rw [hms.out]; simp)
            have hOm := HOm.out
            have hB2 := hbk.size
            go_wp2_with (first
              | (with_reducible refine index_known 67 _ _ _ 4 Try.underlying67 size_bool1 bT N N rfl _ _ h rfl rfl hhN ?_)
              | (at_builtin; refine app_i rfl _ _ rfl wS wS.heap.size _ _ _ _ rfl hOm _ rfl (by omega) hB2 hbk ?_; intro a9 c9 w9 ho9 hg9 hb9))
            have HO9 := hide ho9
            clear ho9 hOm
            go_roundg (K - (k + 1))
            case measure => have := HG2.out; omega
            case rel => exact ⟨k + 1, a9, c9, by omega, rfl, by go_num, by rw [hms2.out, List.length_append, hp.out]; rfl, by rw [hms2.out, List.length_append, hp.out, List.map_append]; exact HO9.out, hb9⟩
        · obtain rfl : k = K := by omega
          go_wp2
          go_ret2
          rw [hFF.out]
          refine ⟨ag, cg, am, cm, by rw [hq.out, hp.out]; rfl, by rw [hq.out]; exact HGs.out.below hbk, by rw [hp.out]; exact HOm.out.sl, ?_⟩
          exact (hb6.trans (hb.mono hbT)).trans (hbk.mono (Nat.le_trans hb6.size (by rw [HT.out]; exact hb.size |> fun h => by rw [HT.out] at h; exact h)))
end Go.Proofs.Ytdeknimelkdaeaa
end

/- the text C24 -/
section
namespace Go.Proofs.Ytdeknimelkdaeaa
open Go.RowKit Go.Dx

/-- What a call hands back that returns a small valid raster. -/
def GivesRas (w : World) (r : Ending) (w' : World) : Prop :=
  ∃ (W H : Nat) (bs : List Bool) (a : Option Addr) (c : Nat), W ≤ 14 ∧ H ≤ 13 ∧ bs.length = W * H ∧ r = .returned (RV W H a (W * H) c) ∧ Sl w' 1 a (W * H) c (bs.map Value.bool) ∧ Below w.heap.size w w'

end Go.Proofs.Ytdeknimelkdaeaa
end

/- the text C25 -/
section
namespace Go.Proofs.Ytdeknimelkdaeaa
open Go.RowKit Go.Dx

/-- What a call hands back that returns whatever raster. -/
def GivesAny (w : World) (r : Ending) (w' : World) : Prop :=
  ∃ (W H : Int) (bs : List Bool) (a : Option Addr) (n c : Nat), r = .returned (RV W H a n c) ∧ Sl w' 1 a n c (bs.map Value.bool) ∧ Below w.heap.size w w'
theorem bent_sl {w w7 : World} {a : Option Addr} {n c : Nat} {bs : List Value} (hs : Sl w 1 a n c bs) (hb : Below w.heap.size w w7) : Sl w7 1 a n c bs := hs.below hb

end Go.Proofs.Ytdeknimelkdaeaa
end

/- the text C26 -/
section
namespace Go.Proofs.Ytdeknimelkdaeaa
open Go.RowKit Go.Dx

/-- the rows lie in pairwise different blocks -/
def Apart (hs : List Hd) : Prop := ∀ (i j : Nat) (x y : Hd), hs[i]? = some x → hs[j]? = some y → i ≠ j → ∀ p q, x.1 = some p → y.1 = some q → p.block ≠ q.block
theorem Apart.nil : Apart [] := fun i j x y h => by cases h
/-- every row lies below block B -/
def Under (B : Nat) (hs : List Hd) : Prop := ∀ (i : Nat) (x : Hd), hs[i]? = some x → ∀ p, x.1 = some p → p.block < B
theorem Under.nil (B : Nat) : Under B [] := fun i x h => by cases h
theorem Under.mono {B B' : Nat} {hs : List Hd} (h : Under B hs) (hB : B ≤ B') : Under B' hs := fun i x hx p hp => Nat.lt_of_lt_of_le (h i x hx p hp) hB
theorem Apart.push {B : Nat} {hs : List Hd} {y : Hd} (h : Apart hs) (hu : Under B hs) (hy : ∀ q, y.1 = some q → B ≤ q.block) : Apart (hs ++ [y]) := by
  intro i j x z hx hz hij p q hp hq
  rw [List.getElem?_append] at hx hz
  by_cases hi : i < hs.length
  · rw [if_pos hi] at hx
    by_cases hj : j < hs.length
    · rw [if_pos hj] at hz
      exact h i j x z hx hz hij p q hp hq
    · rw [if_neg hj] at hz
      have e : j - hs.length = 0 := by have := (List.getElem?_eq_some_iff.1 hz).1; simp at this; omega
      rw [e] at hz
      simp at hz
      subst hz
      have := hu i x hx p hp
      have := hy q hq
      omega
  · rw [if_neg hi] at hx
    have e : i - hs.length = 0 := by have := (List.getElem?_eq_some_iff.1 hx).1; simp at this; omega
    rw [e] at hx
    simp at hx
    subst hx
    by_cases hj : j < hs.length
    · rw [if_pos hj] at hz
      have := hu j z hz q hq
      have := hy p hp
      omega
    · rw [if_neg hj] at hz
      have e2 : j - hs.length = 0 := by have := (List.getElem?_eq_some_iff.1 hz).1; simp at this; omega
      omega
theorem Under.push {B : Nat} {hs : List Hd} {y : Hd} (h : Under B hs) (hy : ∀ q, y.1 = some q → q.block < B) : Under B (hs ++ [y]) := by
  intro i x hx p hp
  rw [List.getElem?_append] at hx
  by_cases hi : i < hs.length
  · rw [if_pos hi] at hx
    exact h i x hx p hp
  · rw [if_neg hi] at hx
    have e : i - hs.length = 0 := by have := (List.getElem?_eq_some_iff.1 hx).1; simp at this; omega
    rw [e] at hx
    simp at hx
    subst hx
    exact hy p hp

/-- What a call hands back that returns a small page. -/
def GivesPage (w : World) (r : Ending) (w' : World) : Prop :=
  ∃ (p : List (List UInt8)) (a : Option Addr) (c : Nat) (hs : List Hd), p.length ≤ 5 ∧ (∀ l ∈ p, l.length ≤ 10) ∧ r = .returned (.slice a p.length c) ∧ OPage w' w.heap.size a c hs p ∧ Below w.heap.size w w'
end Go.Proofs.Ytdeknimelkdaeaa
end

/- the text C27 -/
section
namespace Go.Proofs.Ytdeknimelkdaeaa
open Go.RowKit Go.Dx

theorem u8_small {m : Nat} (h : m < 256) : B8 (UInt8.ofNat m) = .int .u8 (m : Int) := by
  show Value.int .u8 ((UInt8.ofNat m).toNat : Int) = _
  rw [UInt8.toNat_ofNat', Nat.mod_eq_of_lt h]
theorem OPage.under {w : World} {B : Nat} {a : Option Addr} {c : Nat} {hs : List Hd} {p : List (List UInt8)} (h : OPage w B a c hs p) : Under w.heap.size hs := by
  intro i x hx q hq
  have hi : i < p.length := by rw [← h.len]; exact (List.getElem?_eq_some_iff.1 hx).1
  have ho := h.row i x p[i] hx (by simp [hi])
  rw [hq] at ho
  exact ho.base.2
end Go.Proofs.Ytdeknimelkdaeaa
end

/- the text P20 -/
section
/- Chapter 35: the generator's pages. -/
set_option linter.unusedVariables false
namespace Go.Proofs.Ytdeknimelkdaeaa
open Go.RowKit Go.Dx Go.Al
/-- pages that a call has made -/
structure Tbs (w : World) (hs : List Hd) (L : List Pgl) : Prop where
  len : hs.length = L.length
  get : ∀ (i : Nat) (h : Hd) (p : Pgl), hs[i]? = some h → L[i]? = some p → Tab w h p
theorem Tbs.nil (w : World) : Tbs w [] [] := ⟨rfl, fun i h p h1 => by cases h1⟩
theorem Tbs.below {w w' : World} {hs : List Hd} {L : List Pgl} (h : Tbs w hs L) (hb : Below w.heap.size w w') : Tbs w' hs L := ⟨h.len, fun i x p h1 h2 => (h.get i x p h1 h2).below hb⟩
theorem Tbs.kept {w w' : World} {hs : List Hd} {L : List Pgl} {B sz n c : Nat} {a : Option Addr} {cs : List Value} {T : TypeId} (h : Tbs w hs L) (ho : Own w B T sz a n c cs) (hT : T ≠ 31) (hT2 : T ≠ 5) (hg : w.grownBy w' (a.map (·.block))) : Tbs w' hs L :=
  ⟨h.len, fun i x p h1 h2 => (h.get i x p h1 h2).kept ho hT hT2 hg⟩
theorem Tbs.push {w : World} {hs : List Hd} {L : List Pgl} {x : Hd} {p : Pgl} (h : Tbs w hs L) (t : Tab w x p) : Tbs w (hs ++ [x]) (L ++ [p]) := by
  refine ⟨by rw [List.length_append, List.length_append, h.len]; rfl, fun i y q h1 h2 => ?_⟩
  rw [List.getElem?_append] at h1 h2
  by_cases hi : i < hs.length
  · rw [if_pos hi] at h1
    rw [if_pos (by rw [← h.len]; exact hi)] at h2
    exact h.get i y q h1 h2
  · rw [if_neg hi] at h1
    rw [if_neg (by rw [← h.len]; exact hi), ← h.len] at h2
    have e : i - hs.length = 0 := by have := (List.getElem?_eq_some_iff.1 h1).1; simp at this; omega
    rw [e] at h1 h2
    cases h1
    cases h2
    exact t
theorem OPage.tab {w : World} {B : Nat} {a : Option Addr} {c : Nat} {hs : List Hd} {p : Pgl} (h : OPage w B a c hs p) : Tab w (a, p.length, c) p :=
  ⟨hs, h.top.mono (Nat.zero_le _), h.len, fun i x r h1 h2 => ⟨(h.row i x r h1 h2).sl, Kind.own (h.row i x r h1 h2)⟩⟩
/-- a page of the generator -/
def PF (p : Pgl) : Prop := p.length ≤ 25 ∧ ∀ r ∈ p, r.length ≤ 40 ∧ ∀ c ∈ r, c.toNat < 64
theorem PF.nil : PF [] := ⟨by simp, fun r hr => by cases hr⟩
theorem PF.sm {p : Pgl} (h : PF p) : Sm p := ⟨by have := h.1; omega, fun r hr => by have := (h.2 r hr).1; omega⟩
theorem PF.fits {p : Pgl} (h : PF p) : fits p = true := by
  unfold Go.Proofs.Ytdeknimelkdaeaa.fits fitsB
  simp only [Bool.and_eq_true, decide_eq_true_eq, Bool.not_eq_true']
  refine ⟨h.1, List.any_eq_false.2 fun r hr => ?_⟩
  obtain ⟨h1, h2⟩ := h.2 r hr
  unfold longRow validB
  have h3 : r.any noCell = false := List.any_eq_false.2 fun c hc => by
    have := h2 c hc
    unfold noCell
    simp
    omega
  rw [h3]
  simp
  omega
theorem info_pg : (Try.prog.info? 28).map (fun i => (i.zero, i.size, i.bytes)) = some (some (.slice none 0 0), 1, 24) := by kernel_rfl
/-- pages made by the generator -/
def GivesPages (w : World) (most : Nat) (e : Ending) (w' : World) : Prop := ∃ a' c' hs L, e = .returned (.slice a' L.length c') ∧ Own w' w.heap.size 28 1 a' L.length c' (hs.map hv) ∧ Tbs w' hs L ∧ L.length ≤ most ∧ (∀ p ∈ L, PF p) ∧ Below w.heap.size w w'
theorem own_lit {w : World} {m : Nat} : Own (w.alloc (.cells #[.int .u8 (m : Int)] 5)) w.heap.size 5 1 (some ⟨w.heap.size, 0, none⟩) 1 1 [.int .u8 (m : Int)] :=
  own_of_box (Box.new w 5 #[.int .u8 (m : Int)]) rfl (by show 1 ≤ maxLen; decide) (Nat.le_refl _)
end Go.Proofs.Ytdeknimelkdaeaa
end

/- the text P21 -/
section
/- Chapter 35: the generator's pages, the walk. -/
set_option linter.unusedVariables false
namespace Go.Proofs.Ytdeknimelkdaeaa
open Go.RowKit Go.Dx Go.Al
theorem PF.push {p : Pgl} {r : List UInt8} (h : ∀ x ∈ p, x.length ≤ 40 ∧ ∀ c ∈ x, c.toNat < 64) (hr : r.length ≤ 40 ∧ ∀ c ∈ r, c.toNat < 64) : ∀ x ∈ p ++ [r], x.length ≤ 40 ∧ ∀ c ∈ x, c.toNat < 64 := fun x hx => by
  rcases List.mem_append.1 hx with h1 | h1
  · exact h x h1
  · simp at h1; rw [h1]; exact hr
theorem u8_64 {m : Nat} (h : m < 64) : (UInt8.ofNat m).toNat < 64 := by rw [UInt8.toNat_ofNat']; omega
set_option maxRecDepth 100000 in
set_option maxHeartbeats 4000000 in
theorem ref35_Pages (l : List Int) (most : Nat) (a : Option Addr) (n c : Nat) (w : World) (hs : Sl w 1 a n c (l.map I64)) (hl : ∀ x ∈ l, -9223372036854775808 ≤ x ∧ x ≤ 9223372036854775807) (hmost : most ≤ 100) :
    Calls Try.prog 8 #[.slice a n c, .int .i64 (most : Int)] w (GivesPages w most) := by
  obtain ⟨M, HM⟩ : ∃ M, Hid (most + 1 = M) := ⟨_, hide rfl⟩
  have hMi : (most : Int) + 1 = (M : Int) := by have := HM.out; omega
  have hM0 : 1 ≤ M ∧ M ≤ 101 := by have := HM.out; omega
  obtain ⟨K, HK⟩ : ∃ K, Hid (atF l 0 M = K) := ⟨_, hide rfl⟩
  have hK : K < M := by rw [← HK.out]; exact atF_lt (by omega)
  have HQ : Hid (∀ (i v : Int) (m r : Nat), atF l i m = r → (m : Int) = v → 1 ≤ m → m ≤ 1000000000 → ∀ w', Below w.heap.size w w' → Calls Try.prog 22 #[.slice a n c, .int .i64 i, .int .i64 v] w' fun e w2 => e = .returned (.int .i64 (r : Int)) ∧ w' = w2) :=
    fun i v m r h hv h1 h2 w' hb => At_at h hv h1 h2 hl (hs.below hb)
  clear hl
  go_enter Try.func8, Try.ntmps8
  go_wp2_with fail
  refine (HQ.out 0 _ M K HK.out rfl (by omega) (by omega) _ (Below.refl _ _)).mono ?_
  rintro e w1 ⟨rfl, rfl⟩
  go_wp2_with fail
  go_loopg [5, 7] K (fun g o i w' => ∃ (k : Nat) (ao : Option Addr) (co : Nat) (hs : List Hd) (L : List Pgl), k ≤ K ∧ g = K - k ∧ L.length = k ∧ (∀ p ∈ L, PF p) ∧ i = .int .i64 (k : Int) ∧ o = .slice ao k co ∧ Own w' w.heap.size 28 1 ao k co (hs.map hv) ∧ Tbs w' hs L ∧ Below w.heap.size w w')
  case atStart => exact ⟨0, none, 0, [], [], by omega, by omega, rfl, (fun p hp => by cases hp), rfl, rfl, Own.nil _ _ _ _, Tbs.nil _, Below.refl _ _⟩
  case round =>
    obtain ⟨k, ao, co, hs2, L, hk, hg, hLk, hLF, rfl, rfl, hO, hT, hbk⟩ := hrel
    have HG := hide hg
    have HLK := hide hLk
    have HLF := hide hLF
    have HO := hide hO
    have HT := hide hT
    clear hg hLk hLF hO hT
    by_cases hkl : k < K
    · obtain ⟨wy, rfl⟩ : ∃ wy : World, wy = wr := ⟨_, rfl⟩
      obtain ⟨d, Hd'⟩ : ∃ d, Hid (atF l (1 + 7 * (k : Int)) 5 = d) := ⟨_, hide rfl⟩
      have hd : d < 5 := by rw [← Hd'.out]; exact atF_lt (by omega)
      go_wp2_with fail
      go_loopg [8, 9] (d + 1) (fun g x i w' => ∃ (j : Nat) (a2 : Option Addr) (c2 : Nat) (hp : List Hd) (p : Pgl), j ≤ d ∧ g = d + 1 - j ∧ p.length = j ∧ (∀ x ∈ p, x.length ≤ 40 ∧ ∀ c ∈ x, c.toNat < 64) ∧ i = .int .i64 (j : Int) ∧ x = .slice a2 j c2 ∧ OPage w' wy.heap.size a2 c2 hp p ∧ Below wy.heap.size wy w')
      case atStart => exact ⟨0, none, 0, [], [], by omega, by omega, rfl, (fun x hx => by cases hx), rfl, rfl, OPage.nil _ _, Below.refl _ _⟩
      case round =>
        obtain ⟨j, a2, c2, hp, p, hj, hg1, hpj, hpF, rfl, rfl, hop, hbj⟩ := hrel
        have HG1 := hide hg1
        have HPJ := hide hpj
        have HPF := hide hpF
        clear hg1 hpj hpF
        have hbw : Below w.heap.size w wr := hbk.trans (hbj.mono hbk.size)
        go_wp2_with fail
        refine (HQ.out _ _ 5 d Hd'.out rfl (by omega) (by omega) _ hbw).mono ?_
        rintro e w1 ⟨rfl, rfl⟩
        by_cases hjd : j < d
        · obtain ⟨wz, rfl⟩ : ∃ wz : World, wz = wr := ⟨_, rfl⟩
          obtain ⟨u, Hu⟩ : ∃ u, Hid (atF l (2 + 7 * (k : Int) + (j : Int)) 6 = u) := ⟨_, hide rfl⟩
          have hu : u < 6 := by rw [← Hu.out]; exact atF_lt (by omega)
          go_wp2_with fail
          go_loopg [10, 11] (u + 1) (fun g x i w' => ∃ (q : Nat) (a3 : Option Addr) (c3 : Nat) (xs : List UInt8), q ≤ u ∧ g = u + 1 - q ∧ xs.length = q ∧ (∀ c ∈ xs, c.toNat < 64) ∧ i = .int .i64 (q : Int) ∧ x = .slice a3 q c3 ∧ Own w' wz.heap.size 5 1 a3 q c3 (xs.map B8) ∧ Below wz.heap.size wz w')
          case atStart => exact ⟨0, none, 0, [], by omega, by omega, rfl, (fun x hx => by cases hx), rfl, rfl, Own.nil _ _ _ _, Below.refl _ _⟩
          case round =>
            obtain ⟨q, a3, c3, xs, hq, hg2, hxq, hxF, rfl, rfl, hox, hbq⟩ := hrel
            have HG2 := hide hg2
            have HXQ := hide hxq
            have HXF := hide hxF
            clear hg2 hxq hxF
            have hbw2 : Below w.heap.size w wr := hbw.trans (hbq.mono hbw.size)
            go_wp2_with fail
            refine (HQ.out _ _ 6 u Hu.out rfl (by omega) (by omega) _ hbw2).mono ?_
            rintro e w1 ⟨rfl, rfl⟩
            by_cases hqu : q < u
            · obtain ⟨m, Hm⟩ : ∃ m, Hid (atF l (3 + 7 * (k : Int) + (j : Int) + 3 * (q : Int)) 64 = m) := ⟨_, hide rfl⟩
              have hm : m < 64 := by rw [← Hm.out]; exact atF_lt (by omega)
              go_wp2_with fail
              refine (HQ.out _ _ 64 m Hm.out rfl (by omega) (by omega) _ hbw2).mono ?_
              rintro e w1 ⟨rfl, rfl⟩
              go_wp2_with (at_builtin; refine app_b rfl _ _ rfl wz wz.heap.size _ _ _ _ rfl hox _ rfl (by omega) hbq.size hbq ?_; intro a' c' w' ho' hgr' hb')
              go_roundg (u + 1 - (q + 1))
              case measure => have := HG2.out; omega
              case rel =>
                refine ⟨q + 1, a', c', xs ++ [UInt8.ofNat m], by omega, rfl, by rw [List.length_append, HXQ.out]; rfl, ?_, by go_num, rfl, by rw [List.map_append]; show Own _ _ _ _ _ _ _ (xs.map B8 ++ [B8 (UInt8.ofNat m)]); rw [u8_small (by omega)]; exact ho', hb'⟩
                intro c hc
                rcases List.mem_append.1 hc with h1 | h1
                · exact HXF.out c h1
                · simp at h1; rw [h1]; exact u8_64 hm
            · obtain rfl : u = q := by omega
              go_wp2_with (at_builtin; refine app_p rfl _ _ rfl wy wy.heap.size _ _ _ hp p HPJ.out rfl (hop.below hbq) (a3, u, c3) xs (hox.mono hbj.size) rfl (by omega) (Nat.le_trans hbj.size hbq.size) (hbj.trans (hbq.mono hbj.size)) ?_; intro a' c' w' ho' hb')
              go_roundg (d + 1 - (j + 1))
              case measure => have := HG1.out; omega
              case rel => exact ⟨j + 1, a', c', hp ++ [(a3, u, c3)], p ++ [xs], by omega, rfl, by rw [List.length_append, HPJ.out]; rfl, PF.push HPF.out ⟨by rw [HXQ.out]; omega, HXF.out⟩, by go_num, rfl, ho', hb'⟩
        · obtain rfl : d = j := by omega
          obtain ⟨t, Ht⟩ : ∃ t, Hid (atF l (4 + 7 * (k : Int)) 9 = t) := ⟨_, hide rfl⟩
          by_cases ht0 : t = 0
          · subst ht0
            go_wp2_with fail
            refine (HQ.out _ _ 9 0 Ht.out rfl (by omega) (by omega) _ hbw).mono ?_
            rintro e w1 ⟨rfl, rfl⟩
            go_wp2_with fail
            go_loopg [8] (25 - d) (fun g x w' => ∃ (j : Nat) (a2 : Option Addr) (c2 : Nat) (hp : List Hd) (p : Pgl), j ≤ 25 ∧ g = 25 - j ∧ p.length = j ∧ (∀ x ∈ p, x.length ≤ 40 ∧ ∀ c ∈ x, c.toNat < 64) ∧ x = .slice a2 j c2 ∧ OPage w' wy.heap.size a2 c2 hp p ∧ Below wy.heap.size wy w')
            case atStart => exact ⟨d, a2, c2, hp, p, by omega, by omega, HPJ.out, HPF.out, rfl, hop, hbj⟩
            case round =>
              clear hop hbj hbw HPJ HPF
              obtain ⟨j, a2, c2, hp, p, hj, hg1, hpj, hpF, rfl, hop, hbj⟩ := hrel
              have HG1 := hide hg1
              have HPJ := hide hpj
              have HPF := hide hpF
              clear hg1 hpj hpF
              have hbw : Below w.heap.size w wr := hbk.trans (hbj.mono hbk.size)
              by_cases hj25 : j < 25
              · obtain ⟨m, Hm⟩ : ∃ m, Hid (atF l (5 + 7 * (k : Int)) 64 = m) := ⟨_, hide rfl⟩
                have hm : m < 64 := by rw [← Hm.out]; exact atF_lt (by omega)
                go_wp2_with fail
                refine (HQ.out _ _ 64 m Hm.out rfl (by omega) (by omega) _ hbw).mono ?_
                rintro e w1 ⟨rfl, rfl⟩
                have hbx := sblo wr (.cells #[.int .u8 (m : Int)] 5)
                have hsz : Hid ((wr.alloc (.cells #[.int .u8 (m : Int)] 5)).heap.size = wr.heap.size + 1) := hide (by simp)
                have hrow : Own (wr.alloc (.cells #[.int .u8 (m : Int)] 5)) wy.heap.size 5 1 (some ⟨wr.heap.size, 0, none⟩) 1 1 ([UInt8.ofNat m].map B8) := by
                  show Own _ _ _ _ _ _ _ [B8 (UInt8.ofNat m)]
                  rw [u8_small (by omega)]
                  exact own_lit.mono hbj.size
                go_wp2_with (at_builtin; refine app_p rfl _ _ rfl wy wy.heap.size _ _ _ hp p HPJ.out rfl (hop.below hbx) (some ⟨wr.heap.size, 0, none⟩, 1, 1) [UInt8.ofNat m] hrow (by first | (rw [hsz.out]; done) | (rw [hsz.out]; rfl)) (by omega) (Nat.le_trans hbj.size hbx.size) (hbj.trans (hbx.mono hbj.size)) ?_; intro a' c' w' ho' hb')
                go_roundg (25 - (j + 1))
                case measure => have := HG1.out; omega
                case rel => exact ⟨j + 1, a', c', hp ++ [(some ⟨wr.heap.size, 0, none⟩, 1, 1)], p ++ [[UInt8.ofNat m]], by omega, rfl, by rw [List.length_append, HPJ.out]; rfl, PF.push HPF.out ⟨by simp, fun c hc => by simp at hc; rw [hc]; exact u8_64 hm⟩, rfl, ho', hb'⟩
              · obtain rfl : j = 25 := by omega
                have htab := hop.tab
                rw [HPJ.out] at htab
                have HOr := HO.out.below hbj
                have hBr := hbw.size
                go_wp2_with (at_builtin; refine append_lit rfl _ _ 23 rfl 28 (.slice none 0 0) 1 24 Try.underlying23 info_pg rfl w w.heap.size ao k co _ rfl HOr 1 [hv (a2, 25, c2)] rfl rfl (by simp [hv, Value.oneCell']) (by omega) (by unfold maxLen; omega) hBr hbw ?_; intro a' c' w' ho' hgr' hb')
                have HT' := hide (((HT.out.below hbj).push htab).kept HOr (by decide) (by decide) hgr')
                have HO' := hide ho'
                clear ho' hgr' HOr
                go_roundg (K - (k + 1))
                case measure => have := HG.out; omega
                case rel => exact ⟨k + 1, a', c', hs2 ++ [(a2, 25, c2)], L ++ [p], by omega, rfl, by rw [List.length_append, HLK.out]; rfl, (fun x hx => by
                  rcases List.mem_append.1 hx with h1 | h1
                  · exact HLF.out x h1
                  · simp at h1; rw [h1]; exact ⟨by rw [HPJ.out]; omega, HPF.out⟩), by go_num, rfl, by rw [List.map_append]; exact HO'.out, HT'.out, hb'⟩
          · have htab := hop.tab
            rw [HPJ.out] at htab
            have HOr := HO.out.below hbj
            have hBr := hbw.size
            go_wp2_with fail
            refine (HQ.out _ _ 9 t Ht.out rfl (by omega) (by omega) _ hbw).mono ?_
            rintro e w1 ⟨rfl, rfl⟩
            go_wp2_with (at_builtin; refine append_lit rfl _ _ 23 rfl 28 (.slice none 0 0) 1 24 Try.underlying23 info_pg rfl w w.heap.size ao k co _ rfl HOr 1 [hv (a2, d, c2)] rfl rfl (by simp [hv, Value.oneCell']) (by omega) (by unfold maxLen; omega) hBr hbw ?_; intro a' c' w' ho' hgr' hb')
            have HT' := hide (((HT.out.below hbj).push htab).kept HOr (by decide) (by decide) hgr')
            have HO' := hide ho'
            clear ho' hgr' HOr
            go_roundg (K - (k + 1))
            case measure => have := HG.out; omega
            case rel => exact ⟨k + 1, a', c', hs2 ++ [(a2, d, c2)], L ++ [p], by omega, rfl, by rw [List.length_append, HLK.out]; rfl, (fun x hx => by
              rcases List.mem_append.1 hx with h1 | h1
              · exact HLF.out x h1
              · simp at h1; rw [h1]; exact ⟨by rw [HPJ.out]; omega, HPF.out⟩), by go_num, rfl, by rw [List.map_append]; exact HO'.out, HT'.out, hb'⟩
    · obtain rfl : k = K := by omega
      go_wp2
      go_ret
      exact ⟨ao, co, hs2, L, by rw [HLK.out]; rfl, by rw [HLK.out]; exact HO.out, HT.out, by rw [HLK.out]; have := HM.out; omega, HLF.out, hbk⟩
end Go.Proofs.Ytdeknimelkdaeaa
end

/- the text P22 -/
section
/- Chapter 35: touches. -/
set_option linter.unusedVariables false
namespace Go.Proofs.Ytdeknimelkdaeaa
open Go.RowKit Go.Dx Go.Al
def cAt (p : Pgl) (i : Nat) (k : Int) : UInt8 := if 0 ≤ k then (p.getD i []).getD k.toNat 0 else 0
def hitB (c x : UInt8) : Bool := bits BinOp.and IntKind.u8 (c.toNat : Int) ((backC x).toNat : Int) != 0
def touchRow (i : Nat) (l : List UInt8) (back : Pgl) (by_ m : Nat) : List (Nat × Nat) := ((List.range m).filter fun k => hitB (l.getD k 0) (cAt back i (39 - (k : Int) - (by_ : Int)))).map fun k => (i, k)
def touchUp (front back : Pgl) (by_ n : Nat) : List (Nat × Nat) := (List.range n).flatMap fun i => touchRow i (front.getD i []) back by_ (front.getD i []).length
def pc2 (x : Nat × Nat) : List Value := [N64 x.1, N64 x.2]
theorem pc2_len (x : Nat × Nat) : (pc2 x).length = 2 := rfl
theorem pc2_one (x : Nat × Nat) : ∀ u ∈ pc2 x, u.oneCell' = true := by simp [pc2, N64, Value.oneCell']
theorem touchRow_succ (i : Nat) (l : List UInt8) (back : Pgl) (by_ m : Nat) : touchRow i l back by_ (m + 1) = touchRow i l back by_ m ++ (if hitB (l.getD m 0) (cAt back i (39 - (m : Int) - (by_ : Int))) = true then [(i, m)] else []) := by
  unfold touchRow
  rw [List.range_succ, List.filter_append, List.map_append]
  congr 1
  cases h : hitB (l.getD m 0) (cAt back i (39 - (m : Int) - (by_ : Int))) <;> simp only [List.filter_cons, List.filter_nil, h] <;> rfl
theorem touchRow_len (i : Nat) (l : List UInt8) (back : Pgl) (by_ m : Nat) : (touchRow i l back by_ m).length ≤ m := by
  unfold touchRow
  rw [List.length_map]
  exact Nat.le_trans (List.length_filter_le _ _) (by simp)
theorem touchUp_succ (front back : Pgl) (by_ n : Nat) : touchUp front back by_ (n + 1) = touchUp front back by_ n ++ touchRow n (front.getD n []) back by_ (front.getD n []).length := by
  unfold touchUp
  rw [List.range_succ, List.flatMap_append]
  simp
theorem touchUp_len (front back : Pgl) (by_ : Nat) (hf : ∀ r ∈ front, r.length ≤ 40) : ∀ n, (touchUp front back by_ n).length ≤ n * 40
  | 0 => by simp [touchUp]
  | n + 1 => by
    rw [touchUp_succ, List.length_append]
    have := touchUp_len front back by_ hf n
    have h2 := touchRow_len n (front.getD n []) back by_ (front.getD n []).length
    have h3 : (front.getD n []).length ≤ 40 := by
      rw [List.getD_eq_getElem?_getD]
      cases h : front[n]? with
      | none => simp
      | some r => exact hf r (List.mem_of_getElem? h)
    omega
theorem hold_geq : True := trivial
set_option maxHeartbeats 1000000 in
theorem pr_at (p : Pgl) (hs : List Hd) (a : Option Addr) (n c : Nat) (line : Nat) (k : Int) (w : World) (hp : Pg w a n c hs p) (hn : line ≤ 1000000) :
    Calls Try.prog 63 #[.slice a n c, .int .i64 (line : Int), .int .i64 k] w fun e w' => e = .returned (.int .u8 ((cAt p line k).toNat : Int)) ∧ w = w' := by
  obtain rfl := hp.n_eq
  have hm1 := Nat.le_trans hp.top.le hp.top.cap
  unfold maxLen at hm1
  by_cases hl : line < p.length
  · obtain ⟨r, hr⟩ : ∃ r, p[line]? = some r := ⟨p[line], by simp [hl]⟩
    by_cases h0 : 0 ≤ k
    · obtain ⟨ar, cr, hu, hsr⟩ := hp.get hr
      have HU := hide hu
      have hE : Hid (cAt p line k = r.getD k.toNat 0) := hide (by unfold cAt; rw [if_pos h0, List.getD_eq_getElem?_getD (l := p), hr]; rfl)
      clear hu
      obtain ⟨m, rfl⟩ : ∃ m : Nat, k = (m : Int) := ⟨k.toNat, by omega⟩
      obtain ⟨N, hN⟩ : ∃ N, Hid (r.length = N) := ⟨_, hide rfl⟩
      have hxm := Nat.le_trans hsr.le hsr.cap
      unfold maxLen at hxm
      rw [hN.out] at HU hsr hxm
      clear h0
      by_cases hk : m < N
      · obtain ⟨u, hu⟩ : ∃ u, r[m]? = some u := ⟨r[m]'(by rw [hN.out]; exact hk), by simp⟩
        have hE2 : Hid (cAt p line (m : Int) = u) := hide (by rw [hE.out, Int.toNat_natCast, List.getD_eq_getElem?_getD, hu]; rfl)
        have HX := hide hu
        clear hr hu hE
        rw [hE2.out]
        go_enter Try.func63, Try.ntmps63
        go_wp2_with (first
          | (refine unguard_any (by simp [Region.wanted, yielded]; done) ?_; with_reducible refine idx_p 19 _ _ _ _ _ hs rfl hp.top _ _ line rfl rfl _ HU.out ?_; intro b o hcell hbo)
          | (with_reducible refine idx_p 26 _ _ _ _ _ hs rfl hp.top _ _ line rfl rfl _ HU.out ?_; intro b2 o2 hcell2 hbo2)
          | (with_reducible refine idx_b 29 _ _ _ _ _ r rfl hsr _ _ m rfl rfl u HX.out ?_; intro b3 o3 hcell3 hbo3))
        go_ret
        exact ⟨rfl, rfl⟩
      · have hE2 : Hid (cAt p line (m : Int) = 0) := hide (by rw [hE.out, Int.toNat_natCast, List.getD_eq_getElem?_getD, List.getElem?_eq_none (by rw [hN.out]; omega)]; rfl)
        clear hr hE
        rw [hE2.out]
        go_enter Try.func63, Try.ntmps63
        go_wp2_with (refine unguard_any (by simp [Region.wanted, yielded]; done) ?_; with_reducible refine idx_p 19 _ _ _ _ _ hs rfl hp.top _ _ line rfl rfl _ HU.out ?_; intro b o hcell hbo)
        go_ret
        exact ⟨rfl, rfl⟩
    · have hE2 : Hid (cAt p line k = 0) := hide (by unfold cAt; rw [if_neg h0])
      rw [hE2.out]
      clear hr
      go_enter Try.func63, Try.ntmps63
      go_wp2_with fail
      go_ret
      exact ⟨rfl, rfl⟩
  · have hE2 : Hid (cAt p line k = 0) := hide (by
      unfold cAt
      split
      · rw [List.getD_eq_getElem?_getD (l := p), List.getElem?_eq_none (by omega)]; rfl
      · rfl)
    rw [hE2.out]
    go_enter Try.func63, Try.ntmps63
    go_wp2_with fail
    go_ret
    exact ⟨rfl, rfl⟩
theorem info_pair : (Try.prog.info? 68).map (fun i => (i.zero, i.size, i.bytes)) = some (some (.agg #[.int .i64 0, .int .i64 0]), 2, 16) := by kernel_rfl
set_option maxRecDepth 100000 in
set_option maxHeartbeats 4000000 in
theorem pr_touches (front back : Pgl) (h1 h2 : List Hd) (a1 a2 : Option Addr) (n1 n2 c1 c2 : Nat) (by_ : Nat) (w : World) (hp : Pg w a1 n1 c1 h1 front) (hq : Pg w a2 n2 c2 h2 back) (hl : front.length ≤ 25) (hf : ∀ r ∈ front, r.length ≤ 40) (hby : by_ ≤ 40) :
    Calls Try.prog 48 #[.slice a1 n1 c1, .slice a2 n2 c2, .int .i64 (by_ : Int)] w fun e w' => ∃ a c, e = .returned (.slice a (touchUp front back by_ front.length).length c) ∧ Own w' w.heap.size 68 2 a (touchUp front back by_ front.length).length c ((touchUp front back by_ front.length).flatMap pc2) ∧ Below w.heap.size w w' := by
  obtain rfl := hp.n_eq
  obtain ⟨N, hN⟩ : ∃ N, Hid (front.length = N) := ⟨_, hide rfl⟩
  have HP := hide hp
  have HQ := hide hq
  rw [hN.out] at hl ⊢
  clear hp hq
  go_enter Try.func48, Try.ntmps48
  go_wp2_with fail
  go_loopg [7, 14] N (fun g o i w' => ∃ (k : Nat) (ao : Option Addr) (co : Nat), k ≤ N ∧ g = N - k ∧ i = .int .i64 (k : Int) ∧ o = .slice ao (touchUp front back by_ k).length co ∧ Own w' w.heap.size 68 2 ao (touchUp front back by_ k).length co ((touchUp front back by_ k).flatMap pc2) ∧ Below w.heap.size w w')
  case atStart => exact ⟨0, none, 0, by omega, by omega, rfl, rfl, Own.nil _ _ _ _, Below.refl _ _⟩
  case round =>
    obtain ⟨k, ao, co, hk, hg, rfl, rfl, hO, hb⟩ := hrel
    have HG := hide hg
    have HO := hide hO
    clear hg hO
    have hlen := touchUp_len front back by_ hf k
    by_cases hkl : k < N
    · obtain ⟨r, hr⟩ : ∃ r, front[k]? = some r := ⟨front[k]'(by rw [hN.out]; exact hkl), by simp⟩
      obtain ⟨ar, cr, hu, hsr⟩ := HP.out.get hr
      have hrl := hf r (List.mem_of_getElem? hr)
      have hsucc : Hid (touchUp front back by_ (k + 1) = touchUp front back by_ k ++ touchRow k r back by_ r.length) := hide (by rw [touchUp_succ, List.getD_eq_getElem?_getD, hr]; rfl)
      have HU := hide hu
      obtain ⟨R, hR⟩ : ∃ R, Hid (r.length = R) := ⟨_, hide rfl⟩
      rw [hR.out] at HU hsr hrl hsucc
      have HSR := hide hsr
      obtain ⟨T, hT⟩ : ∃ T, Hid (touchUp front back by_ k = T) := ⟨_, hide rfl⟩
      rw [hT.out] at HO hlen hsucc ⊢
      obtain ⟨q, hq⟩ : ∃ q, Hid (T.length = q) := ⟨_, hide rfl⟩
      rw [hq.out] at HO hlen ⊢
      clear hu hr hsr
      have HPr := HP.out.top.below hb
      rw [hN.out] at HPr
      have HQb := hide (HQ.out.below hb)
      go_wp2_with (with_reducible refine idx_p 17 _ _ _ _ _ h1 rfl HPr _ _ k rfl rfl _ HU.out ?_; intro b o hcell hbo)
      clear HPr hcell hbo
      go_loopg [7, 21] R (fun g o i w' => ∃ (m : Nat) (ao : Option Addr) (co : Nat), m ≤ R ∧ g = R - m ∧ i = .int .i64 (m : Int) ∧ o = .slice ao (q + (touchRow k r back by_ m).length) co ∧ Own w' w.heap.size 68 2 ao (q + (touchRow k r back by_ m).length) co ((T ++ touchRow k r back by_ m).flatMap pc2) ∧ Below w.heap.size w w')
      case atStart => exact ⟨0, ao, co, by omega, by omega, rfl, rfl, by have := HO.out; simpa [touchRow] using this, hb⟩
      case round =>
        clear hb HO HQb
        obtain ⟨m, ao, co, hm, hg, rfl, rfl, hO, hb⟩ := hrel
        have HG2 := hide hg
        have HO := hide hO
        clear hg hO
        have hrow := touchRow_len k r back by_ m
        by_cases hmR : m < R
        · obtain ⟨u, hu⟩ : ∃ u, r[m]? = some u := ⟨r[m]'(by rw [hR.out]; exact hmR), by simp⟩
          have hsc : Hid (touchRow k r back by_ (m + 1) = touchRow k r back by_ m ++ (if hitB u (cAt back k (39 - (m : Int) - (by_ : Int))) = true then [(k, m)] else [])) := hide (by rw [touchRow_succ, List.getD_eq_getElem?_getD, hu]; rfl)
          have HX := hide hu
          clear hu
          obtain ⟨v, hv⟩ : ∃ v, Hid (cAt back k (39 - (m : Int) - (by_ : Int)) = v) := ⟨_, hide rfl⟩
          rw [hv.out] at hsc
          have hat := pr_at back h2 a2 n2 c2 k (39 - (m : Int) - (by_ : Int)) wr (HQ.out.below hb) (by omega)
          rw [hv.out] at hat
          have hbk := cell_Back v wr
          have HSRr := HSR.out.below hb
          obtain ⟨p, hp⟩ : ∃ p, Hid ((touchRow k r back by_ m).length = p) := ⟨_, hide rfl⟩
          rw [hp.out] at HO hrow ⊢
          cases hh : hitB u v with
          | true =>
            have hh2 := hh
            unfold hitB at hh2
            have hsc2 : Hid (touchRow k r back by_ (m + 1) = touchRow k r back by_ m ++ [(k, m)]) := hide (by rw [hsc.out, hh]; rfl)
            clear hh hsc
            have hOr := HO.out
            have hBr := hb.size
            go_wp2_with (first
              | (with_reducible refine idx_b 24 _ _ _ _ _ r rfl HSRr _ _ m rfl rfl u HX.out ?_; intro b3 o3 hcell3 hbo3)
              | (go_at_call 63; refine hat.mono ?_; rintro e w4 ⟨rfl, rfl⟩)
              | (go_at_call 62; refine hbk.mono ?_; rintro e w5 ⟨rfl, rfl⟩)
              | (at_builtin; refine append_lit rfl _ _ 58 rfl 68 (.agg #[.int .i64 0, .int .i64 0]) 2 16 Try.underlying58 info_pair rfl w w.heap.size ao (q + p) co _ rfl hOr 1 [.int .i64 (k : Int), .int .i64 (m : Int)] rfl rfl (by simp [Value.oneCell']) (by omega) (by unfold maxLen; omega) hBr hb ?_; intro a9 c9 w9 ho9 hg9 hb9))
            have HO9 := hide ho9
            clear ho9 hg9 hOr hh2
            go_roundg (R - (m + 1))
            case measure => have := HG2.out; omega
            case rel =>
              have e1 : q + (touchRow k r back by_ (m + 1)).length = q + p + 1 := by rw [hsc2.out, List.length_append, hp.out]; rfl
              refine ⟨m + 1, a9, c9, by omega, rfl, by go_num, by rw [e1], ?_, hb9⟩
              rw [e1, hsc2.out, ← List.append_assoc, List.flatMap_append (ys := [(k, m)])]
              exact HO9.out
          | false =>
            have hh2 := hh
            unfold hitB at hh2
            have hsc2 : Hid (touchRow k r back by_ (m + 1) = touchRow k r back by_ m) := hide (by rw [hsc.out, hh]; simp)
            clear hh hsc
            go_wp2_with (first
              | (with_reducible refine idx_b 24 _ _ _ _ _ r rfl HSRr _ _ m rfl rfl u HX.out ?_; intro b3 o3 hcell3 hbo3)
              | (go_at_call 63; refine hat.mono ?_; rintro e w4 ⟨rfl, rfl⟩)
              | (go_at_call 62; refine hbk.mono ?_; rintro e w5 ⟨rfl, rfl⟩))
            clear hh2
            go_roundg (R - (m + 1))
            case measure => have := HG2.out; omega
            case rel => exact ⟨m + 1, ao, co, by omega, rfl, by go_num, by rw [hsc2.out, hp.out], by rw [hsc2.out, hp.out]; exact HO.out, hb⟩
        · obtain rfl : m = R := by omega
          go_wp2
          go_roundg (N - (k + 1))
          case measure => have := HG.out; omega
          case rel =>
            have e1 : (touchUp front back by_ (k + 1)).length = q + (touchRow k r back by_ m).length := by rw [hsucc.out, List.length_append, hq.out]
            exact ⟨k + 1, ao, co, by omega, rfl, by go_num, by rw [e1], by rw [e1, hsucc.out]; exact HO.out, hb⟩
    · obtain rfl : k = N := by omega
      go_wp2
      go_ret
      exact ⟨ao, co, rfl, HO.out, hb⟩
/-- the pairs that Touch returns -/
def touchF (front back : Pgl) : List (Nat × Nat) := if fits front && fits back then touchUp front back 0 front.length else []
theorem fits_rows {p : Pgl} (h : fits p = true) : p.length ≤ 25 ∧ ∀ r ∈ p, r.length ≤ 40 ∧ ∀ c ∈ r, c.toNat < 64 := by
  unfold fits fitsB at h
  simp only [Bool.and_eq_true, decide_eq_true_eq, Bool.not_eq_true'] at h
  refine ⟨h.1, fun r hr => ?_⟩
  have h2 := List.any_eq_false.1 h.2 r hr
  unfold longRow validB at h2
  simp only [Bool.or_eq_true, decide_eq_true_eq, Bool.not_not, not_or] at h2
  refine ⟨by omega, fun c hc => ?_⟩
  have h3 := h2.2
  rw [Bool.not_eq_true] at h3
  have := List.any_eq_false.1 h3 c hc
  unfold noCell at this
  simpa using this
set_option maxHeartbeats 1000000 in
theorem pr_Touch (front back : Pgl) (h1 h2 : List Hd) (a1 a2 : Option Addr) (n1 n2 c1 c2 : Nat) (w : World) (hp : Pg w a1 n1 c1 h1 front) (hq : Pg w a2 n2 c2 h2 back) :
    Calls Try.prog 28 #[.slice a1 n1 c1, .slice a2 n2 c2] w fun e w' => ∃ a c, e = .returned (.slice a (touchF front back).length c) ∧ Own w' w.heap.size 68 2 a (touchF front back).length c ((touchF front back).flatMap pc2) ∧ Below w.heap.size w w' := by
  have hc1 := cell_Fits front h1 a1 n1 c1 w hp
  have hc2 := cell_Fits back h2 a2 n2 c2 w hq
  unfold touchF
  cases e1 : fits front with
  | false =>
    rw [e1] at hc1
    clear e1
    go_enter Try.func28, Try.ntmps28
    go_wp2_with (go_at_call 34; refine hc1.mono ?_; rintro e w4 ⟨rfl, rfl⟩)
    go_ret
    exact ⟨none, 0, rfl, Own.nil _ _ _ _, Below.refl _ _⟩
  | true =>
    rw [e1] at hc1
    obtain ⟨f1, f2⟩ := fits_rows e1
    clear e1
    cases e2 : fits back with
    | false =>
      rw [e2] at hc2
      clear e2 f1 f2
      go_enter Try.func28, Try.ntmps28
      go_wp2_with (first
        | (go_at_call_of 34 (Value.slice a1 n1 c1); refine hc1.mono ?_; rintro e w4 ⟨rfl, rfl⟩)
        | (go_at_call_of 34 (Value.slice a2 n2 c2); refine hc2.mono ?_; rintro e w4 ⟨rfl, rfl⟩))
      go_ret
      exact ⟨none, 0, rfl, Own.nil _ _ _ _, Below.refl _ _⟩
    | true =>
      rw [e2] at hc2
      have ht := pr_touches front back h1 h2 a1 a2 n1 n2 c1 c2 0 w hp hq f1 (fun r hr => (f2 r hr).1) (by omega)
      clear e2 f1 f2
      have eT : (if (true && true) = true then touchUp front back 0 front.length else []) = touchUp front back 0 front.length := rfl
      rw [eT]
      generalize touchUp front back 0 front.length = T at ht ⊢
      clear eT
      go_enter Try.func28, Try.ntmps28
      go_wp2_with (first
        | (go_at_call_of 34 (Value.slice a1 n1 c1); refine hc1.mono ?_; rintro e w4 ⟨rfl, rfl⟩)
        | (go_at_call_of 34 (Value.slice a2 n2 c2); refine hc2.mono ?_; rintro e w4 ⟨rfl, rfl⟩)
        | (go_at_call 48; refine ht.mono ?_; rintro e w5 ⟨a, c, rfl, ho, hb⟩))
      go_ret
      exact ⟨a, c, rfl, ho, hb⟩
end Go.Proofs.Ytdeknimelkdaeaa
end

/- the text P23 -/
section
/- Chapter 35: the example. -/
set_option linter.unusedVariables false
namespace Go.Proofs.Ytdeknimelkdaeaa
open Go.RowKit Go.Dx Go.Al
def exL : List Pgl := [[[1, 2]], [[3]]]
def rnS (first : Nat) : Nat → Pr
  | 0 => (loadP (newP 3) exL).1
  | i + 1 => (stepP (rnS first i) (if i = first then 1 else 0)).1
theorem rn_load : (loadP (newP 3) exL).2 = 0 := by decide +kernel
theorem rn0_ok : ∀ i, i < 25 → (stepP (rnS 0 i) (if i = 0 then 1 else 0)).2 = 0 := by decide +kernel
theorem rn1_ok : ∀ i, i < 25 → (stepP (rnS 1 i) (if i = 1 then 1 else 0)).2 = 0 := by decide +kernel
theorem rn0_good : goodF exL (rnS 0 25).tray = ([], [0, 1]) := by decide +kernel
theorem rn1_good : goodF exL (rnS 1 25).tray = ([0], []) := by decide +kernel
theorem rn_touch : touchF [[1]] [List.replicate 39 0 ++ [8]] = [(0, 0)] := by decide +kernel
theorem inv_rn (f : Nat) : ∀ i, PInv (rnS f i)
  | 0 => inv_load (inv_new (by decide)) _
  | i + 1 => inv_step (inv_rn f i) _
theorem rn0_tray : (rnS 0 25).tray.length = 1 ∧ ∀ s ∈ (rnS 0 25).tray, s.1.length ≤ 5864062014634 ∧ s.2.length ≤ 5864062014634 := by decide +kernel
theorem rn1_tray : (rnS 1 25).tray.length = 1 ∧ ∀ s ∈ (rnS 1 25).tray, s.1.length ≤ 5864062014634 ∧ s.2.length ≤ 5864062014634 := by decide +kernel
theorem exL_ok : ∀ p ∈ exL, p.length ≤ 5864062014634 ∧ p.length * 24 ≤ 281474976710656 ∧ ∀ r ∈ p, r.length ≤ 140737488355328 := by decide +kernel
theorem rn_step (f i fl : Nat) (h : (if i = f then 1 else 0) = fl) : (stepP (rnS f i) fl).1 = rnS f (i + 1) := by rw [rnS, h]
theorem lit_pgs (w : World) : Pgs (((((w.alloc (Obj.cells #[.int .u8 1, .int .u8 2] 5)).alloc (Obj.cells #[.slice (some ⟨w.heap.size, 0, none⟩) 2 2] 31)).alloc (Obj.cells #[.int .u8 3] 5)).alloc (Obj.cells #[.slice (some ⟨w.heap.size + 1 + 1, 0, none⟩) 1 1] 31)).alloc (Obj.cells #[.slice (some ⟨w.heap.size + 1, 0, none⟩) 1 1, .slice (some ⟨w.heap.size + 1 + 1 + 1, 0, none⟩) 1 1] 28)) (some ⟨w.heap.size + 1 + 1 + 1 + 1, 0, none⟩) 2 2 [(some ⟨w.heap.size + 1, 0, none⟩, 1, 1), (some ⟨w.heap.size + 1 + 1 + 1, 0, none⟩, 1, 1)] exL ∧ Below w.heap.size w (((((w.alloc (Obj.cells #[.int .u8 1, .int .u8 2] 5)).alloc (Obj.cells #[.slice (some ⟨w.heap.size, 0, none⟩) 2 2] 31)).alloc (Obj.cells #[.int .u8 3] 5)).alloc (Obj.cells #[.slice (some ⟨w.heap.size + 1 + 1, 0, none⟩) 1 1] 31)).alloc (Obj.cells #[.slice (some ⟨w.heap.size + 1, 0, none⟩) 1 1, .slice (some ⟨w.heap.size + 1 + 1 + 1, 0, none⟩) 1 1] 28)) := by
  have b1 := sblo w (Obj.cells #[.int .u8 1, .int .u8 2] 5)
  have x1 := Box.new w 5 #[.int .u8 1, .int .u8 2]
  have z1 : (w.alloc (Obj.cells #[.int .u8 1, .int .u8 2] 5)).heap.size = w.heap.size + 1 := by simp
  generalize w.alloc (Obj.cells #[.int .u8 1, .int .u8 2] 5) = w1 at b1 x1 z1 ⊢
  have b2 := sblo w1 (Obj.cells #[.slice (some ⟨w.heap.size, 0, none⟩) 2 2] 31)
  have x2 := Box.new w1 31 #[.slice (some ⟨w.heap.size, 0, none⟩) 2 2]
  have z2 : (w1.alloc (Obj.cells #[.slice (some ⟨w.heap.size, 0, none⟩) 2 2] 31)).heap.size = w.heap.size + 1 + 1 := by simp [z1]
  generalize w1.alloc (Obj.cells #[.slice (some ⟨w.heap.size, 0, none⟩) 2 2] 31) = w2 at b2 x2 z2 ⊢
  have b3 := sblo w2 (Obj.cells #[.int .u8 3] 5)
  have x3 := Box.new w2 5 #[.int .u8 3]
  have z3 : (w2.alloc (Obj.cells #[.int .u8 3] 5)).heap.size = w.heap.size + 1 + 1 + 1 := by simp [z2]
  generalize w2.alloc (Obj.cells #[.int .u8 3] 5) = w3 at b3 x3 z3 ⊢
  have b4 := sblo w3 (Obj.cells #[.slice (some ⟨w.heap.size + 1 + 1, 0, none⟩) 1 1] 31)
  have x4 := Box.new w3 31 #[.slice (some ⟨w.heap.size + 1 + 1, 0, none⟩) 1 1]
  have z4 : (w3.alloc (Obj.cells #[.slice (some ⟨w.heap.size + 1 + 1, 0, none⟩) 1 1] 31)).heap.size = w.heap.size + 1 + 1 + 1 + 1 := by simp [z3]
  generalize w3.alloc (Obj.cells #[.slice (some ⟨w.heap.size + 1 + 1, 0, none⟩) 1 1] 31) = w4 at b4 x4 z4 ⊢
  have b5 := sblo w4 (Obj.cells #[.slice (some ⟨w.heap.size + 1, 0, none⟩) 1 1, .slice (some ⟨w.heap.size + 1 + 1 + 1, 0, none⟩) 1 1] 28)
  have x5 := Box.new w4 28 #[.slice (some ⟨w.heap.size + 1, 0, none⟩) 1 1, .slice (some ⟨w.heap.size + 1 + 1 + 1, 0, none⟩) 1 1]
  generalize w4.alloc (Obj.cells #[.slice (some ⟨w.heap.size + 1, 0, none⟩) 1 1, .slice (some ⟨w.heap.size + 1 + 1 + 1, 0, none⟩) 1 1] 28) = w5 at b5 x5 ⊢
  have y1 := (((x1.under b2).under b3).under b4).under b5
  have y2 := ((x2.under b3).under b4).under b5
  have y3 := (x3.under b4).under b5
  have y4 := x4.under b5
  rw [z1] at y2
  rw [z2] at y3
  rw [z3] at y4
  rw [z4] at x5
  refine ⟨⟨x5.sl_al rfl (by simp [maxLen]), rfl, fun i h p h1 h2 => ?_⟩, b1.trans ((b2.trans ((b3.trans ((b4.trans (b5.mono b4.size)).mono b3.size)).mono b2.size)).mono b1.size)⟩
  match i with
  | 0 =>
    cases h1; cases h2
    refine ⟨[(some ⟨w.heap.size, 0, none⟩, 2, 2)], y2.sl_al rfl (by simp [maxLen]), rfl, fun j x r k1 k2 => ?_⟩
    match j with
    | 0 => cases k1; cases k2; exact y1.sl_al rfl (by simp [maxLen])
    | j + 1 => simp at k1
  | 1 =>
    cases h1; cases h2
    refine ⟨[(some ⟨w.heap.size + 1 + 1, 0, none⟩, 1, 1)], y4.sl_al rfl (by simp [maxLen]), rfl, fun j x r k1 k2 => ?_⟩
    match j with
    | 0 => cases k1; cases k2; exact y3.sl_al rfl (by simp [maxLen])
    | j + 1 => simp at k1
  | i + 2 => simp at h1
theorem eq_pair00 (w : World) : (Op.equalIn 10000 68 (.agg #[.int .i64 0, .int .i64 0]) (.agg #[.int .i64 0, .int .i64 0])).run Try.prog w = .ok true w := by kernel_rfl
theorem lit_touch (w3 : World) (bR : Nat) (h : Box w3 bR 5 ((List.replicate 39 (0 : UInt8) ++ [8]).map B8)) : Pg ((((w3.alloc (Obj.cells #[.int .u8 1] 5)).alloc (Obj.cells #[.slice (some ⟨w3.heap.size, 0, none⟩) 1 1] 31)).alloc (Obj.cells #[.slice (some ⟨bR, 0, none⟩) 40 40] 31))) (some ⟨w3.heap.size + 1, 0, none⟩) 1 1 [(some ⟨w3.heap.size, 0, none⟩, 1, 1)] [[1]] ∧
    Pg ((((w3.alloc (Obj.cells #[.int .u8 1] 5)).alloc (Obj.cells #[.slice (some ⟨w3.heap.size, 0, none⟩) 1 1] 31)).alloc (Obj.cells #[.slice (some ⟨bR, 0, none⟩) 40 40] 31))) (some ⟨w3.heap.size + 1 + 1, 0, none⟩) 1 1 [(some ⟨bR, 0, none⟩, 40, 40)] [List.replicate 39 0 ++ [8]] ∧ Below w3.heap.size w3 ((((w3.alloc (Obj.cells #[.int .u8 1] 5)).alloc (Obj.cells #[.slice (some ⟨w3.heap.size, 0, none⟩) 1 1] 31)).alloc (Obj.cells #[.slice (some ⟨bR, 0, none⟩) 40 40] 31))) := by
  have b1 := sblo w3 (Obj.cells #[.int .u8 1] 5)
  have x1 := Box.new w3 5 #[.int .u8 1]
  have z1 : (w3.alloc (Obj.cells #[.int .u8 1] 5)).heap.size = w3.heap.size + 1 := by simp
  generalize w3.alloc (Obj.cells #[.int .u8 1] 5) = w1 at b1 x1 z1 ⊢
  have b2 := sblo w1 (Obj.cells #[.slice (some ⟨w3.heap.size, 0, none⟩) 1 1] 31)
  have x2 := Box.new w1 31 #[.slice (some ⟨w3.heap.size, 0, none⟩) 1 1]
  have z2 : (w1.alloc (Obj.cells #[.slice (some ⟨w3.heap.size, 0, none⟩) 1 1] 31)).heap.size = w3.heap.size + 1 + 1 := by simp [z1]
  generalize w1.alloc (Obj.cells #[.slice (some ⟨w3.heap.size, 0, none⟩) 1 1] 31) = w2 at b2 x2 z2 ⊢
  have b5 := sblo w2 (Obj.cells #[.slice (some ⟨bR, 0, none⟩) 40 40] 31)
  have x5 := Box.new w2 31 #[.slice (some ⟨bR, 0, none⟩) 40 40]
  generalize w2.alloc (Obj.cells #[.slice (some ⟨bR, 0, none⟩) 40 40] 31) = w4 at b5 x5 ⊢
  have y1 := (x1.under b2).under b5
  have y2 := x2.under b5
  have y0 := ((h.under b1).under b2).under b5
  rw [z1] at y2
  rw [z2] at x5
  refine ⟨⟨y2.sl_al rfl (by simp [maxLen]), rfl, fun j x r k1 k2 => ?_⟩, ⟨x5.sl_al rfl (by simp [maxLen]), rfl, fun j x r k1 k2 => ?_⟩, b1.trans ((b2.trans (b5.mono b2.size)).mono b1.size)⟩
  · match j with
    | 0 => cases k1; cases k2; exact y1.sl_al rfl (by simp [maxLen])
    | j + 1 => simp at k1
  · match j with
    | 0 => cases k1; cases k2; exact y0.sl_al (by simp) (by simp [maxLen])
    | j + 1 => simp at k1
set_option maxRecDepth 100000 in
set_option maxHeartbeats 8000000 in
theorem law35_lives (w : World) : Calls Try.prog 14 #[] w fun e w' => e = .returned (.bool true) ∧ Below w.heap.size w w' := by
  go_enter Try.func14, Try.ntmps14
  go_wp2_with fail
  obtain ⟨hP, hB⟩ := lit_pgs w
  generalize ((((w.alloc (Obj.cells #[.int .u8 1, .int .u8 2] 5)).alloc (Obj.cells #[.slice (some ⟨w.heap.size, 0, none⟩) 2 2] 31)).alloc (Obj.cells #[.int .u8 3] 5)).alloc (Obj.cells #[.slice (some ⟨w.heap.size + 1 + 1, 0, none⟩) 1 1] 31)).alloc (Obj.cells #[.slice (some ⟨w.heap.size + 1, 0, none⟩) 1 1, .slice (some ⟨w.heap.size + 1 + 1 + 1, 0, none⟩) 1 1] 28) = w5 at hP hB ⊢
  generalize w.heap.size + 1 + 1 + 1 + 1 = gA at hP ⊢
  generalize w.heap.size + 1 + 1 + 1 = gB at hP ⊢
  generalize w.heap.size + 1 + 1 = gC at hP ⊢
  generalize w.heap.size + 1 = gD at hP ⊢
  have HP := hide hP
  clear hP
  go_loopg [2] 2 (fun g v w' => ∃ (f : Nat), f ≤ 2 ∧ g = 2 - f ∧ v = .int .i64 (f : Int) ∧ Below w5.heap.size w5 w')
  case atStart => exact ⟨0, by omega, rfl, rfl, Below.refl _ _⟩
  case round =>
    obtain ⟨f, hf, hg, rfl, hbw⟩ := hrel
    have HG := hide hg
    clear hg
    match f, hf with
    | 0, _ =>
      have hnew := pr_New 3 3 wr rfl (by omega)
      go_wp2_with (go_at_call 15; refine hnew.mono ?_; rintro e w2 ⟨gp, rfl, A2, hg2, hb2⟩; refine hold ?_)
      refine hide ?_
      have hB2 : Below w5.heap.size w5 w2 := hbw.trans (hb2.mono hbw.size)
      have hL2 := hide (HP.out.below hB2)
      have hload := pr_Load gp m0 (newP 3) w2 A2 (Nat.zero_le _) exL _ _ _ _ hL2.out (by decide)
      rw [rn_load] at hload
      have hn2 : ∀ b ∈ pfoot gp m0, w5.heap.size ≤ b := fun b hm => by
        simp [pfoot, mutB, m0, blk, hb, nilH, hbs] at hm
        rw [hm]
        exact Nat.le_trans hbw.size hg2
      have hfg : ∀ b ∈ pfoot gp m0, w5.heap.size ≤ b := hn2
      go_wp2_with (go_at_call 16; refine hload.mono ?_; rintro e w3 ⟨rfl, m3, A3, MV3⟩; refine hold ?_)
      refine hide ?_
      have B3 := hB2.trans (MV3.blw hB2.size hn2)
      have N3 := MV3.new hB2.size hn2
      have HA3 : Hid (PAt w3 gp m3 (rnS 0 0)) := hide A3
      clear hload MV3 hn2 hfg A2 A3 hg2 hb2 hB2 hL2 hnew
      go_wp2_with fail
      go_loopg [5] 25 (fun g v w' => ∃ (i : Nat) (m : PM), i ≤ 25 ∧ g = 25 - i ∧ v = .int .i64 (i : Int) ∧ PAt w' gp m (rnS 0 i) ∧ Below w5.heap.size w5 w' ∧ (∀ b ∈ pfoot gp m, w5.heap.size ≤ b))
      case atStart => exact ⟨0, m3, by omega, rfl, rfl, HA3.out, B3, N3⟩
      case round =>
        clear HA3 B3 N3
        obtain ⟨i, m, hi, hg, rfl, hA, hbB, hnB⟩ := hrel
        have HG2 := hide hg
        have HA := hide hA
        have hwB : w5.heap.size ≤ w5.heap.size := Nat.le_refl _
        clear hg hA
        by_cases hi : i < 25
        · by_cases hif : i = 0
          · subst hif
            have hst : Calls Try.prog 17 #[.pointer (some ⟨gp, 0, none⟩), .int .i64 1] wr fun e w' => e = .returned (.int .i64 0) ∧ ∃ m', PAt w' gp m' (rnS 0 (0 + 1)) ∧ Mv wr w' (pfoot gp m) (pfoot gp m') := by
              have h1 := pr_Step gp m (rnS 0 0) 1 wr HA.out (inv_rn 0 0) (by omega)
              have h2 := rn0_ok 0 hi
              rw [if_pos rfl] at h2
              have h3 := rn_step 0 0 1 (if_pos rfl)
              rw [h2, h3] at h1
              exact h1
            go_wp2_with (go_at_call 17; refine hst.mono ?_; rintro e w4 ⟨rfl, m4, A4, MV4⟩)
            have B4 := MV4.blw (Nat.le_trans hwB hbB.size) hnB
            have N4 := MV4.new (Nat.le_trans hwB hbB.size) hnB
            have HA4 := hide A4
            clear MV4 A4 hst
            go_roundg (25 - (0 + 1))
            case measure => have := HG2.out; omega
            case rel => exact ⟨0 + 1, m4, by omega, rfl, by go_num, HA4.out, hbB.trans B4, N4⟩
          · have hd1 : decide ((i : Int) = 0) = false := decide_eq_false (by omega)
            have hst : Calls Try.prog 17 #[.pointer (some ⟨gp, 0, none⟩), .int .i64 0] wr fun e w' => e = .returned (.int .i64 0) ∧ ∃ m', PAt w' gp m' (rnS 0 (i + 1)) ∧ Mv wr w' (pfoot gp m) (pfoot gp m') := by
              have h1 := pr_Step gp m (rnS 0 i) 0 wr HA.out (inv_rn 0 i) (by omega)
              have h2 := rn0_ok i hi
              rw [if_neg hif] at h2
              have h3 := rn_step 0 i 0 (if_neg hif)
              rw [h2, h3] at h1
              exact h1
            go_wp2_with (go_at_call 17; refine hst.mono ?_; rintro e w4 ⟨rfl, m4, A4, MV4⟩)
            have B4 := MV4.blw (Nat.le_trans hwB hbB.size) hnB
            have N4 := MV4.new (Nat.le_trans hwB hbB.size) hnB
            have HA4 := hide A4
            clear MV4 A4 hst
            go_roundg (25 - (i + 1))
            case measure => have := HG2.out; omega
            case rel => exact ⟨i + 1, m4, by omega, rfl, by go_num, HA4.out, hbB.trans B4, N4⟩
        · obtain rfl : i = 25 := by omega
          have hout := pr_Out gp m (rnS 0 25) wr HA.out (inv_rn 0 25).cts (by rw [rn0_tray.1]; omega)
          rw [rn0_tray.1] at hout
          go_wp2_with (go_at_call 18; refine hout.mono ?_; rintro e w6 ⟨a6, c6, ws6, rfl, S6, hb6⟩; refine hold ?_)
          refine hide ?_
          have hB6 : Below w5.heap.size w5 w6 := hbB.trans (hb6.mono hbB.size)
          have hgood := pr_Good exL _ (rnS 0 25).tray ws6 _ a6 _ _ _ c6 w6 (HP.out.below hB6) S6.shp (fun p hp => ⟨⟨(exL_ok p hp).2.2, (exL_ok p hp).2.1⟩, (exL_ok p hp).1⟩) rn0_tray.2 (by decide) (by rw [rn0_tray.1]; omega)
          rw [rn0_good] at hgood
          simp only at hgood
          clear hout HA S6 hnB
          go_wp2_with (go_at_call 11; refine hgood.mono ?_; rintro e w7 ⟨ag, cg, am, cm, rfl, hs7, ht7, hb7⟩; refine hold ?_)
          refine hide ?_
          have hB7 : Below w5.heap.size w5 w7 := hB6.trans (hb7.mono hB6.size)
          clear hgood hb6 hb7 hB6 hbB
          have hsi : ∀ w8, Below w7.heap.size w7 w8 → ∀ a8 c8, Sl w8 1 a8 2 c8 ([0, 1].map I64) → Calls Try.prog 13 #[.slice am 2 cm, .slice a8 2 c8] w8 fun e w' => e = .returned (.bool true) ∧ Below w8.heap.size w8 w' := fun w8 hb8 a8 c8 h8 => SameInts_at (l1 := [0, 1]) (l2 := [0, 1]) (r := true) (by decide) (ht7.below hb8) h8
          go_wp2_with (first
            | (go_at_call 13; refine (hsi _ (sblo _ _) _ _ (Sl.fresh _ _ 1 2 [.int .i64 0, .int .i64 1] rfl (by decide))).mono ?_; rintro e w9 ⟨rfl, hb9⟩))
          go_roundg 1
          case measure => have := HG.out; omega
          case rel => exact ⟨1, by omega, rfl, by go_num, hB7.trans (((sblo w7 _).trans (hb9.mono (by simp))).mono hB7.size)⟩
    | 1, _ =>
      have hnew := pr_New 3 3 wr rfl (by omega)
      go_wp2_with (go_at_call 15; refine hnew.mono ?_; rintro e w2 ⟨gp, rfl, A2, hg2, hb2⟩; refine hold ?_)
      refine hide ?_
      have hB2 : Below w5.heap.size w5 w2 := hbw.trans (hb2.mono hbw.size)
      have hL2 := hide (HP.out.below hB2)
      have hload := pr_Load gp m0 (newP 3) w2 A2 (Nat.zero_le _) exL _ _ _ _ hL2.out (by decide)
      rw [rn_load] at hload
      have hn2 : ∀ b ∈ pfoot gp m0, w5.heap.size ≤ b := fun b hm => by
        simp [pfoot, mutB, m0, blk, hb, nilH, hbs] at hm
        rw [hm]
        exact Nat.le_trans hbw.size hg2
      have hfg : ∀ b ∈ pfoot gp m0, w5.heap.size ≤ b := hn2
      go_wp2_with (go_at_call 16; refine hload.mono ?_; rintro e w3 ⟨rfl, m3, A3, MV3⟩; refine hold ?_)
      refine hide ?_
      have B3 := hB2.trans (MV3.blw hB2.size hn2)
      have N3 := MV3.new hB2.size hn2
      have HA3 : Hid (PAt w3 gp m3 (rnS 1 0)) := hide A3
      clear hload MV3 hn2 hfg A2 A3 hg2 hb2 hB2 hL2 hnew
      go_wp2_with fail
      go_loopg [5] 25 (fun g v w' => ∃ (i : Nat) (m : PM), i ≤ 25 ∧ g = 25 - i ∧ v = .int .i64 (i : Int) ∧ PAt w' gp m (rnS 1 i) ∧ Below w5.heap.size w5 w' ∧ (∀ b ∈ pfoot gp m, w5.heap.size ≤ b))
      case atStart => exact ⟨0, m3, by omega, rfl, rfl, HA3.out, B3, N3⟩
      case round =>
        clear HA3 B3 N3
        obtain ⟨i, m, hi, hg, rfl, hA, hbB, hnB⟩ := hrel
        have HG2 := hide hg
        have HA := hide hA
        have hwB : w5.heap.size ≤ w5.heap.size := Nat.le_refl _
        clear hg hA
        by_cases hi : i < 25
        · by_cases hif : i = 1
          · subst hif
            have hst : Calls Try.prog 17 #[.pointer (some ⟨gp, 0, none⟩), .int .i64 1] wr fun e w' => e = .returned (.int .i64 0) ∧ ∃ m', PAt w' gp m' (rnS 1 (1 + 1)) ∧ Mv wr w' (pfoot gp m) (pfoot gp m') := by
              have h1 := pr_Step gp m (rnS 1 1) 1 wr HA.out (inv_rn 1 1) (by omega)
              have h2 := rn1_ok 1 hi
              rw [if_pos rfl] at h2
              have h3 := rn_step 1 1 1 (if_pos rfl)
              rw [h2, h3] at h1
              exact h1
            go_wp2_with (go_at_call 17; refine hst.mono ?_; rintro e w4 ⟨rfl, m4, A4, MV4⟩)
            have B4 := MV4.blw (Nat.le_trans hwB hbB.size) hnB
            have N4 := MV4.new (Nat.le_trans hwB hbB.size) hnB
            have HA4 := hide A4
            clear MV4 A4 hst
            go_roundg (25 - (1 + 1))
            case measure => have := HG2.out; omega
            case rel => exact ⟨1 + 1, m4, by omega, rfl, by go_num, HA4.out, hbB.trans B4, N4⟩
          · have hd1 : decide ((i : Int) = 1) = false := decide_eq_false (by omega)
            have hst : Calls Try.prog 17 #[.pointer (some ⟨gp, 0, none⟩), .int .i64 0] wr fun e w' => e = .returned (.int .i64 0) ∧ ∃ m', PAt w' gp m' (rnS 1 (i + 1)) ∧ Mv wr w' (pfoot gp m) (pfoot gp m') := by
              have h1 := pr_Step gp m (rnS 1 i) 0 wr HA.out (inv_rn 1 i) (by omega)
              have h2 := rn1_ok i hi
              rw [if_neg hif] at h2
              have h3 := rn_step 1 i 0 (if_neg hif)
              rw [h2, h3] at h1
              exact h1
            go_wp2_with (go_at_call 17; refine hst.mono ?_; rintro e w4 ⟨rfl, m4, A4, MV4⟩)
            have B4 := MV4.blw (Nat.le_trans hwB hbB.size) hnB
            have N4 := MV4.new (Nat.le_trans hwB hbB.size) hnB
            have HA4 := hide A4
            clear MV4 A4 hst
            go_roundg (25 - (i + 1))
            case measure => have := HG2.out; omega
            case rel => exact ⟨i + 1, m4, by omega, rfl, by go_num, HA4.out, hbB.trans B4, N4⟩
        · obtain rfl : i = 25 := by omega
          have hout := pr_Out gp m (rnS 1 25) wr HA.out (inv_rn 1 25).cts (by rw [rn1_tray.1]; omega)
          rw [rn1_tray.1] at hout
          go_wp2_with (go_at_call 18; refine hout.mono ?_; rintro e w6 ⟨a6, c6, ws6, rfl, S6, hb6⟩; refine hold ?_)
          refine hide ?_
          have hB6 : Below w5.heap.size w5 w6 := hbB.trans (hb6.mono hbB.size)
          have hgood := pr_Good exL _ (rnS 1 25).tray ws6 _ a6 _ _ _ c6 w6 (HP.out.below hB6) S6.shp (fun p hp => ⟨⟨(exL_ok p hp).2.2, (exL_ok p hp).2.1⟩, (exL_ok p hp).1⟩) rn1_tray.2 (by decide) (by rw [rn1_tray.1]; omega)
          rw [rn1_good] at hgood
          simp only at hgood
          clear hout HA S6 hnB
          go_wp2_with (go_at_call 11; refine hgood.mono ?_; rintro e w7 ⟨ag, cg, am, cm, rfl, hs7, ht7, hb7⟩; refine hold ?_)
          refine hide ?_
          have hB7 : Below w5.heap.size w5 w7 := hB6.trans (hb7.mono hB6.size)
          clear hgood hb6 hb7 hB6 hbB
          go_wp2_with fail
          go_roundg 0
          case measure => have := HG.out; omega
          case rel => exact ⟨2, by omega, rfl, by go_num, hB7⟩
    | 2, _ =>
      go_wp2_with (first
        | (with_reducible refine make_row 82 _ _ _ 5 (.int .u8 0) 1 Try.underlying31 info_u8 rfl .i64 .i64 40 40 40 rfl rfl rfl rfl (by decide) (by decide) ?_; intro w2 hr2 hb2 hz2)
        | (with_reducible refine index_known 84 _ _ _ 5 Try.underlying31 size_u8 wr.heap.size 40 40 rfl _ _ 39 rfl rfl (by decide) ?_)
        | (with_reducible refine hold_store ?_))
      refine hide ?_
      have x2 := row_boxP hr2
      refine store_cell 5 _ _ 5 wr.heap.size 39 _ (.int .u8 8) size_u8 x2 rfl rfl rfl rfl (by simp) ?_; intro w3 x3 g3 s3
      have hB3 : Below w5.heap.size w5 w3 := (hbw.trans (hb2.mono hbw.size)).grown g3 (Nat.le_trans hbw.size hb2.size) (fun b hb => by cases hb; exact hbw.size)
      have x4 : Box w3 wr.heap.size 5 ((List.replicate 39 (0 : UInt8) ++ [8]).map B8) := by
        have e : ((List.replicate 39 (0 : UInt8) ++ [8]).map B8) = (List.replicate 40 (Value.int .u8 0)).set 39 (.int .u8 8) := by rfl
        rw [e]; exact x3
      generalize wr.heap.size = bR at x4 ⊢
      clear hr2 hb2 hz2 x2 x3 g3 s3 HP
      obtain ⟨p1, p2, hb4⟩ := lit_touch w3 bR x4
      have ht := hide (pr_Touch [[1]] [List.replicate 39 0 ++ [8]] _ _ _ _ _ _ _ _ _ p1 p2)
      rw [rn_touch] at ht
      go_wp2_with (go_at_call 28; refine ht.out.mono ?_; rintro e w6 ⟨a, c, rfl, ho, hb6⟩; refine hold ?_)
      refine hide ?_
      clear ht p1 p2
      obtain ⟨ga, rfl⟩ := own_zero ho (by decide)
      have q0 : w6.cell? ⟨ga, 0, none⟩ = some (.int .i64 0) := by
        have := ho.sl.cell ⟨ga, 0, none⟩ rfl 0 (.int .i64 0) rfl
        rw [Addr.add_lit] at this
        exact this
      have q1 : w6.cell? ⟨ga, 1, none⟩ = some (.int .i64 0) := by
        have := ho.sl.cell ⟨ga, 0, none⟩ rfl 1 (.int .i64 0) rfl
        rw [Addr.add_lit] at this
        exact this
      have hB6 : Below w5.heap.size w5 w6 := (hB3.trans (hb4.mono hB3.size)).trans (hb6.mono (Nat.le_trans hB3.size hb4.size))
      clear ho hb6 hb4 hB3 x4
      have heq := eq_pair00
      have hs0 := pr_Step_bad none 0 w6 (.inl rfl)
      have ho0 := pr_Out_nil w6
      go_wp2_with (first
        | (go_at_call 17; refine hs0.mono ?_; rintro e w7 ⟨rfl, rfl⟩)
        | (go_at_call 18; refine ho0.mono ?_; rintro e w7 ⟨rfl, rfl⟩))
      go_ret
      exact ⟨rfl, hB.trans (hB6.mono hB.size)⟩
end Go.Proofs.Ytdeknimelkdaeaa
end
