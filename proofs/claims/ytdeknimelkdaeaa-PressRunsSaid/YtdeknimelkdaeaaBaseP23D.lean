/- The contracts of the functions that the law reaches, joined into one text. -/
import Derived.Test.YtdeknimelkdaeaaBaseP23C
set_option linter.unusedVariables false
set_option linter.unusedSimpArgs false

/- the text P7 -/
section
/- Chapter 35: take. -/
set_option linter.unusedVariables false
namespace Go.Proofs.Ytdeknimelkdaeaa
open Go.RowKit Go.Dx Go.Al
theorem size_work : (Try.prog.info? 72).map (·.size) = some 6 := by kernel_rfl
theorem size_int1 : (Try.prog.info? 3).map (·.size) = some 1 := by kernel_rfl
theorem size_shs : (Try.prog.info? 25).map (·.size) = some 1 := by kernel_rfl
section
variable {w : World} {ops : Array Oper} {rest : List Oper} {act : Act} {Q : Exit → Act → World → Prop} {ty : TypeId} {pos : String} {after : Array Edge}
theorem idx_sh (d : Nat) (x y : Operand) (a : Option Addr) (n c : Nat) (ws : List HS) (hx : act.eval x = .slice a n c) (hs : Sl w 2 a n c (ws.flatMap shc)) (k : IntKind) (iv : Int) (i : Nat) (hy : act.eval y = .int k iv) (hiv : iv = (i : Int))
    (h : HS) (hi : ws[i]? = some h) (u0 u1 : Value) (hu : shc h = [u0, u1])
    (hK : ∀ b o, w.cell? ⟨b, o, none⟩ = some u0 → w.cell? ⟨b, o + 1, none⟩ = some u1 → b < w.heap.size → wpList Try.prog ops Q rest (act.put (some d) (.pointer (some ⟨b, o, none⟩))) w) :
    wpList Try.prog ops Q ({ dst := some d, op := .indexAddr 25 x y, type := ty, pos := pos, after := after, guard := none } :: rest) act w := by
  have hn := hs.nf shc_len (by decide)
  refine index_row d 25 x y 29 Try.underlying25 2 size_sheet a n c _ hx hs k iv i hy hiv (by rw [hn]; exact (List.getElem?_eq_some_iff.1 hi).1) (by decide) ?_
  intro b o hc hb _
  have e0 := flat_get shc_len hi (j := 0) (by decide)
  have e1 := flat_get shc_len hi (j := 1) (by decide)
  rw [hu] at e0 e1
  exact hK b o (hc 0 u0 (by decide) e0) (hc 1 u1 (by decide) e1) hb
end
def tkS (x : Sht) (l tray : List Sht) (P mode : Nat) (i : Nat) : Pr := ⟨x.1, x.2, if 0 < i then blank else [], if 1 < i then blank else [], 0, true, P, l, tray, mode⟩
theorem foot_e0 (g : Nat) (m : PM) (x : Hd) {Z : Nat → Prop} (hx : ∀ c ∈ hb x, c ∈ pfoot g m ∨ Z c) : ∀ c ∈ pfoot g { m with e0 := x }, c ∈ pfoot g m ∨ Z c := by
  intro c hc
  simp only [pfoot, mutB, List.mem_append, List.mem_cons] at hc hx ⊢
  rcases hc with (h | ((h | h) | h) | h) | h
  · simp [h]
  · simp [h]
  · simp [h]
  · exact hx c h
  · simp [h]
  · simp [h]
theorem foot_e1 (g : Nat) (m : PM) (x : Hd) {Z : Nat → Prop} (hx : ∀ c ∈ hb x, c ∈ pfoot g m ∨ Z c) : ∀ c ∈ pfoot g { m with e1 := x }, c ∈ pfoot g m ∨ Z c := by
  intro c hc
  simp only [pfoot, mutB, List.mem_append, List.mem_cons] at hc hx ⊢
  rcases hc with (h | ((h | h) | h) | h) | h
  · simp [h]
  · simp [h]
  · simp [h]
  · simp [h]
  · exact hx c h
  · simp [h]
theorem foot_take {g : Nat} {h0 h1 e0 e1 : Hd} {wa ta a' : Option Addr} {wc tc c' : Nat} {ws ts : List HS} {y : HS} {Z : Nat → Prop} (ha : ∀ b ∈ blk a', b ∈ blk wa) :
    ∀ b ∈ pfoot g ⟨y.1, y.2, nilH, nilH, a', c', ws, ta, tc, ts⟩, b ∈ pfoot g ⟨h0, h1, e0, e1, wa, wc, y :: ws, ta, tc, ts⟩ ∨ Z b := by
  intro b hm
  left
  simp only [pfoot, mutB, List.mem_append, List.mem_cons, hbs_cons] at hm ⊢
  rcases hm with (h | ((h | h) | h) | h) | ((h | h) | h) | h
  · simp [h]
  · simp [ha b h]
  · simp [h]
  · cases h
  · cases h
  · simp [h]
  · simp [h]
  · simp [h]
  · simp [h]
set_option maxHeartbeats 4000000 in
theorem pr_take (g : Nat) (m : PM) (S : Pr) (w : World) (h : PAt w g m S) (hp : S.paper ≤ 1000) :
    Calls Try.prog 39 #[.pointer (some ⟨g, 0, none⟩)] w fun e w' => e = .returned (.int .i64 (takeP S).2) ∧ ∃ m', PAt w' g m' (takeP S).1 ∧ Mv w w' (pfoot g m) (pfoot g m') := by
  obtain ⟨M0, hM0⟩ : ∃ M0, Hid (m = M0) := ⟨_, hide rfl⟩
  have hMV := hide (Mv.refl w (pfoot g m))
  rw [hM0.out] at hMV
  have hM1 : Hid (∀ w' (m' : PM), Mv w w' (pfoot g M0) (pfoot g m') → Mv w w' (pfoot g m) (pfoot g m')) := hide (by rw [hM0.out]; exact fun _ _ h => h)
  obtain ⟨w0, w1, d0, d1, rows, busy, paper, waiting, tray, mode⟩ := S
  cases busy with
  | true =>
    have X : Box w g 76 [_, _, _, _, .int .i64 (rows : Int), .bool true, .int .i64 (paper : Int), _, _, _] := h.box
    have c5 := X.at_ (j := 5) rfl
    have H := hide h
    clear h
    go_enter Try.func39, Try.ntmps39
    go_wp2_with fail
    go_ret
    exact ⟨rfl, m, H.out, Mv.refl _ _⟩
  | false =>
    cases waiting with
    | nil =>
      have X : Box w g 76 [_, _, _, _, .int .i64 (rows : Int), .bool false, .int .i64 (paper : Int), .slice m.wa 0 m.wc, _, _] := h.box
      have c5 := X.at_ (j := 5) rfl
      have c7 := X.at_ (j := 7) rfl
      have H := hide h
      clear h
      go_enter Try.func39, Try.ntmps39
      go_wp2_with fail
      go_ret
      exact ⟨rfl, m, H.out, Mv.refl _ _⟩
    | cons x l =>
      obtain ⟨n, hn⟩ : ∃ n, Hid (l.length + 1 = n) := ⟨_, hide rfl⟩
      have hn0 : decide ((n : Int) = 0) = false := decide_eq_false (by have := hn.out; omega)
      have hn1 : ¬ n = 0 := by have := hn.out; omega
      have c5 : w.cell? ⟨g, 5, none⟩ = some (.bool false) := h.box.at_ rfl
      have c6 : w.cell? ⟨g, 6, none⟩ = some (.int .i64 (paper : Int)) := h.box.at_ rfl
      have c7 : w.cell? ⟨g, 7, none⟩ = some (.slice m.wa n m.wc) := by rw [← hn.out]; exact h.box.at_ rfl
      have H := hide h
      clear h
      by_cases hpp : paper = 0
      · subst hpp
        go_enter Try.func39, Try.ntmps39
        go_wp2_with fail
        go_ret
        exact ⟨rfl, m, H.out, Mv.refl _ _⟩
      · obtain ⟨P, rfl⟩ : ∃ P, paper = P + 1 := ⟨paper - 1, by omega⟩
        obtain ⟨Q, hQ⟩ : ∃ Q, Hid (P + 1 = Q) := ⟨_, hide rfl⟩
        have hQ1 : (Q : Int) - 1 = (P : Int) := by have := hQ.out; omega
        have hQ0 : ¬ Q = 0 := by have := hQ.out; omega
        have hQ2 : Hid (P + 1 ≤ 1000) := hide hp
        have HT : Hid (takeP ⟨w0, w1, d0, d1, rows, false, P + 1, x :: l, tray, mode⟩ = (tkS x l tray P mode 2, 0)) := hide rfl
        obtain ⟨⟨a0, n0, c0⟩, ⟨a1, n1, c1⟩, ⟨a2, n2, c2⟩, ⟨a3, n3, c3⟩, wa, wc, ws, ta, tc, ts⟩ := m
        cases ws with
        | nil => exact absurd H.out.inn.ww.len (by simp)
        | cons y ws =>
          obtain ⟨⟨b0, k0, c0'⟩, ⟨b1, k1, c1'⟩⟩ := y
          have hsh : shc ((b0, k0, c0'), (b1, k1, c1')) = [.slice b0 k0 c0', .slice b1 k1 c1'] := rfl
          have X0 : Box w g 76 [.slice a0 n0 c0, .slice a1 n1 c1, .slice a2 n2 c2, .slice a3 n3 c3, .int .i64 (rows : Int), .bool false, .int .i64 (Q : Int), .slice wa n wc, .slice ta tray.length tc, stv mode] := by
            have h1 := H.out.box
            rw [← hn.out, ← hQ.out]
            exact h1
          clear hpp hp
          clear c5 c6 c7
          have c5 := X0.at_ (j := 5) rfl
          have c6 := X0.at_ (j := 6) rfl
          have c7 := X0.at_ (j := 7) rfl
          have hQb : P ≤ 1000 := by have := hQ2.out; omega
          go_enter Try.func39, Try.ntmps39
          go_wp2_with (with_reducible refine hold_store ?_)
          refine hide ?_
          refine store_cell 3 _ _ 76 g 6 _ (.int .i64 (P : Int)) size_int1 X0 rfl rfl rfl rfl (by show _ < 10; omega) ?_; intro w2 x2 g2 s2
          have X2 : Box w2 g 76 [.slice a0 n0 c0, .slice a1 n1 c1, .slice a2 n2 c2, .slice a3 n3 c3, .int .i64 (rows : Int), .bool false, .int .i64 (P : Int), .slice wa n wc, .slice ta tray.length tc, stv mode] := x2
          have I2 := hide (H.out.inn.put X0 rfl g2)
          have MV2 := hide (hMV.out.grown g2 (fun c hc => by cases hc; simp [pfoot, mutB]))
          clear x2 g2 s2 X0 H hMV
          have hq2 : Sl w2 2 wa n wc ((((b0, k0, c0'), (b1, k1, c1')) :: ws).flatMap shc) := by rw [← hn.out]; exact I2.out.wq.sl
          clear c5 c6 c7
          have c7 := X2.at_ (j := 7) rfl
          go_wp2_with (first
            | (with_reducible refine idx_sh 35 _ _ _ _ _ (((b0, k0, c0'), (b1, k1, c1')) :: ws) rfl hq2 _ _ 0 rfl rfl _ rfl _ _ hsh ?_; intro bb oo hcc0 hcc1 hbb)
            | (with_reducible refine load_sheet2 36 _ bb oo (oo + 1) rfl (.slice b0 k0 c0') (.slice b1 k1 c1') hcc0 hcc1 rfl ?_)
            | (with_reducible refine hold_store ?_))
          refine hide ?_
          refine store_box 72 _ _ 76 g 0 _ [.slice b0 k0 c0', .slice b1 k1 c1', .slice none 0 0, .slice none 0 0, .int .i64 0, .bool true] _ size_work X2 rfl rfl rfl (by show 0 + 6 ≤ 10; omega) (by simp [Value.oneCell']) ?_; intro w3 x3 g3 s3
          have X3 : Box w3 g 76 [.slice b0 k0 c0', .slice b1 k1 c1', .slice none 0 0, .slice none 0 0, .int .i64 0, .bool true, .int .i64 (P : Int), .slice wa n wc, .slice ta tray.length tc, stv mode] := x3
          have I3 := hide (I2.out.put X2 rfl g3)
          have MV3 := hide (MV2.out.grown g3 (fun c hc => by cases hc; simp [pfoot, mutB]))
          clear x3 g3 s3 X2 I2 MV2 hq2 c7 hcc0 hcc1
          have hQ3 : Que w3 29 2 wa n wc ((((b0, k0, c0'), (b1, k1, c1')) :: ws).flatMap shc) := by rw [← hn.out]; exact I3.out.wq
          have c7 := X3.at_ (j := 7) rfl
          have hn3 : 1 ≤ n := by have := hn.out; omega
          go_wp2_with (first
            | (with_reducible refine cut_que 45 25 _ _ 29 Try.underlying25 2 size_sheet wa n wc _ rfl hQ3 _ _ 1 rfl rfl hn3 ?_; intro a' hcut ha')
            | (with_reducible refine hold_store ?_))
          refine hide ?_
          obtain ⟨n', hn'⟩ : ∃ n', Hid (n - 1 = n') := ⟨_, hide rfl⟩
          obtain ⟨c', hc'⟩ : ∃ c', Hid (wc - 1 = c') := ⟨_, hide rfl⟩
          rw [hn'.out, hc'.out] at hcut ⊢
          refine store_cell 25 _ _ 76 g 7 _ (.slice a' n' c') size_shs X3 rfl rfl rfl rfl (by show _ < 10; omega) ?_; intro w4 x4 g4 s4
          have X4 : Box w4 g 76 [.slice b0 k0 c0', .slice b1 k1 c1', .slice none 0 0, .slice none 0 0, .int .i64 0, .bool true, .int .i64 (P : Int), .slice a' n' c', .slice ta tray.length tc, stv mode] := x4
          have hl' : n' = l.length := by have := hn.out; have := hn'.out; omega
          have I3b : PIn w3 ⟨(b0, k0, c0'), (b1, k1, c1'), nilH, nilH, a', c', ws, ta, tc, ts⟩ ⟨x.1, x.2, [], [], 0, true, P, l, tray, mode⟩ := PIn.take I3.out (by
            have h1 := hcut
            rw [hl'] at h1
            exact h1) ha'
          have I4 := I3b.put X3 rfl g4
          have MV4 := hide ((MV3.out.less (S2 := pfoot g ⟨(b0, k0, c0'), (b1, k1, c1'), nilH, nilH, a', c', ws, ta, tc, ts⟩) (by rw [← hM0.out]; exact foot_take (y := ((b0, k0, c0'), (b1, k1, c1'))) ha')).grown g4 (fun c hc => by cases hc; simp [pfoot, mutB]))
          have A4 : Hid (PAt w4 g ⟨(b0, k0, c0'), (b1, k1, c1'), nilH, nilH, a', c', ws, ta, tc, ts⟩ (tkS x l tray P mode 0)) := hide ⟨by rw [hl'] at X4; exact X4, I4⟩
          clear x4 X4 I4 g4 s4 I3b I3 hcut ha' hQ3 hl' c7 X3 MV3
          go_wp2_with fail
          go_loopg [48] 2 (fun gh v w' => ∃ (i : Nat) (mi : PM), i ≤ 2 ∧ gh = 2 - i ∧ v = .int .i64 (i : Int) ∧ PAt w' g mi (tkS x l tray P mode i) ∧ Mv w w' (pfoot g M0) (pfoot g mi))
          case atStart => exact ⟨0, _, by omega, rfl, rfl, A4.out, MV4.out⟩
          case round =>
            obtain ⟨i, mi, hi, hg, rfl, hPA, hMV'⟩ := hrel
            have HG := hide hg
            have PA := hide hPA
            have MV := hide hMV'
            clear hg hPA hMV'
            match i, hi with
            | 0, _ =>
              go_wp2_with fail
              refine wp_region_free 7 [⟨0, 51, [51], fun vs _ => vs = [.pointer (some ⟨g, 0, none⟩)]⟩, ⟨1, 52, [52], fun vs _ => vs = [.int .i64 0]⟩, ⟨2, 53, [53], fun vs w' => ∃ b, vs = [.slice (some ⟨b, 0, none⟩) 25 25] ∧ Box w' b 31 (List.replicate 25 (.slice none 0 0)) ∧ wr.heap.size ≤ b⟩, ⟨3, 54, [54], fun vs _ => vs = [.pointer (some ⟨g, 0, none⟩)]⟩, ⟨4, 55, [55], fun vs _ => vs = [.pointer (some ⟨g, 0, none⟩)]⟩, ⟨5, 56, [56], fun vs _ => vs = [.pointer (some ⟨g, 2, none⟩)]⟩, ⟨6, 57, [57], fun vs _ => vs = [.pointer (some ⟨g, 2, none⟩)]⟩] (by kernel_rfl) (by kernel_rfl) ?_ ?_ ?_
              · simp only [All]
                refine ⟨fun _ _ _ _ h => h, fun _ _ _ _ h => h, ?_, fun _ _ _ _ h => h, fun _ _ _ _ h => h, fun _ _ _ _ h => h, fun _ _ _ _ h => h, trivial⟩
                · rintro vs w w' hb ⟨b, h1, h2, h3⟩
                  exact ⟨b, h1, h2.under hb, h3⟩
              · simp only [All]
                refine ⟨?_, ?_, ?_, ?_, ?_, ?_, ?_, trivial⟩
                · intro o ho a' w' hb hfr hdep
                  obtain rfl := Option.some.inj ho
                  have g0 : a'.tmps[0]?.getD undef = .pointer (some ⟨g, 0, none⟩) := by have h := hfr 0 (by kernel_rfl); simpa using h
                  clear ho hfr hdep
                  go_wp2_with fail
                  exact ⟨rfl, _, rfl, Below.refl _ _, rfl⟩
                · intro o ho a' w' hb hfr hdep
                  obtain rfl := Option.some.inj ho
                  have g3 : a'.tmps[3]?.getD undef = .int .i64 0 := by have h := hfr 3 (by kernel_rfl); simpa using h
                  clear ho hfr hdep
                  go_wp2_with fail
                  exact ⟨rfl, _, rfl, Below.refl _ _, rfl⟩
                · intro o ho a' w' hb hfr hdep
                  obtain rfl := Option.some.inj ho
                  clear ho hfr hdep
                  go_wp2_with (with_reducible refine make_row 53 _ _ _ 31 (.slice none 0 0) 24 Try.underlying28 info_row rfl .i64 .i64 25 25 25 rfl rfl rfl rfl (by decide) (by decide) ?_; intro w1 hr1 hb1 hz1)
                  exact ⟨rfl, _, rfl, hb1, _, rfl, row_boxP hr1, hb.size⟩
                · intro o ho a' w' hb hfr hdep
                  obtain rfl := Option.some.inj ho
                  have g51 : a'.tmps[51]?.getD undef = .pointer (some ⟨g, 0, none⟩) := by have h := hdep 0 _ rfl (by kernel_rfl); simpa using h
                  clear ho hfr hdep
                  go_wp2_with fail
                  exact ⟨rfl, _, rfl, Below.refl _ _, rfl⟩
                · intro o ho a' w' hb hfr hdep
                  obtain rfl := Option.some.inj ho
                  have g54 : a'.tmps[54]?.getD undef = .pointer (some ⟨g, 0, none⟩) := by have h := hdep 3 _ rfl (by kernel_rfl); simpa using h
                  clear ho hfr hdep
                  go_wp2_with fail
                  exact ⟨rfl, _, rfl, Below.refl _ _, rfl⟩
                · intro o ho a' w' hb hfr hdep
                  obtain rfl := Option.some.inj ho
                  have g55 : a'.tmps[55]?.getD undef = .pointer (some ⟨g, 0, none⟩) := by have h := hdep 4 _ rfl (by kernel_rfl); simpa using h
                  clear ho hfr hdep
                  go_wp2_with fail
                  exact ⟨rfl, _, rfl, Below.refl _ _, rfl⟩
                · intro o ho a' w' hb hfr hdep
                  obtain rfl := Option.some.inj ho
                  have g56 : a'.tmps[56]?.getD undef = .pointer (some ⟨g, 2, none⟩) := by have h := hdep 5 _ rfl (by kernel_rfl); simpa using h
                  have g52 : a'.tmps[52]?.getD undef = .int .i64 0 := by have h := hdep 1 _ rfl (by kernel_rfl); simpa using h
                  clear ho hfr hdep
                  go_wp2_with fail
                  exact ⟨rfl, _, rfl, Below.refl _ _, rfl⟩
              · intro g0 w5 hbl hp'
                obtain ⟨b, pB, xB, nB⟩ := hp' 2 _ rfl
                have pO := hp' 6 _ rfl
                clear hp'
                simp at pB pO
                simp only [List.drop_succ_cons, List.drop_zero, List.map_cons, List.map_nil, putAll, Act.put, List.setIfInBounds_toArray, List.set_cons_succ, List.set_cons_zero, List.cons_append, List.nil_append, pB, pO]
                clear pB pO
                have I5 := hide (PA.out.inn.new0 (x := (some ⟨b, 0, none⟩, 25, 25)) hbl (Tab.blank xB) (fun c hc => by simp [hb] at hc; subst hc; exact nB))
                have X5 := PA.out.box.under hbl
                go_wp2_with (with_reducible refine hold_store ?_)
                refine hide ?_
                refine store_cell 28 _ _ 76 g 2 _ (.slice (some ⟨b, 0, none⟩) 25 25) size_page X5 rfl rfl rfl rfl (by show _ < 10; omega) ?_; intro w6 x6 g6 s6
                have I6 := hide (I5.out.put X5 rfl g6)
                have A6 : Hid (PAt w6 g { mi with e0 := (some ⟨b, 0, none⟩, 25, 25) } (tkS x l tray P mode 1)) := hide ⟨x6, I6.out⟩
                have M6 : Hid (Mv w w6 (pfoot g M0) (pfoot g { mi with e0 := (some ⟨b, 0, none⟩, 25, 25) })) := hide (((MV.out.below hbl).less (foot_e0 g mi _ (fun c hc => by
                  simp [hb] at hc
                  subst hc
                  exact .inr (Nat.le_trans MV.out.fr.size nB)))).grown g6 (fun c hc => by cases hc; simp [pfoot, mutB]))
                clear I5 X5 x6 g6 s6 I6 hbl xB nB
                go_wp2
                go_roundg 1
                case measure => have := HG.out; omega
                case rel => exact ⟨1, _, by omega, rfl, rfl, A6.out, M6.out⟩

            | 1, _ =>
              go_wp2_with fail
              refine wp_region_free 7 [⟨0, 51, [51], fun vs _ => vs = [.pointer (some ⟨g, 0, none⟩)]⟩, ⟨1, 52, [52], fun vs _ => vs = [.int .i64 1]⟩, ⟨2, 53, [53], fun vs w' => ∃ b, vs = [.slice (some ⟨b, 0, none⟩) 25 25] ∧ Box w' b 31 (List.replicate 25 (.slice none 0 0)) ∧ wr.heap.size ≤ b⟩, ⟨3, 54, [54], fun vs _ => vs = [.pointer (some ⟨g, 0, none⟩)]⟩, ⟨4, 55, [55], fun vs _ => vs = [.pointer (some ⟨g, 0, none⟩)]⟩, ⟨5, 56, [56], fun vs _ => vs = [.pointer (some ⟨g, 2, none⟩)]⟩, ⟨6, 57, [57], fun vs _ => vs = [.pointer (some ⟨g, 3, none⟩)]⟩] (by kernel_rfl) (by kernel_rfl) ?_ ?_ ?_
              · simp only [All]
                refine ⟨fun _ _ _ _ h => h, fun _ _ _ _ h => h, ?_, fun _ _ _ _ h => h, fun _ _ _ _ h => h, fun _ _ _ _ h => h, fun _ _ _ _ h => h, trivial⟩
                · rintro vs w w' hb ⟨b, h1, h2, h3⟩
                  exact ⟨b, h1, h2.under hb, h3⟩
              · simp only [All]
                refine ⟨?_, ?_, ?_, ?_, ?_, ?_, ?_, trivial⟩
                · intro o ho a' w' hb hfr hdep
                  obtain rfl := Option.some.inj ho
                  have g0 : a'.tmps[0]?.getD undef = .pointer (some ⟨g, 0, none⟩) := by have h := hfr 0 (by kernel_rfl); simpa using h
                  clear ho hfr hdep
                  go_wp2_with fail
                  exact ⟨rfl, _, rfl, Below.refl _ _, rfl⟩
                · intro o ho a' w' hb hfr hdep
                  obtain rfl := Option.some.inj ho
                  have g3 : a'.tmps[3]?.getD undef = .int .i64 1 := by have h := hfr 3 (by kernel_rfl); simpa using h
                  clear ho hfr hdep
                  go_wp2_with fail
                  exact ⟨rfl, _, rfl, Below.refl _ _, rfl⟩
                · intro o ho a' w' hb hfr hdep
                  obtain rfl := Option.some.inj ho
                  clear ho hfr hdep
                  go_wp2_with (with_reducible refine make_row 53 _ _ _ 31 (.slice none 0 0) 24 Try.underlying28 info_row rfl .i64 .i64 25 25 25 rfl rfl rfl rfl (by decide) (by decide) ?_; intro w1 hr1 hb1 hz1)
                  exact ⟨rfl, _, rfl, hb1, _, rfl, row_boxP hr1, hb.size⟩
                · intro o ho a' w' hb hfr hdep
                  obtain rfl := Option.some.inj ho
                  have g51 : a'.tmps[51]?.getD undef = .pointer (some ⟨g, 0, none⟩) := by have h := hdep 0 _ rfl (by kernel_rfl); simpa using h
                  clear ho hfr hdep
                  go_wp2_with fail
                  exact ⟨rfl, _, rfl, Below.refl _ _, rfl⟩
                · intro o ho a' w' hb hfr hdep
                  obtain rfl := Option.some.inj ho
                  have g54 : a'.tmps[54]?.getD undef = .pointer (some ⟨g, 0, none⟩) := by have h := hdep 3 _ rfl (by kernel_rfl); simpa using h
                  clear ho hfr hdep
                  go_wp2_with fail
                  exact ⟨rfl, _, rfl, Below.refl _ _, rfl⟩
                · intro o ho a' w' hb hfr hdep
                  obtain rfl := Option.some.inj ho
                  have g55 : a'.tmps[55]?.getD undef = .pointer (some ⟨g, 0, none⟩) := by have h := hdep 4 _ rfl (by kernel_rfl); simpa using h
                  clear ho hfr hdep
                  go_wp2_with fail
                  exact ⟨rfl, _, rfl, Below.refl _ _, rfl⟩
                · intro o ho a' w' hb hfr hdep
                  obtain rfl := Option.some.inj ho
                  have g56 : a'.tmps[56]?.getD undef = .pointer (some ⟨g, 2, none⟩) := by have h := hdep 5 _ rfl (by kernel_rfl); simpa using h
                  have g52 : a'.tmps[52]?.getD undef = .int .i64 1 := by have h := hdep 1 _ rfl (by kernel_rfl); simpa using h
                  clear ho hfr hdep
                  go_wp2_with fail
                  exact ⟨rfl, _, rfl, Below.refl _ _, rfl⟩
              · intro g0 w5 hbl hp'
                obtain ⟨b, pB, xB, nB⟩ := hp' 2 _ rfl
                have pO := hp' 6 _ rfl
                clear hp'
                simp at pB pO
                simp only [List.drop_succ_cons, List.drop_zero, List.map_cons, List.map_nil, putAll, Act.put, List.setIfInBounds_toArray, List.set_cons_succ, List.set_cons_zero, List.cons_append, List.nil_append, pB, pO]
                clear pB pO
                have I5 := hide (PA.out.inn.new1 (x := (some ⟨b, 0, none⟩, 25, 25)) hbl (Tab.blank xB) (fun c hc => by simp [hb] at hc; subst hc; exact nB))
                have X5 := PA.out.box.under hbl
                go_wp2_with (with_reducible refine hold_store ?_)
                refine hide ?_
                refine store_cell 28 _ _ 76 g 3 _ (.slice (some ⟨b, 0, none⟩) 25 25) size_page X5 rfl rfl rfl rfl (by show _ < 10; omega) ?_; intro w6 x6 g6 s6
                have I6 := hide (I5.out.put X5 rfl g6)
                have A6 : Hid (PAt w6 g { mi with e1 := (some ⟨b, 0, none⟩, 25, 25) } (tkS x l tray P mode 2)) := hide ⟨x6, I6.out⟩
                have M6 : Hid (Mv w w6 (pfoot g M0) (pfoot g { mi with e1 := (some ⟨b, 0, none⟩, 25, 25) })) := hide (((MV.out.below hbl).less (foot_e1 g mi _ (fun c hc => by
                  simp [hb] at hc
                  subst hc
                  exact .inr (Nat.le_trans MV.out.fr.size nB)))).grown g6 (fun c hc => by cases hc; simp [pfoot, mutB]))
                clear I5 X5 x6 g6 s6 I6 hbl xB nB
                go_wp2
                go_roundg 0
                case measure => have := HG.out; omega
                case rel => exact ⟨2, _, by omega, rfl, rfl, A6.out, M6.out⟩

            | 2, _ =>
              go_wp2_with fail
              go_ret
              rw [HT.out]
              exact ⟨rfl, mi, PA.out, by rw [← hM0.out] at MV; exact MV.out⟩
end Go.Proofs.Ytdeknimelkdaeaa
end

/- the text P8a -/
section
/- Chapter 35: the rows of sheets grow. -/
set_option linter.unusedVariables false
namespace Go.Proofs.Ytdeknimelkdaeaa
open Go.RowKit Go.Dx Go.Al
theorem que_nobs {w : World} {T : TypeId} {sz n c : Nat} {a : Option Addr} {cs : List Value} (h : Que w T sz a n c cs) (ht : T ≠ 5) : ∀ b ∈ (a.map (·.block)).toList, NoB w b := fun b hb C z hc => by
  rcases h.2 with ⟨rfl, _⟩ | ⟨g, off, cur, rfl, h1, _⟩
  · cases hb
  · simp at hb
    subst hb
    rw [h1] at hc
    injection hc with hc
    injection hc with _ hc
    exact ht hc
theorem PIn.growT {w w' : World} {h0 h1 e0 e1 : Hd} {wa ta a' : Option Addr} {wc tc c' n' : Nat} {ws ts ys : List HS} {w0 w1 d0 d1 : Pgl} {rows : Nat} {busy : Bool} {paper : Nat} {waiting tray L : List Sht} {mode : Nat}
    (h : PIn w ⟨h0, h1, e0, e1, wa, wc, ws, ta, tc, ts⟩ ⟨w0, w1, d0, d1, rows, busy, paper, waiting, tray, mode⟩) (hg : w.grownBy w' (ta.map (·.block))) (hq : Que w' 29 2 a' n' c' ((ts ++ ys).flatMap shc)) (hn : n' = (tray ++ L).length)
    (hs : Shs w ys L) (hk : ∀ b ∈ blk a', b ∈ blk ta ∨ w.heap.size ≤ b) (hsep : ∀ b ∈ hb e0 ++ hb e1, b ∉ hbs ys) :
    PIn w' ⟨h0, h1, e0, e1, wa, wc, ws, a', c', ts ++ ys⟩ ⟨w0, w1, d0, d1, rows, busy, paper, waiting, tray ++ L, mode⟩ := by
  subst hn
  have hf : Fr (blk ta) w w' := Fr.ofGrown hg
  have hnb : ∀ b ∈ blk ta, NoB w b := que_nobs h.tq (by decide)
  have ht : ∀ {x : Hd} {p : Pgl}, Tab w x p → Tab w' x p := fun t => t.fr hf hnb (fun b hm hm2 => t.neq h.tq (by decide) b hm2 hm)
  have hs' : ∀ {ws : List HS} {L : List Sht}, Shs w ws L → Shs w' ws L := fun {ws L} s => ⟨s.len, fun i x y h1 h2 => ⟨ht (s.get i x y h1 h2).1, ht (s.get i x y h1 h2).2⟩⟩
  refine ⟨h.wq.same fun b hm => hf.block b (h.wq.lt b hm) (h.wn b hm), hq, fun b hm hm2 => ?_, hs' h.ww, (hs' h.tt).append (hs' hs), ht h.t0, ht h.t1, ht h.f0, ht h.f1, fun b hm => ?_, h.sd⟩
  · rcases hk b hm2 with h2 | h2
    · exact h.wn b hm h2
    · have := h.wq.lt b hm
      omega
  · obtain ⟨k1, k2, k3, k4⟩ := h.sw b hm
    refine ⟨k1, fun hm2 => ?_, k3, k4⟩
    rw [hbs_append] at hm2
    rcases List.mem_append.1 hm2 with h2 | h2
    · exact k2 h2
    · exact hsep b hm h2
theorem PIn.growW {w w' : World} {h0 h1 e0 e1 : Hd} {wa ta a' : Option Addr} {wc tc c' n' : Nat} {ws ts ys : List HS} {w0 w1 d0 d1 : Pgl} {rows : Nat} {busy : Bool} {paper : Nat} {waiting tray L : List Sht} {mode : Nat}
    (h : PIn w ⟨h0, h1, e0, e1, wa, wc, ws, ta, tc, ts⟩ ⟨w0, w1, d0, d1, rows, busy, paper, waiting, tray, mode⟩) (hg : w.grownBy w' (wa.map (·.block))) (hq : Que w' 29 2 a' n' c' ((ws ++ ys).flatMap shc)) (hn : n' = (waiting ++ L).length)
    (hs : Shs w ys L) (hk : ∀ b ∈ blk a', b ∈ blk wa ∨ w.heap.size ≤ b) (hsep : ∀ b ∈ hb e0 ++ hb e1, b ∉ hbs ys) :
    PIn w' ⟨h0, h1, e0, e1, a', c', ws ++ ys, ta, tc, ts⟩ ⟨w0, w1, d0, d1, rows, busy, paper, waiting ++ L, tray, mode⟩ := by
  subst hn
  have hf : Fr (blk wa) w w' := Fr.ofGrown hg
  have hnb : ∀ b ∈ blk wa, NoB w b := que_nobs h.wq (by decide)
  have ht : ∀ {x : Hd} {p : Pgl}, Tab w x p → Tab w' x p := fun t => t.fr hf hnb (fun b hm hm2 => t.neq h.wq (by decide) b hm2 hm)
  have hs' : ∀ {ws : List HS} {L : List Sht}, Shs w ws L → Shs w' ws L := fun {ws L} s => ⟨s.len, fun i x y h1 h2 => ⟨ht (s.get i x y h1 h2).1, ht (s.get i x y h1 h2).2⟩⟩
  refine ⟨hq, h.tq.same fun b hm => hf.block b (h.tq.lt b hm) (fun hm2 => h.wn b hm2 hm), fun b hm hm2 => ?_, (hs' h.ww).append (hs' hs), hs' h.tt, ht h.t0, ht h.t1, ht h.f0, ht h.f1, fun b hm => ?_, h.sd⟩
  · rcases hk b hm with h2 | h2
    · exact h.wn b h2 hm2
    · have := h.tq.lt b hm2
      omega
  · obtain ⟨k1, k2, k3, k4⟩ := h.sw b hm
    refine ⟨fun hm2 => ?_, k2, k3, k4⟩
    rw [hbs_append] at hm2
    rcases List.mem_append.1 hm2 with h2 | h2
    · exact k1 h2
    · exact hsep b hm h2
section
variable {w : World} {ops : Array Oper} {rest : List Oper} {o : Oper} {act : Act} {Q : Exit → Act → World → Prop}
/-- 'append(q, s...)' on sheets -/
theorem app_q (hg : o.guard = none) (s x : Operand) (hop : o.op = Op.call { callee := Callee.builtin Builtin.append, args := #[s, x], argTypes := #[25, 25] })
    (a : Option Addr) (n c : Nat) (xs : List HS) (hs : act.eval s = .slice a n c) (hown : Que w 29 2 a n c (xs.flatMap shc))
    (a2 : Option Addr) (m c2 : Nat) (ys : List HS) (zs : List Value) (hz : ys.flatMap shc = zs) (hx : act.eval x = .slice a2 m c2) (hy : Sl w 2 a2 m c2 zs) (hn : n + m ≤ 1000000)
    (hK : ∀ a' c' w', Que w' 29 2 a' (n + m) c' ((xs ++ ys).flatMap shc) → w.grownBy w' (a.map (·.block)) → (∀ b ∈ blk a', b ∈ blk a ∨ w.heap.size ≤ b) → wpList Try.prog ops Q rest (act.put o.dst (.slice a' (n + m) c')) w') :
    wpList Try.prog ops Q (o :: rest) act w := by
  subst hz
  refine append_que hg s x 25 hop 29 (.agg #[.slice none 0 0, .slice none 0 0]) 2 48 Try.underlying25 info_sheet rfl a n c _ hs hown a2 m c2 _ hx hy (one_flat shc_one _) (by omega) (by unfold maxLen; omega) ?_
  intro a' c' w' ho hgr hb
  refine hK a' c' w' ?_ hgr hb
  rw [List.flatMap_append]
  exact ho
end
def layP (S : Pr) : Pr := ⟨[], [], [], [], 0, false, S.paper, S.waiting, S.tray ++ [(S.d0, S.d1)], S.mode⟩
theorem foot_lay {g : Nat} {h0 h1 e0 e1 : Hd} {wa ta a' : Option Addr} {wc tc c' : Nat} {ws ts : List HS} {Z : Nat → Prop} (ha : ∀ b ∈ blk a', b ∈ blk ta ∨ Z b) :
    ∀ b ∈ pfoot g ⟨nilH, nilH, nilH, nilH, wa, wc, ws, a', c', ts ++ [(e0, e1)]⟩, b ∈ pfoot g ⟨h0, h1, e0, e1, wa, wc, ws, ta, tc, ts⟩ ∨ Z b := by
  intro b hm
  simp only [pfoot, mutB, List.mem_append, List.mem_cons, hbs_append, hbs_one] at hm ⊢
  rcases hm with (h | ((h | h) | h) | h) | ((h | h | h | h) | h) | h
  · simp [h]
  · simp [h]
  · rcases ha b h with h | h <;> simp [h]
  · cases h
  · cases h
  · simp [h]
  · simp [h]
  · simp [h]
  · simp [h]
  · cases h
  · cases h
end Go.Proofs.Ytdeknimelkdaeaa
end

/- the text P8 -/
section
/- Chapter 35: lay. -/
set_option linter.unusedVariables false
namespace Go.Proofs.Ytdeknimelkdaeaa
open Go.RowKit Go.Dx Go.Al
theorem PAt.ne_t {w : World} {g : Nat} {m : PM} {S : Pr} (h : PAt w g m S) : ∀ b, some b = m.ta.map (·.block) → b ≠ g := fun b hb e => by
  subst e
  rcases h.inn.tq.2 with ⟨h1, _⟩ | ⟨g', off, cur, h1, h2, _⟩
  · rw [h1] at hb; cases hb
  · rw [h1] at hb
    injection hb with hb
    have hb' : b = g' := hb
    subst hb'
    have h3 : w.heap[b]? = _ := h.box
    rw [h3] at h2
    injection h2 with h2
    injection h2 with _ h2
    exact absurd h2 (by decide)
theorem PAt.ne_w {w : World} {g : Nat} {m : PM} {S : Pr} (h : PAt w g m S) : ∀ b, some b = m.wa.map (·.block) → b ≠ g := fun b hb e => by
  subst e
  rcases h.inn.wq.2 with ⟨h1, _⟩ | ⟨g', off, cur, h1, h2, _⟩
  · rw [h1] at hb; cases hb
  · rw [h1] at hb
    injection hb with hb
    have hb' : b = g' := hb
    subst hb'
    have h3 : w.heap[b]? = _ := h.box
    rw [h3] at h2
    injection h2 with h2
    injection h2 with _ h2
    exact absurd h2 (by decide)
theorem Mv.grown' {w w1 w2 : World} {S S1 : List Nat} {row : Option Nat} (h : Mv w w1 S S1) (k : w1.grownBy w2 row) (hr : ∀ b, row = some b → b ∈ S) : Mv w w2 S S1 :=
  ⟨h.fr.grown k (fun b hb => .inl (hr b hb)), h.sub⟩
set_option maxHeartbeats 4000000 in
theorem pr_lay (g : Nat) (m : PM) (S : Pr) (w : World) (h : PAt w g m S) (hp : S.tray.length ≤ 10000) :
    Calls Try.prog 41 #[.pointer (some ⟨g, 0, none⟩)] w fun e w' => e = .returned (.tuple #[]) ∧ ∃ m', PAt w' g m' (layP S) ∧ Mv w w' (pfoot g m) (pfoot g m') := by
  obtain ⟨M0, hM0⟩ : ∃ M0, Hid (m = M0) := ⟨_, hide rfl⟩
  have MV := hide (Mv.refl w (pfoot g m))
  rw [hM0.out] at MV
  obtain ⟨⟨a0, n0, c0⟩, ⟨a1, n1, c1⟩, ⟨a2, n2, c2⟩, ⟨a3, n3, c3⟩, wa, wc, ws, ta, tc, ts⟩ := m
  obtain ⟨w0, w1, d0, d1, rows, busy, paper, waiting, tray, mode⟩ := S
  obtain ⟨N, hN⟩ : ∃ N, Hid (tray.length = N) := ⟨_, hide rfl⟩
  have hNl : N ≤ 10000 := by rw [← hN.out]; exact hp
  clear hp
  have H := hide h
  clear h
  have X : Box w g 76 [.slice a0 n0 c0, .slice a1 n1 c1, .slice a2 n2 c2, .slice a3 n3 c3, .int .i64 (rows : Int), .bool busy, .int .i64 (paper : Int), .slice wa waiting.length wc, .slice ta N tc, stv mode] := by
    have h1 := H.out.box
    rw [← hN.out]
    exact h1
  have cc2 := X.at_ (j := 2) rfl
  have cc3 := X.at_ (j := 3) rfl
  have cc8 := X.at_ (j := 8) rfl
  go_enter Try.func41, Try.ntmps41
  go_wp2_with fail
  refine wp_region_mid 12 (fun w' => w'.cell? ⟨g, 8, none⟩ = some (.slice ta N tc) ∧ w'.cell? ⟨g, 2, none⟩ = some (.slice a2 n2 c2) ∧ w'.cell? ⟨g, 3, none⟩ = some (.slice a3 n3 c3)) (fun w' => w'.cell? ⟨g, 8, none⟩ = some (.slice ta N tc) ∧ w'.cell? ⟨g, 2, none⟩ = some (.slice a2 n2 c2) ∧ w'.cell? ⟨g, 3, none⟩ = some (.slice a3 n3 c3)) ⟨11, 13, [13], fun vs w' => ∃ w7 a' c', vs = [.slice a' (N + 1) c'] ∧ Below w.heap.size w w7 ∧ Que w' 29 2 a' (N + 1) c' ((ts ++ [((a2, n2, c2), (a3, n3, c3))]).flatMap shc) ∧ w7.grownBy w' (ta.map (·.block)) ∧ (∀ b ∈ blk a', b ∈ blk ta ∨ w7.heap.size ≤ b)⟩ [⟨10, 12, [12], fun vs w' => ∃ b, vs = [.slice (some ⟨b, 0, none⟩) 1 1] ∧ w.heap.size ≤ b ∧ Sl w' 2 (some ⟨b, 0, none⟩) 1 1 [.slice a2 n2 c2, .slice a3 n3 c3]⟩] [⟨0, 2, [2], fun vs _ => vs = [.pointer (some ⟨g, 0, none⟩)]⟩, ⟨1, 3, [3], fun vs _ => vs = [.pointer (some ⟨g, 0, none⟩)]⟩, ⟨2, 4, [4], fun vs _ => vs = [.pointer (some ⟨g, 0, none⟩)]⟩, ⟨3, 5, [5], fun vs _ => vs = [.pointer (some ⟨g, 8, none⟩)]⟩, ⟨4, 6, [6], fun vs _ => vs = [.slice ta N tc]⟩, ⟨5, 7, [7], fun vs _ => vs = [.pointer (some ⟨g, 0, none⟩)]⟩, ⟨6, 8, [8], fun vs _ => vs = [.pointer (some ⟨g, 0, none⟩)]⟩, ⟨7, 9, [9], fun vs _ => vs = [.pointer (some ⟨g, 0, none⟩)]⟩, ⟨8, 10, [10], fun vs _ => vs = [.pointer (some ⟨g, 2, none⟩)]⟩, ⟨9, 11, [11], fun vs _ => vs = [.agg #[.slice a2 n2 c2, .slice a3 n3 c3]]⟩] (by kernel_rfl) (by kernel_rfl) ?_ ?_ ?_ ?_ ?_ ?_ ?_
  · exact fun w' hb => ⟨cell_blw cc8 hb, cell_blw cc2 hb, cell_blw cc3 hb⟩
  · exact fun _ h => h
  · simp only [All, List.cons_append, List.nil_append]
    refine ⟨?_, fun _ _ _ _ h => h, fun _ _ _ _ h => h, fun _ _ _ _ h => h, fun _ _ _ _ h => h, fun _ _ _ _ h => h, fun _ _ _ _ h => h, fun _ _ _ _ h => h, fun _ _ _ _ h => h, fun _ _ _ _ h => h, fun _ _ _ _ h => h, trivial⟩
    · rintro vs w w' hb ⟨b, h1, h0, h2⟩
      exact ⟨b, h1, h0, h2.below hb⟩
  · intro o ho a' w' hb hfr hdep
    obtain rfl := Option.some.inj ho
    have g6 : a'.tmps[6]?.getD undef = .slice ta N tc := by have h := hdep 6 _ rfl (by kernel_rfl); simpa using h
    obtain ⟨gB, g12, l12, s12⟩ := hdep 1 _ rfl (by kernel_rfl)
    simp at g12
    clear ho hfr hdep
    have hq5 : Que w' 29 2 ta N tc (ts.flatMap shc) := by rw [← hN.out]; exact (H.out.inn.below hb).tq
    refine app_q rfl _ _ rfl ta N tc ts (by show a'.tmps.getD 6 undef = _; simpa using g6) hq5 (some ⟨gB, 0, none⟩) 1 1 [((a2, n2, c2), (a3, n3, c3))] _ rfl (by show a'.tmps.getD 12 undef = _; simpa using g12) s12 (by omega) ?_
    intro a8 c8 w8 hq8 hg8 hk8
    have X8 := (X.under hb).grown hg8 (fun e => H.out.ne_t g e rfl)
    go_wp2_with fail
    refine ⟨rfl, _, rfl, ⟨w', a8, c8, rfl, hb, by simpa using hq8, hg8, hk8⟩, ⟨X8.at_ (j := 8) rfl, X8.at_ (j := 2) rfl, X8.at_ (j := 3) rfl⟩, ?_⟩
    simp only [All]
    refine ⟨?_, fun _ h => h, fun _ h => h, fun _ h => h, fun _ h => h, fun _ h => h, fun _ h => h, fun _ h => h, fun _ h => h, fun _ h => h, fun _ h => h, trivial⟩
    rintro vs ⟨b, h1, h0, h2⟩
    refine ⟨b, h1, h0, h2.grown hg8 (fun q hq e0 => ?_)⟩
    cases hq
    have := H.out.inn.tq.lt b (by rw [show ta.map (·.block) = some b from e0.symm]; simp)
    omega
  · simp only [All]
    refine ⟨?_, trivial⟩
    · intro o ho a' w' hb hfr hdep
      obtain rfl := Option.some.inj ho
      have g11 : a'.tmps[11]?.getD undef = .agg #[.slice a2 n2 c2, .slice a3 n3 c3] := by have h := hdep 11 _ rfl (by kernel_rfl); simpa using h
      clear ho hfr hdep
      refine build_sheet 12 _ _ _ (by show a'.tmps.getD 11 undef = _; simpa using g11) ?_
      exact ⟨rfl, _, rfl, sblo _ _, _, rfl, hb.size, Sl.fresh _ _ 2 1 [.slice a2 n2 c2, .slice a3 n3 c3] rfl (by decide)⟩
  · simp only [All]
    refine ⟨?_, ?_, ?_, ?_, ?_, ?_, ?_, ?_, ?_, ?_, trivial⟩
    · intro o ho a' w' hb hfr hdep
      obtain rfl := Option.some.inj ho
      have g0 : a'.tmps[0]?.getD undef = .pointer (some ⟨g, 0, none⟩) := by have h := hfr 0 (by kernel_rfl); simpa using h
      clear ho hfr hdep
      go_wp2_with fail
      exact ⟨rfl, _, rfl, rfl, rfl⟩
    · intro o ho a' w' hb hfr hdep
      obtain rfl := Option.some.inj ho
      have g0 : a'.tmps[0]?.getD undef = .pointer (some ⟨g, 0, none⟩) := by have h := hfr 0 (by kernel_rfl); simpa using h
      clear ho hfr hdep
      go_wp2_with fail
      exact ⟨rfl, _, rfl, rfl, rfl⟩
    · intro o ho a' w' hb hfr hdep
      obtain rfl := Option.some.inj ho
      have g3 : a'.tmps[3]?.getD undef = .pointer (some ⟨g, 0, none⟩) := by have h := hdep 3 _ rfl (by kernel_rfl); simpa using h
      clear ho hfr hdep
      go_wp2_with fail
      exact ⟨rfl, _, rfl, rfl, rfl⟩
    · intro o ho a' w' hb hfr hdep
      obtain rfl := Option.some.inj ho
      have g4 : a'.tmps[4]?.getD undef = .pointer (some ⟨g, 0, none⟩) := by have h := hdep 4 _ rfl (by kernel_rfl); simpa using h
      clear ho hfr hdep
      go_wp2_with fail
      exact ⟨rfl, _, rfl, rfl, rfl⟩
    · intro o ho a' w' hb hfr hdep
      obtain rfl := Option.some.inj ho
      have g5 : a'.tmps[5]?.getD undef = .pointer (some ⟨g, 8, none⟩) := by have h := hdep 5 _ rfl (by kernel_rfl); simpa using h
      clear ho hfr hdep
      have hcl := hb.1
      go_wp2_with fail
      exact ⟨rfl, _, rfl, rfl, rfl⟩
    · intro o ho a' w' hb hfr hdep
      obtain rfl := Option.some.inj ho
      have g0 : a'.tmps[0]?.getD undef = .pointer (some ⟨g, 0, none⟩) := by have h := hfr 0 (by kernel_rfl); simpa using h
      clear ho hfr hdep
      go_wp2_with fail
      exact ⟨rfl, _, rfl, rfl, rfl⟩
    · intro o ho a' w' hb hfr hdep
      obtain rfl := Option.some.inj ho
      have g7 : a'.tmps[7]?.getD undef = .pointer (some ⟨g, 0, none⟩) := by have h := hdep 7 _ rfl (by kernel_rfl); simpa using h
      clear ho hfr hdep
      go_wp2_with fail
      exact ⟨rfl, _, rfl, rfl, rfl⟩
    · intro o ho a' w' hb hfr hdep
      obtain rfl := Option.some.inj ho
      have g8 : a'.tmps[8]?.getD undef = .pointer (some ⟨g, 0, none⟩) := by have h := hdep 8 _ rfl (by kernel_rfl); simpa using h
      clear ho hfr hdep
      go_wp2_with fail
      exact ⟨rfl, _, rfl, rfl, rfl⟩
    · intro o ho a' w' hb hfr hdep
      obtain rfl := Option.some.inj ho
      have g9 : a'.tmps[9]?.getD undef = .pointer (some ⟨g, 0, none⟩) := by have h := hdep 9 _ rfl (by kernel_rfl); simpa using h
      clear ho hfr hdep
      go_wp2_with fail
      exact ⟨rfl, _, rfl, rfl, rfl⟩
    · intro o ho a' w' hb hfr hdep
      obtain rfl := Option.some.inj ho
      have g10 : a'.tmps[10]?.getD undef = .pointer (some ⟨g, 2, none⟩) := by have h := hdep 10 _ rfl (by kernel_rfl); simpa using h
      clear ho hfr hdep
      refine load_sheet2 11 _ g 2 3 (by show a'.tmps.getD 10 undef = _; simpa using g10) _ _ hb.2.1 hb.2.2 rfl ?_
      exact ⟨rfl, _, rfl, rfl, rfl⟩
  · intro g0 w6 hG hp'
    obtain ⟨w5, a', c', pA, hbl, hq6, hg6, hk6⟩ := hp' 0 _ rfl
    have pO := hp' 2 _ rfl
    clear hp' hG
    simp at pA pO
    simp only [List.drop_succ_cons, List.drop_zero, List.map_cons, List.map_nil, putAll, Act.put, List.setIfInBounds_toArray, List.set_cons_succ, List.set_cons_zero, List.cons_append, List.nil_append, pA, pO]
    clear pA pO
    have X5 : Box w5 g 76 [.slice a0 n0 c0, .slice a1 n1 c1, .slice a2 n2 c2, .slice a3 n3 c3, .int .i64 (rows : Int), .bool busy, .int .i64 (paper : Int), .slice wa waiting.length wc, .slice ta N tc, stv mode] := X.under hbl
    have I5 := hide ((H.out.inn.below hbl).clear (r' := 0) (m' := mode) (b' := false) (q' := paper))
    have f0 := H.out.inn.f0.below hbl
    have f1 := H.out.inn.f1.below hbl
    have MV5 := hide (MV.out.below hbl)
    go_wp2_with (with_reducible refine hold_store ?_)
    refine hide ?_
    have X6 := X5.grown hg6 (fun e => H.out.ne_t g e rfl)
    have I6 := I5.out.growT hg6 hq6 (L := [(d0, d1)]) (by rw [List.length_append, hN.out]; rfl) (Shs.one f0 f1) hk6 (fun b hb => by cases hb)
    have MV6 := hide (((MV5.out.less (S2 := pfoot g ⟨nilH, nilH, nilH, nilH, wa, wc, ws, a', c', ts ++ [((a2, n2, c2), (a3, n3, c3))]⟩) (by rw [← hM0.out]; exact foot_lay (fun b hm => by
      rcases hk6 b hm with h1 | h1
      · exact .inl h1
      · exact .inr (Nat.le_trans hbl.size h1)))).grown' hg6 (fun c hc => by rw [← hM0.out]; cases hta : ta with | none => rw [hta] at hc; cases hc | some q => rw [hta] at hc; simp at hc; subst hc; simp [pfoot, mutB, blk])))
    refine store_cell 25 _ _ 76 g 8 _ (.slice a' (N + 1) c') size_shs X6 rfl rfl rfl rfl (by show _ < 10; omega) ?_; intro w7 x7 g7 s7
    have I7 := hide (I6.put X6 rfl g7)
    have X7 : Box w7 g 76 [.slice a0 n0 c0, .slice a1 n1 c1, .slice a2 n2 c2, .slice a3 n3 c3, .int .i64 (rows : Int), .bool busy, .int .i64 (paper : Int), .slice wa waiting.length wc, .slice a' (N + 1) c', stv mode] := x7
    have MV7 := hide (MV6.out.grown g7 (fun c hc => by cases hc; simp [pfoot, mutB]))
    clear I5 f0 f1 MV5 X5 hq6 hk6 hg6 X6 I6 MV6 x7 g7 s7 hbl
    go_wp2_with (with_reducible refine hold_store ?_)
    refine hide ?_
    refine store_box 72 _ _ 76 g 0 _ [.slice none 0 0, .slice none 0 0, .slice none 0 0, .slice none 0 0, .int .i64 0, .bool false] _ size_work X7 rfl rfl rfl (by show 0 + 6 ≤ 10; omega) (by simp [Value.oneCell']) ?_; intro w8 x8 g8 s8
    have X8 : Box w8 g 76 [.slice none 0 0, .slice none 0 0, .slice none 0 0, .slice none 0 0, .int .i64 0, .bool false, .int .i64 (paper : Int), .slice wa waiting.length wc, .slice a' (N + 1) c', stv mode] := x8
    have I8 := hide (I7.out.put X7 rfl g8)
    have MV8 := MV7.out.grown g8 (fun c hc => by cases hc; simp [pfoot, mutB])
    clear x8 I7 MV7 X7
    go_wp2_with fail
    go_end0
    refine ⟨rfl, _, ⟨?_, I8.out⟩, by rw [← hM0.out] at MV8; exact MV8⟩
    have hl : (tray ++ [(d0, d1)]).length = N + 1 := by rw [List.length_append, hN.out]; rfl
    show Box w8 g _ [_, _, _, _, _, _, _, _, .slice a' (tray ++ [(d0, d1)]).length c', _]
    rw [hl]
    exact X8

end Go.Proofs.Ytdeknimelkdaeaa
end

/- the text P9 -/
section
/- Chapter 35: Clear, On. -/
set_option linter.unusedVariables false
namespace Go.Proofs.Ytdeknimelkdaeaa
open Go.RowKit Go.Dx Go.Al
theorem size_state : (Try.prog.info? 74).map (·.size) = some 1 := by kernel_rfl
theorem ta_jj (w : World) : (Instr.typeAssert (.iface 78 (.agg #[])) 74 78 true).run Try.prog w = .ok (.tuple #[.agg #[], .bool true]) w := by kernel_rfl
theorem ta_rj (w : World) : (Instr.typeAssert (.iface 70 (.agg #[])) 74 78 true).run Try.prog w = .ok (.tuple #[.agg #[], .bool false]) w := by kernel_rfl
theorem ta_oj (w : World) : (Instr.typeAssert (.iface 79 (.agg #[])) 74 78 true).run Try.prog w = .ok (.tuple #[.agg #[], .bool false]) w := by kernel_rfl
theorem ta_jo (w : World) : (Instr.typeAssert (.iface 78 (.agg #[])) 74 79 true).run Try.prog w = .ok (.tuple #[.agg #[], .bool false]) w := by kernel_rfl
theorem ta_ro (w : World) : (Instr.typeAssert (.iface 70 (.agg #[])) 74 79 true).run Try.prog w = .ok (.tuple #[.agg #[], .bool false]) w := by kernel_rfl
theorem ta_oo (w : World) : (Instr.typeAssert (.iface 79 (.agg #[])) 74 79 true).run Try.prog w = .ok (.tuple #[.agg #[], .bool true]) w := by kernel_rfl
def clearP (S : Pr) : Pr × Int := if S.mode = 1 then (⟨[], [], [], [], 0, false, S.paper, S.waiting, S.tray, 0⟩, 0) else (S, 8)
def onP (S : Pr) : Pr × Int := if S.mode = 2 then ({ layP S with mode := 0 }, 0) else (S, 8)
theorem foot_clear {g : Nat} {h0 h1 e0 e1 : Hd} {wa ta : Option Addr} {wc tc : Nat} {ws ts : List HS} {Z : Nat → Prop} :
    ∀ b ∈ pfoot g ⟨nilH, nilH, nilH, nilH, wa, wc, ws, ta, tc, ts⟩, b ∈ pfoot g ⟨h0, h1, e0, e1, wa, wc, ws, ta, tc, ts⟩ ∨ Z b := by
  intro b hm
  simp only [pfoot, mutB, List.mem_append, List.mem_cons] at hm ⊢
  rcases hm with (h | ((h | h) | h) | h) | ((h | h) | h) | h
  · simp [h]
  · simp [h]
  · simp [h]
  · cases h
  · cases h
  · simp [h]
  · simp [h]
  · cases h
  · cases h
set_option maxRecDepth 100000 in
set_option maxHeartbeats 4000000 in
theorem pr_Clear_1 (g : Nat) (m : PM) (S : Pr) (w : World) (h : PAt w g m S) (h1 : S.mode = 1) :
    Calls Try.prog 23 #[.pointer (some ⟨g, 0, none⟩)] w fun e w' => e = .returned (.int .i64 (clearP S).2) ∧ ∃ m', PAt w' g m' (clearP S).1 ∧ Mv w w' (pfoot g m) (pfoot g m') := by
  obtain ⟨M0, hM0⟩ : ∃ M0, Hid (m = M0) := ⟨_, hide rfl⟩
  have MV := hide (Mv.refl w (pfoot g m))
  rw [hM0.out] at MV
  obtain ⟨⟨a0, n0, c0⟩, ⟨a1, n1, c1⟩, ⟨a2, n2, c2⟩, ⟨a3, n3, c3⟩, wa, wc, ws, ta, tc, ts⟩ := m
  obtain ⟨w0, w1, d0, d1, rows, busy, paper, waiting, tray, mode⟩ := S
  obtain rfl : mode = 1 := h1
  have H := hide h
  clear h
  have X : Box w g 76 [.slice a0 n0 c0, .slice a1 n1 c1, .slice a2 n2 c2, .slice a3 n3 c3, .int .i64 (rows : Int), .bool busy, .int .i64 (paper : Int), .slice wa waiting.length wc, .slice ta tray.length tc, .iface 78 (.agg #[])] := H.out.box
  have cc9 := X.at_ (j := 9) rfl
  have hta := ta_jj
  go_enter Try.func23, Try.ntmps23
  go_wp2_with (with_reducible refine hold_store ?_)
  refine hide ?_
  have I0 := hide (H.out.inn.clear (r' := 0) (m' := 0) (b' := false) (q' := paper))
  refine store_box 72 _ _ 76 g 0 _ [.slice none 0 0, .slice none 0 0, .slice none 0 0, .slice none 0 0, .int .i64 0, .bool false] _ size_work X rfl rfl rfl (by show 0 + 6 ≤ 10; omega) (by simp [Value.oneCell']) ?_; intro w8 x8 g8 s8
  have X8 : Box w8 g 76 [.slice none 0 0, .slice none 0 0, .slice none 0 0, .slice none 0 0, .int .i64 0, .bool false, .int .i64 (paper : Int), .slice wa waiting.length wc, .slice ta tray.length tc, .iface 78 (.agg #[])] := x8
  have I8 := hide (I0.out.put X rfl g8)
  have MV8 := hide ((MV.out.less (S2 := pfoot g ⟨nilH, nilH, nilH, nilH, wa, wc, ws, ta, tc, ts⟩) (by rw [← hM0.out]; exact foot_clear)).grown g8 (fun c hc => by cases hc; simp [pfoot, mutB]))
  clear x8 I0 MV X H g8 s8 cc9
  go_wp2_with (with_reducible refine hold_store ?_)
  refine hide ?_
  refine store_cell 74 _ _ 76 g 9 _ (.iface 70 (.agg #[])) size_state X8 rfl rfl rfl rfl (by show _ < 10; omega) ?_; intro w9 x9 g9 s9
  have X9 : Box w9 g 76 [.slice none 0 0, .slice none 0 0, .slice none 0 0, .slice none 0 0, .int .i64 0, .bool false, .int .i64 (paper : Int), .slice wa waiting.length wc, .slice ta tray.length tc, .iface 70 (.agg #[])] := x9
  have I9 := hide (I8.out.put X8 rfl g9)
  have MV9 := hide (MV8.out.grown g9 (fun c hc => by cases hc; simp [pfoot, mutB]))
  clear x9 I8 MV8 X8 g9 s9
  go_wp2_with fail
  go_ret
  refine ⟨rfl, ⟨nilH, nilH, nilH, nilH, wa, wc, ws, ta, tc, ts⟩, ⟨X9, I9.out⟩, ?_⟩
  have := MV9.out
  rw [← hM0.out] at this
  exact this
set_option maxRecDepth 100000 in
set_option maxHeartbeats 4000000 in
theorem pr_Clear_0 (g : Nat) (m : PM) (S : Pr) (w : World) (h : PAt w g m S) (h1 : S.mode = 0) :
    Calls Try.prog 23 #[.pointer (some ⟨g, 0, none⟩)] w fun e w' => e = .returned (.int .i64 8) ∧ w' = w := by
  have cc9 : w.cell? ⟨g, 9, none⟩ = some (.iface 70 (.agg #[])) := by
    have h2 := h.box
    unfold pcells at h2
    rw [h1] at h2
    exact h2.at_ (j := 9) rfl
  clear h h1
  have hta := ta_rj
  go_enter Try.func23, Try.ntmps23
  go_wp2_with fail
  go_ret
  exact ⟨rfl, rfl⟩
set_option maxRecDepth 100000 in
set_option maxHeartbeats 4000000 in
theorem pr_Clear_2 (g : Nat) (m : PM) (S : Pr) (w : World) (h : PAt w g m S) (h1 : S.mode = 2) :
    Calls Try.prog 23 #[.pointer (some ⟨g, 0, none⟩)] w fun e w' => e = .returned (.int .i64 8) ∧ w' = w := by
  have cc9 : w.cell? ⟨g, 9, none⟩ = some (.iface 79 (.agg #[])) := by
    have h2 := h.box
    unfold pcells at h2
    rw [h1] at h2
    exact h2.at_ (j := 9) rfl
  clear h h1
  have hta := ta_oj
  go_enter Try.func23, Try.ntmps23
  go_wp2_with fail
  go_ret
  exact ⟨rfl, rfl⟩
set_option maxRecDepth 100000 in
set_option maxHeartbeats 4000000 in
theorem pr_On_0 (g : Nat) (m : PM) (S : Pr) (w : World) (h : PAt w g m S) (h1 : S.mode = 0) :
    Calls Try.prog 24 #[.pointer (some ⟨g, 0, none⟩)] w fun e w' => e = .returned (.int .i64 8) ∧ w' = w := by
  have cc9 : w.cell? ⟨g, 9, none⟩ = some (.iface 70 (.agg #[])) := by
    have h2 := h.box
    unfold pcells at h2
    rw [h1] at h2
    exact h2.at_ (j := 9) rfl
  clear h h1
  have hta := ta_ro
  go_enter Try.func24, Try.ntmps24
  go_wp2_with fail
  go_ret
  exact ⟨rfl, rfl⟩
set_option maxRecDepth 100000 in
set_option maxHeartbeats 4000000 in
theorem pr_On_1 (g : Nat) (m : PM) (S : Pr) (w : World) (h : PAt w g m S) (h1 : S.mode = 1) :
    Calls Try.prog 24 #[.pointer (some ⟨g, 0, none⟩)] w fun e w' => e = .returned (.int .i64 8) ∧ w' = w := by
  have cc9 : w.cell? ⟨g, 9, none⟩ = some (.iface 78 (.agg #[])) := by
    have h2 := h.box
    unfold pcells at h2
    rw [h1] at h2
    exact h2.at_ (j := 9) rfl
  clear h h1
  have hta := ta_jo
  go_enter Try.func24, Try.ntmps24
  go_wp2_with fail
  go_ret
  exact ⟨rfl, rfl⟩
theorem pr_Clear (g : Nat) (m : PM) (S : Pr) (w : World) (h : PAt w g m S) (h1 : S.mode ≤ 2) :
    Calls Try.prog 23 #[.pointer (some ⟨g, 0, none⟩)] w fun e w' => e = .returned (.int .i64 (clearP S).2) ∧ ∃ m', PAt w' g m' (clearP S).1 ∧ Mv w w' (pfoot g m) (pfoot g m') := by
  have h2 : S.mode = 0 ∨ S.mode = 1 ∨ S.mode = 2 := by omega
  rcases h2 with h2 | h2 | h2
  · refine (pr_Clear_0 g m S w h h2).mono ?_
    rintro e w' ⟨rfl, rfl⟩
    have : clearP S = (S, 8) := by unfold clearP; rw [h2]; rfl
    rw [this]
    exact ⟨rfl, m, h, Mv.refl _ _⟩
  · exact pr_Clear_1 g m S w h h2
  · refine (pr_Clear_2 g m S w h h2).mono ?_
    rintro e w' ⟨rfl, rfl⟩
    have : clearP S = (S, 8) := by unfold clearP; rw [h2]; rfl
    rw [this]
    exact ⟨rfl, m, h, Mv.refl _ _⟩
set_option maxRecDepth 100000 in
set_option maxHeartbeats 4000000 in
theorem pr_On_2 (g : Nat) (m : PM) (S : Pr) (w : World) (h : PAt w g m S) (h1 : S.mode = 2) (hp : S.tray.length ≤ 10000) :
    Calls Try.prog 24 #[.pointer (some ⟨g, 0, none⟩)] w fun e w' => e = .returned (.int .i64 (onP S).2) ∧ ∃ m', PAt w' g m' (onP S).1 ∧ Mv w w' (pfoot g m) (pfoot g m') := by
  have cc9 : w.cell? ⟨g, 9, none⟩ = some (.iface 79 (.agg #[])) := by
    have h2 := h.box
    unfold pcells at h2
    rw [h1] at h2
    exact h2.at_ (j := 9) rfl
  have hta := ta_oo
  have hlay := hide (pr_lay g m S w h hp)
  have HO : Hid (onP S = ({ layP S with mode := 0 }, 0)) := hide (by unfold onP; rw [if_pos h1])
  clear h h1 hp
  go_enter Try.func24, Try.ntmps24
  go_wp2_with (go_at_call 41; refine hlay.out.mono ?_; rintro e w2 ⟨rfl, m2, A2, MV2⟩; refine hold ?_)
  refine hide ?_
  clear cc9 hta hlay
  obtain ⟨⟨a0, n0, c0⟩, ⟨a1, n1, c1⟩, ⟨a2, n2, c2⟩, ⟨a3, n3, c3⟩, wa, wc, ws, ta, tc, ts⟩ := m2
  have H := hide A2
  clear A2
  have hM2 := hide MV2
  clear MV2
  go_wp2_with (with_reducible refine hold_store ?_)
  refine hide ?_
  have X8 := H.out.box
  refine store_cell 74 _ _ 76 g 9 _ (.iface 70 (.agg #[])) size_state X8 rfl rfl rfl rfl (by show _ < 10; omega) ?_; intro w9 x9 g9 s9
  have X9 := hide x9
  have I9 := hide (H.out.inn.put X8 rfl g9)
  have MV9 := hide (hM2.out.grown g9 (fun c hc => by cases hc; simp [pfoot, mutB]))
  clear x9 X8 g9 s9 H hM2
  go_wp2_with fail
  go_ret
  rw [HO.out]
  exact ⟨rfl, _, ⟨X9.out, I9.out.nums⟩, MV9.out⟩
theorem pr_On (g : Nat) (m : PM) (S : Pr) (w : World) (h : PAt w g m S) (h1 : S.mode ≤ 2) (hp : S.tray.length ≤ 10000) :
    Calls Try.prog 24 #[.pointer (some ⟨g, 0, none⟩)] w fun e w' => e = .returned (.int .i64 (onP S).2) ∧ ∃ m', PAt w' g m' (onP S).1 ∧ Mv w w' (pfoot g m) (pfoot g m') := by
  have h2 : S.mode = 0 ∨ S.mode = 1 ∨ S.mode = 2 := by omega
  rcases h2 with h2 | h2 | h2
  · refine (pr_On_0 g m S w h h2).mono ?_
    rintro e w' ⟨rfl, rfl⟩
    have : onP S = (S, 8) := by unfold onP; rw [h2]; rfl
    rw [this]
    exact ⟨rfl, m, h, Mv.refl _ _⟩
  · refine (pr_On_1 g m S w h h2).mono ?_
    rintro e w' ⟨rfl, rfl⟩
    have : onP S = (S, 8) := by unfold onP; rw [h2]; rfl
    rw [this]
    exact ⟨rfl, m, h, Mv.refl _ _⟩
  · exact pr_On_2 g m S w h h2 hp
end Go.Proofs.Ytdeknimelkdaeaa
end

/- the text P10 -/
section
/- Chapter 35: Out. -/
set_option linter.unusedVariables false
namespace Go.Proofs.Ytdeknimelkdaeaa
open Go.RowKit Go.Dx Go.Al
section
variable {w : World} {ops : Array Oper} {rest : List Oper} {o : Oper} {act : Act} {Q : Exit → Act → World → Prop} {ty : TypeId} {pos : String} {after : Array Edge}
theorem app_sheetS (hg : o.guard = none) (s x : Operand) (hop : o.op = Op.call { callee := Callee.builtin Builtin.append, args := #[s, x], argTypes := #[25, 25] })
    (w0 : World) (B : Nat) (a : Option Addr) (n c : Nat) (xs : List HS) (hs : act.eval s = .slice a n c) (hown : Own w B 29 2 a n c (xs.flatMap shc))
    (y : HS) (a2 : Option Addr) (c2 : Nat) (hx : act.eval x = .slice a2 1 c2) (hy : Sl w 2 a2 1 c2 (shc y)) (hn : n ≤ 1000000) (hB : B ≤ w.heap.size) (hbel : Below B w0 w)
    (hK : ∀ a' c' w', Own w' B 29 2 a' (n + 1) c' ((xs ++ [y]).flatMap shc) → w.grownBy w' (a.map (·.block)) → Below B w0 w' → wpList Try.prog ops Q rest (act.put o.dst (.slice a' (n + 1) c')) w') :
    wpList Try.prog ops Q (o :: rest) act w := by
  refine append_own hg s x 25 hop 29 (.agg #[.slice none 0 0, .slice none 0 0]) 2 48 Try.underlying25 info_sheet rfl w0 B a n c _ hs hown a2 1 c2 (shc y) hx hy (shc_one y) (by omega) (by unfold maxLen; omega) hB hbel ?_
  intro a' c' w' h1 h2 h3
  exact hK a' c' w' (by rw [List.flatMap_append]; simpa using h1) h2 h3
end
/-- a page just copied -/
def CopF (B : Nat) (p : Pgl) (vs : List Value) (w' : World) : Prop := ∃ x : Hd, vs = [hv x] ∧ Tab w' x p ∧ (∀ b ∈ hb x, B ≤ b)
def BldF (B : Nat) (s : Sht) (vs : List Value) (w' : World) : Prop := ∃ x y : Hd, vs = [.agg #[hv x, hv y]] ∧ (Tab w' x s.1 ∧ (∀ b ∈ hb x, B ≤ b)) ∧ Tab w' y s.2 ∧ (∀ b ∈ hb y, B ≤ b)
def ShF (B : Nat) (s : Sht) (vs : List Value) (w' : World) : Prop := ∃ (gB : Nat) (x y : Hd), vs = [.slice (some ⟨gB, 0, none⟩) 1 1] ∧ Sl w' 2 (some ⟨gB, 0, none⟩) 1 1 [hv x, hv y] ∧ (Tab w' x s.1 ∧ (∀ b ∈ hb x, B ≤ b)) ∧ Tab w' y s.2 ∧ (∀ b ∈ hb y, B ≤ b)
set_option maxHeartbeats 4000000 in
theorem pr_Out (g : Nat) (m : PM) (S : Pr) (w : World) (h : PAt w g m S) (hc : ∀ s ∈ S.tray, Cp s.1 ∧ Cp s.2) (hn : S.tray.length ≤ 10000) :
    Calls Try.prog 18 #[.pointer (some ⟨g, 0, none⟩)] w fun e w' => ∃ a' c' ws, e = .returned (.slice a' S.tray.length c') ∧ Shn w' w.heap.size a' S.tray.length c' ws S.tray ∧ Below w.heap.size w w' := by
  obtain ⟨hs0, hs1, e0, e1, wa, wc, wsw, ta, tc, ts⟩ := m
  obtain ⟨w0, w1, d0, d1, rows, busy, paper, waiting, tray, mode⟩ := S
  have c8 : w.cell? ⟨g, 8, none⟩ = some (.slice ta tray.length tc) := h.box.at_ rfl
  have HT : Hid (Shs w ts tray) := hide h.inn.tt
  have HQ := hide h.inn.tq.sl
  simp only at hc hn HQ
  clear h
  obtain ⟨N, hN⟩ : ∃ N, Hid (tray.length = N) := ⟨_, hide rfl⟩
  rw [hN.out] at hn c8 HQ
  simp only [hN.out]
  go_enter Try.func18, Try.ntmps18
  go_wp2_with fail
  go_loopg [3, 13] N (fun gh o i w' => ∃ (k : Nat) (a' : Option Addr) (c' : Nat) (ws : List HS), k ≤ N ∧ gh = N - k ∧ i = .int .i64 (k : Int) ∧ o = .slice a' k c' ∧ Shn w' w.heap.size a' k c' ws (tray.take k) ∧ Below w.heap.size w w')
  case atStart => exact ⟨0, none, 0, [], by omega, by omega, rfl, rfl, Shn.nil _ _, Below.refl _ _⟩
  case round =>
    obtain ⟨k, aq, c', ws, hk, hg, rfl, rfl, hS, hbw⟩ := hrel
    have HG := hide hg
    have HS' := hide hS
    clear hg hS
    by_cases hkl : k < N
    · obtain ⟨s, hs⟩ : ∃ s, tray[k]? = some s := ⟨tray[k]'(by rw [hN.out]; exact hkl), by simp⟩
      obtain ⟨x, hx⟩ : ∃ x, ts[k]? = some x := ⟨ts[k]'(by rw [HT.out.len, hN.out]; exact hkl), by simp⟩
      have htab := HT.out.get k x s hx hs
      obtain ⟨⟨a0, n0, c0⟩, ⟨a1, n1, c1⟩⟩ := x
      obtain ⟨r0, hp0⟩ := htab.1.pg
      obtain ⟨r1, hp1⟩ := htab.2.pg
      have hcc := hc s (List.mem_of_getElem? hs)
      have hcp0 := hide (fun (w1 : World) (hb1 : Below w.heap.size w w1) => pr_copied s.1 r0 a0 n0 c0 w1 (hp0.below hb1) hcc.1.1 hcc.1.2)
      have hcp1 := hide (fun (w1 : World) (hb1 : Below w.heap.size w w1) => pr_copied s.2 r1 a1 n1 c1 w1 (hp1.below hb1) hcc.2.1 hcc.2.2)
      have HX := hide hs
      have HY := hide hx
      have hsh : shc ((a0, n0, c0), (a1, n1, c1)) = [.slice a0 n0 c0, .slice a1 n1 c1] := rfl
      clear hs hx htab hp0 hp1 hcc
      have HQr := HQ.out.below hbw
      have hBr := Below.refl wr.heap.size wr
      go_wp2_with (first
        | (with_reducible refine idx_sh 15 _ _ _ _ _ ts rfl HQr _ _ k rfl rfl _ HY.out _ _ hsh ?_; intro bb oo hcc0 hcc1 hbb)
        | (with_reducible refine load_sheet2 16 _ bb oo (oo + 1) rfl (.slice a0 n0 c0) (.slice a1 n1 c1) hcc0 hcc1 rfl ?_)
        | (with_reducible refine hold_store ?_))
      refine hide ?_
      refine store_fresh 29 29 _ _ 2 size_sheet _ rfl _ [.slice a0 n0 c0, .slice a1 n1 c1] rfl rfl rfl rfl (by simp [Value.oneCell']) ?_
      have hx5 := Box.new wr 29 #[.slice a0 n0 c0, .slice a1 n1 c1]
      have hb5 : Below wr.heap.size wr (wr.alloc (.cells [.slice a0 n0 c0, .slice a1 n1 c1].toArray 29)) := sblo wr _
      generalize wr.alloc (.cells [Value.slice a0 n0 c0, .slice a1 n1 c1].toArray 29) = w5 at hx5 hb5 ⊢
      obtain ⟨g5, hg5⟩ : ∃ g, Hid (wr.heap.size = g) := ⟨_, hide rfl⟩
      rw [hg5.out] at hx5 ⊢
      have q0 : w5.cell? ⟨g5, 0, none⟩ = some (.slice a0 n0 c0) := hx5.at_ (j := 0) rfl
      have q1 : w5.cell? ⟨g5, 1, none⟩ = some (.slice a1 n1 c1) := hx5.at_ (j := 1) rfl
      have hbw5 : Below w.heap.size w w5 := hbw.trans (hb5.mono hbw.size)
      have hS5 := hide (HS'.out.below hb5)
      clear hx5 hb5 HS' HQr hcc0 hcc1 hbb hBr
      go_wp2_with fail
      refine wp_region_free 9 [⟨0, 17, [17], fun vs _ => vs = [.slice aq k c']⟩, ⟨1, 18, [18], fun vs _ => vs = [.pointer (some ⟨g5, 0, none⟩)]⟩, ⟨2, 19, [19], fun vs _ => vs = [.slice a0 n0 c0]⟩, ⟨3, 20, [20], CopF w.heap.size (s.1)⟩, ⟨4, 21, [21], fun vs _ => vs = [.pointer (some ⟨g5, 1, none⟩)]⟩, ⟨5, 22, [22], fun vs _ => vs = [.slice a1 n1 c1]⟩, ⟨6, 23, [23], CopF w.heap.size (s.2)⟩, ⟨7, 24, [24], BldF w.heap.size s⟩, ⟨8, 25, [25], ShF w.heap.size s⟩] (by kernel_rfl) (by kernel_rfl) ?_ ?_ ?_
      · simp only [All]
        refine ⟨fun _ _ _ _ h => h, fun _ _ _ _ h => h, fun _ _ _ _ h => h, ?_, fun _ _ _ _ h => h, fun _ _ _ _ h => h, ?_, ?_, ?_, trivial⟩
        · rintro vs w1 w2 hb ⟨x, h1, h2, h3⟩
          exact ⟨x, h1, h2.below hb, h3⟩
        · rintro vs w1 w2 hb ⟨x, h1, h2, h3⟩
          exact ⟨x, h1, h2.below hb, h3⟩
        · rintro vs w1 w2 hb ⟨x, y, h1, ⟨h2, h3⟩, h4, h5⟩
          exact ⟨x, y, h1, ⟨h2.below hb, h3⟩, h4.below hb, h5⟩
        · rintro vs w1 w2 hb ⟨gB, x, y, h1, h0, ⟨h2, h3⟩, h4, h5⟩
          exact ⟨gB, x, y, h1, h0.below hb, ⟨h2.below hb, h3⟩, h4.below hb, h5⟩
      · simp only [All]
        refine ⟨?_, ?_, ?_, ?_, ?_, ?_, ?_, ?_, ?_, trivial⟩
        · intro o ho a' w' hb hfr hdep
          obtain rfl := Option.some.inj ho
          have g3 : a'.tmps[3]?.getD undef = .slice aq k c' := by have h := hfr 3 (by kernel_rfl); simpa using h
          clear ho hfr hdep
          go_wp2_with fail
          exact ⟨rfl, _, rfl, Below.refl _ _, rfl⟩
        · intro o ho a' w' hb hfr hdep
          obtain rfl := Option.some.inj ho
          have gs5 : a'.tmps[5]?.getD undef = .pointer (some ⟨g5, 0, none⟩) := by have h := hfr 5 (by kernel_rfl); simpa using h
          clear ho hfr hdep
          go_wp2_with fail
          exact ⟨rfl, _, rfl, Below.refl _ _, rfl⟩
        · intro o ho a' w' hb hfr hdep
          obtain rfl := Option.some.inj ho
          have g18 : a'.tmps[18]?.getD undef = .pointer (some ⟨g5, 0, none⟩) := by have h := hdep 1 _ rfl (by kernel_rfl); simpa using h
          clear ho hfr hdep
          have hcl := cell_blw q0 hb
          go_wp2_with fail
          exact ⟨rfl, _, rfl, Below.refl _ _, rfl⟩
        · intro o ho a' w' hb hfr hdep
          obtain rfl := Option.some.inj ho
          have g19 : a'.tmps[19]?.getD undef = .slice a0 n0 c0 := by have h := hdep 2 _ rfl (by kernel_rfl); simpa using h
          clear ho hfr hdep
          go_wp2_with (go_at_call 42; refine (hcp0.out w' (hbw5.trans (hb.mono hbw5.size))).mono ?_; rintro e w2 ⟨ax, nx, cx, rfl, ht, hn, hbl⟩)
          exact ⟨rfl, _, rfl, hbl, (ax, nx, cx), rfl, ht, fun b hm => Nat.le_trans (hbw5.trans (hb.mono hbw5.size)).size (hn b hm)⟩
        · intro o ho a' w' hb hfr hdep
          obtain rfl := Option.some.inj ho
          have gs5 : a'.tmps[5]?.getD undef = .pointer (some ⟨g5, 0, none⟩) := by have h := hfr 5 (by kernel_rfl); simpa using h
          clear ho hfr hdep
          go_wp2_with fail
          exact ⟨rfl, _, rfl, Below.refl _ _, rfl⟩
        · intro o ho a' w' hb hfr hdep
          obtain rfl := Option.some.inj ho
          have g21 : a'.tmps[21]?.getD undef = .pointer (some ⟨g5, 1, none⟩) := by have h := hdep 4 _ rfl (by kernel_rfl); simpa using h
          clear ho hfr hdep
          have hcl := cell_blw q1 hb
          go_wp2_with fail
          exact ⟨rfl, _, rfl, Below.refl _ _, rfl⟩
        · intro o ho a' w' hb hfr hdep
          obtain rfl := Option.some.inj ho
          have g22 : a'.tmps[22]?.getD undef = .slice a1 n1 c1 := by have h := hdep 5 _ rfl (by kernel_rfl); simpa using h
          clear ho hfr hdep
          go_wp2_with (go_at_call 42; refine (hcp1.out w' (hbw5.trans (hb.mono hbw5.size))).mono ?_; rintro e w2 ⟨ax, nx, cx, rfl, ht, hn, hbl⟩)
          exact ⟨rfl, _, rfl, hbl, (ax, nx, cx), rfl, ht, fun b hm => Nat.le_trans (hbw5.trans (hb.mono hbw5.size)).size (hn b hm)⟩
        · intro o ho a' w' hb hfr hdep
          obtain rfl := Option.some.inj ho
          obtain ⟨⟨u0, u1, u2⟩, g20, t20, n20⟩ := hdep 3 _ rfl (by kernel_rfl)
          simp [hv] at g20
          obtain ⟨⟨u3, u4, u5⟩, g23, t23, n23⟩ := hdep 6 _ rfl (by kernel_rfl)
          simp [hv] at g23
          clear ho hfr hdep
          go_wp2_with fail
          exact ⟨rfl, _, rfl, Below.refl _ _, (u0, u1, u2), (u3, u4, u5), rfl, ⟨t20, n20⟩, t23, n23⟩
        · intro o ho a' w' hb hfr hdep
          obtain rfl := Option.some.inj ho
          obtain ⟨⟨u0, u1, u2⟩, ⟨u3, u4, u5⟩, g24, ⟨t24, n24⟩, u24, m24⟩ := hdep 7 _ rfl (by kernel_rfl)
          simp [hv] at g24
          clear ho hfr hdep
          refine build_sheet 25 _ _ _ (by show a'.tmps.getD 24 undef = _; simpa using g24) ?_
          exact ⟨rfl, _, rfl, sblo _ _, _, (u0, u1, u2), (u3, u4, u5), rfl, Sl.fresh _ _ 2 1 [.slice u0 u1 u2, .slice u3 u4 u5] rfl (by decide), ⟨t24.below (sblo _ _), n24⟩, u24.below (sblo _ _), m24⟩
      · intro gg w6 hbl hp'
        obtain ⟨gB, x, y, pB, sB, ⟨tx, nx⟩, ty, ny⟩ := hp' 8 _ rfl
        have p17 := hp' 0 _ rfl
        clear hp'
        simp at pB p17
        simp only [List.drop_succ_cons, List.drop_zero, List.map_cons, List.map_nil, putAll, Act.put, List.setIfInBounds_toArray, List.set_cons_succ, List.set_cons_zero, List.cons_append, List.nil_append, pB, p17]
        clear pB p17
        have S6 := hS5.out.below hbl
        have hbw6 : Below w.heap.size w w6 := hbw5.trans (hbl.mono hbw5.size)
        go_wp2_with (at_builtin; refine app_sheetS rfl _ _ rfl w w.heap.size aq k c' ws rfl S6.top (x, y) (some ⟨gB, 0, none⟩) 1 rfl sB (by omega) hbw6.size hbw6 ?_; intro a7 c7 w7 ho7 hg7 hb7)
        have hS7 := hide (S6.push (x := (x, y)) (s := s) tx ty nx ny ho7 hg7)
        clear ho7 hg7 S6 sB hbl
        go_wp2
        go_roundg (N - (k + 1))
        case measure => have := HG.out; omega
        case rel => exact ⟨k + 1, a7, c7, ws ++ [(x, y)], by omega, rfl, by go_num, rfl, by rw [take_snoc HX.out]; exact hS7.out, hb7⟩

    · obtain rfl : k = N := by omega
      have HS2 := HS'.out
      rw [← hN.out, List.take_length, hN.out] at HS2
      have HS3 := hide HS2
      clear HS2
      go_wp2
      go_ret
      exact ⟨aq, c', ws, rfl, HS3.out, hbw⟩
end Go.Proofs.Ytdeknimelkdaeaa
end

/- the text P11 -/
section
/- Chapter 35: Load. -/
set_option linter.unusedVariables false
namespace Go.Proofs.Ytdeknimelkdaeaa
open Go.RowKit Go.Dx Go.Al
def badPg (p : Pgl) : Bool := !fits p
theorem pr_Load1 (p : Pgl) (hs : List Hd) (a : Option Addr) (n c : Nat) (w : World) (hp : Pg w a n c hs p) :
    Calls Try.prog 38 #[.slice a n c] w fun e w' => e = .returned (.bool (badPg p)) ∧ w = w' := by
  unfold badPg
  have hc := cell_Fits p hs a n c w hp
  generalize fits p = v at hc ⊢
  go_enter Try.func38, Try.ntmps38
  go_wp2_with (go_at_call 34; refine hc.mono ?_; rintro e w2 ⟨rfl, rfl⟩)
  go_ret
  exact ⟨rfl, rfl⟩
set_option maxHeartbeats 400000 in
theorem index_bad (p : List Pgl) (hs : List Hd) (a : Option Addr) (n c : Nat) (w : World) (hp : Pgs w a n c hs p) :
    Calls Try.prog 60 #[.slice a n c, fnv 38] w fun e w' => ∃ i : Int, e = .returned (.int .i64 i) ∧ decide (0 ≤ i) = p.any badPg ∧ w = w' := by
  unfold fnv
  obtain rfl := hp.n_eq
  have hm1 := Nat.le_trans hp.top.le hp.top.cap
  unfold maxLen at hm1
  go_enter Try.func60, Try.ntmps60
  go_wp2_with fail
  go_loopg [8] p.length (fun g i w' => ∃ (k : Nat), k ≤ p.length ∧ g = p.length - k ∧ (p.take k).any badPg = false ∧ i = .int .i64 k ∧ w = w')
  case atStart => exact ⟨0, by omega, by omega, rfl, rfl, rfl⟩
  case round =>
    obtain ⟨k, hk, hg, ht, rfl, rfl⟩ := hrel
    have HG := hide hg
    have HT := hide ht
    clear hg ht
    by_cases hkl : k < p.length
    · obtain ⟨x, hx⟩ : ∃ x, p[k]? = some x := ⟨p[k], by simp [hkl]⟩
      obtain ⟨a', n', c', r, hu, hsx⟩ := hp.at_ hx
      have HH := hide hx
      have HU := hide hu
      clear hx hu
      cases hq : badPg x
      · have HN := hide (any_take_no HH.out HT.out hq)
        have hc := pr_Load1 x r a' n' c' w hsx
        rw [hq] at hc
        clear hq
        go_wp2_with (first
          | (with_reducible refine idx_pgs 14 _ _ _ _ _ hs rfl hp.top _ _ k rfl rfl _ HU.out ?_; intro b o hcell hbo)
          | (go_at_call 38; refine hc.mono ?_; rintro e w2 ⟨rfl, rfl⟩))
        go_roundg (p.length - (k + 1))
        case measure => have := HG.out; omega
        case rel => exact ⟨k + 1, by omega, rfl, HN.out, by go_num, rfl⟩
      · have HN := hide (any_of_get HH.out hq)
        have hc := pr_Load1 x r a' n' c' w hsx
        rw [hq] at hc
        clear hq
        go_wp2_with (first
          | (with_reducible refine idx_pgs 14 _ _ _ _ _ hs rfl hp.top _ _ k rfl rfl _ HU.out ?_; intro b o hcell hbo)
          | (go_at_call 38; refine hc.mono ?_; rintro e w2 ⟨rfl, rfl⟩))
        go_ret
        exact ⟨_, rfl, by rw [HN.out]; exact decide_eq_true (by omega), rfl⟩
    · obtain rfl : k = p.length := by omega
      go_wp2
      go_ret
      have := HT.out
      rw [List.take_length] at this
      exact ⟨_, rfl, by rw [this]; rfl, rfl⟩
theorem contains_bad (p : List Pgl) (hs : List Hd) (a : Option Addr) (n c : Nat) (w : World) (hp : Pgs w a n c hs p) :
    Calls Try.prog 37 #[.slice a n c, fnv 38] w fun e w' => e = .returned (.bool (p.any badPg)) ∧ w = w' := by
  have hc := index_bad p hs a n c w hp
  unfold fnv at hc ⊢
  go_enter Try.func37, Try.ntmps37
  go_wp2_with (go_at_call 60; refine hc.mono ?_; rintro e w2 ⟨i, rfl, hi, rfl⟩)
  go_ret
  exact ⟨by rw [← hi]; rfl, rfl⟩
theorem cp_of_fits {p : Pgl} (h : fits p = true) : Cp p := by
  unfold fits fitsB at h
  simp only [Bool.and_eq_true, decide_eq_true_eq, Bool.not_eq_true'] at h
  refine ⟨fun r hr => ?_, by omega⟩
  have h2 := List.any_eq_false.1 h.2 r hr
  by_cases h40 : 40 < r.length
  · exact absurd (longRow_len h40) h2
  · omega
def ShsF (B K : Nat) (L : List Sht) (vs : List Value) (w' : World) : Prop := ∃ a' c' ws, vs = [.slice a' K c'] ∧ Shn w' B a' K c' ws L
def LoF (w : World) (ws : List HS) (wa : Option Addr) (N K : Nat) (L : List Sht) (vs : List Value) (w' : World) : Prop :=
  ∃ w7 a' c' ys, vs = [.slice a' (N + K) c'] ∧ Below w.heap.size w w7 ∧ Shs w7 ys L ∧ (∀ b ∈ hbs ys, w.heap.size ≤ b) ∧ Que w' 29 2 a' (N + K) c' ((ws ++ ys).flatMap shc) ∧ w7.grownBy w' (wa.map (·.block)) ∧ (∀ b ∈ blk a', b ∈ blk wa ∨ w7.heap.size ≤ b)
theorem Shn.oldW {w : World} {W W' n c : Nat} {a : Option Addr} {ws : List HS} {L : List Sht} (h : Shn w W a n c ws L) (hW : W' ≤ W) : Shn w W' a n c ws L := ⟨h.top.mono hW, h.shs, fun b hm => Nat.le_trans hW (h.new b hm)⟩
theorem Shn.keptQ {w w' : World} {W n c N wc : Nat} {a wa : Option Addr} {ws : List HS} {L : List Sht} {cs : List Value} (h : Shn w W a n c ws L) (hW : ∀ b ∈ blk wa, b < W) (hq : Que w 29 2 wa N wc cs) (hg : w.grownBy w' (wa.map (·.block))) : Shn w' W a n c ws L := by
  have hf : Fr (blk wa) w w' := Fr.ofGrown hg
  have hnb : ∀ b ∈ blk wa, NoB w b := que_nobs hq (by decide)
  refine ⟨own_fr h.top hf (fun b hm hm2 => ?_), h.shs.fr hf hnb (fun b hm hm2 => ?_), h.new⟩
  · have h1 := (own_lt h.top b hm).1
    have h2 := hW b hm2
    omega
  · have h1 := h.new b hm
    have h2 := hW b hm2
    omega
theorem foot_load {g : Nat} {h0 h1 e0 e1 : Hd} {wa ta a' : Option Addr} {wc tc c' : Nat} {ws ts ys : List HS} {Z : Nat → Prop} (ha : ∀ b ∈ blk a', b ∈ blk wa ∨ Z b) (hy : ∀ b ∈ hbs ys, Z b) :
    ∀ b ∈ pfoot g ⟨h0, h1, e0, e1, a', c', ws ++ ys, ta, tc, ts⟩, b ∈ pfoot g ⟨h0, h1, e0, e1, wa, wc, ws, ta, tc, ts⟩ ∨ Z b := by
  intro b hm
  simp only [pfoot, mutB, List.mem_append, List.mem_cons, hbs_append] at hm ⊢
  rcases hm with (h | ((h | h) | h) | h) | (((h | h) | h) | h) | h
  · simp [h]
  · rcases ha b h with h | h <;> simp [h]
  · simp [h]
  · simp [h]
  · simp [h]
  · simp [h]
  · exact .inr (hy b h)
  · simp [h]
  · simp [h]
  · simp [h]
def loadP (S : Pr) (L : List Pgl) : Pr × Int := if L.any badPg then (S, 1) else if 64 < S.waiting.length + (L.length + 1) / 2 then (S, 4) else ({ S with waiting := S.waiting ++ sheetsL L }, 0)
set_option maxRecDepth 100000 in
set_option maxHeartbeats 4000000 in
theorem pr_Load (g : Nat) (m : PM) (S : Pr) (w : World) (h : PAt w g m S) (hw : S.waiting.length ≤ 64) (L : List Pgl) (hs : List Hd) (a : Option Addr) (n c : Nat) (hL : Pgs w a n c hs L) (hn : L.length ≤ 1000000) :
    Calls Try.prog 16 #[.pointer (some ⟨g, 0, none⟩), .slice a n c] w fun e w' => e = .returned (.int .i64 (loadP S L).2) ∧ ∃ m', PAt w' g m' (loadP S L).1 ∧ Mv w w' (pfoot g m) (pfoot g m') := by
  have hcont := contains_bad L hs a n c w hL
  unfold fnv at hcont
  obtain ⟨M0, hM0⟩ : ∃ M0, Hid (m = M0) := ⟨_, hide rfl⟩
  have MV := hide (Mv.refl w (pfoot g m))
  rw [hM0.out] at MV
  obtain ⟨⟨a0, n0, c0⟩, ⟨a1, n1, c1⟩, ⟨a2, n2, c2⟩, ⟨a3, n3, c3⟩, wa, wc, ws, ta, tc, ts⟩ := m
  obtain ⟨w0, w1, d0, d1, rows, busy, paper, waiting, tray, mode⟩ := S
  obtain ⟨N, hN⟩ : ∃ N, Hid (waiting.length = N) := ⟨_, hide rfl⟩
  obtain rfl := hL.n_eq
  obtain ⟨n, hnn⟩ : ∃ n, Hid (L.length = n) := ⟨_, hide rfl⟩
  rw [hnn.out] at hn hcont hL
  rw [hnn.out]
  have hNl : N ≤ 64 := by rw [← hN.out]; exact hw
  clear hw
  have H := hide h
  clear h
  have X : Box w g 76 [.slice a0 n0 c0, .slice a1 n1 c1, .slice a2 n2 c2, .slice a3 n3 c3, .int .i64 (rows : Int), .bool busy, .int .i64 (paper : Int), .slice wa N wc, .slice ta tray.length tc, stv mode] := by
    have h1 := H.out.box
    rw [← hN.out]
    exact h1
  have cc7 := X.at_ (j := 7) rfl
  cases hany : L.any badPg with
  | true =>
    have hLP : Hid (loadP ⟨w0, w1, d0, d1, rows, busy, paper, waiting, tray, mode⟩ L = (⟨w0, w1, d0, d1, rows, busy, paper, waiting, tray, mode⟩, 1)) := hide (by unfold loadP; rw [hany, if_pos rfl])
    rw [hany] at hcont
    clear hany
    go_enter Try.func16, Try.ntmps16
    go_wp2_with (go_at_call 37; refine hcont.mono ?_; rintro e w2 ⟨rfl, rfl⟩)
    go_ret
    rw [hLP.out]
    exact ⟨rfl, _, H.out, Mv.refl _ _⟩
  | false =>
    obtain ⟨K, hKK⟩ : ∃ K, Hid ((n + 1) / 2 = K) := ⟨_, hide rfl⟩
    have hK2 : (2 : Int) * K ≤ n + 1 ∧ (n : Int) + 1 < 2 * K + 2 := by have := hKK.out; omega
    have hdiv : Hid (((n : Int) + 1) / 2 = (K : Int)) := hide (by omega)
    have hdivt : Hid (Int.tdiv ((n : Int) + 1) 2 = (K : Int)) := hide (by rw [Int.tdiv_eq_ediv_of_nonneg (by omega)]; exact hdiv.out)
    have hdiv1 := hdiv.out
    have hdiv2 := hdivt.out
    have hK0 : K ≤ 1000000 := by have := hKK.out; omega
    clear hK2
    rw [hany] at hcont
    by_cases hbig : 64 < N + K
    · have hLP : Hid (loadP ⟨w0, w1, d0, d1, rows, busy, paper, waiting, tray, mode⟩ L = (⟨w0, w1, d0, d1, rows, busy, paper, waiting, tray, mode⟩, 4)) := hide (by unfold loadP; rw [hany, hnn.out, hKK.out, hN.out, if_neg (by decide), if_pos hbig])
      have hd : decide (64 < (N : Int) + (K : Int)) = true := decide_eq_true (by omega)
      clear hany
      go_enter Try.func16, Try.ntmps16
      go_wp2_with (go_at_call 37; refine hcont.mono ?_; rintro e w2 ⟨rfl, rfl⟩)
      go_ret
      rw [hLP.out]
      exact ⟨rfl, _, H.out, Mv.refl _ _⟩
    · have hLP : Hid (loadP ⟨w0, w1, d0, d1, rows, busy, paper, waiting, tray, mode⟩ L = (⟨w0, w1, d0, d1, rows, busy, paper, waiting ++ sheetsL L, tray, mode⟩, 0)) := hide (by unfold loadP; rw [hany, hnn.out, hKK.out, hN.out, if_neg (by decide), if_neg hbig])
      have hd : decide (64 < (N : Int) + (K : Int)) = false := decide_eq_false (by omega)
      have hCp : ∀ p ∈ L, Cp p := fun p hp => cp_of_fits (by
        have := List.any_eq_false.1 hany p hp
        unfold badPg at this
        simpa using this)
      have hK : Hid ((sheetsL L).length = K) := hide (by rw [sheetsL_len, hnn.out, hKK.out])
      have hsh : Hid (∀ w', Below w.heap.size w w' → Calls Try.prog 35 #[.slice a n c] w' fun e w2 => ∃ a' c' ws, e = .returned (.slice a' K c') ∧ Shn w2 w'.heap.size a' K c' ws (sheetsL L) ∧ Below w'.heap.size w' w2) := hide (fun w' hb => by
        have := pr_sheets L hs a n c w' (hL.below hb) hCp (by rw [hnn.out]; exact hn)
        rw [hK.out] at this
        exact this)
      clear hany hCp
      go_enter Try.func16, Try.ntmps16
      go_wp2_with (go_at_call 37; refine hcont.mono ?_; rintro e w2 ⟨rfl, rfl⟩)
      clear hd hdiv1 hdiv2 hcont
      refine wp_region_mid 8 (fun _ => True) (fun _ => True) ⟨7, 31, [31], LoF w ws wa N K (sheetsL L)⟩ [⟨4, 28, [28], fun vs _ => vs = [.slice wa N wc]⟩, ⟨6, 30, [30], ShsF w.heap.size K (sheetsL L)⟩] [⟨0, 24, [24], fun vs _ => vs = [.pointer (some ⟨g, 0, none⟩)]⟩, ⟨1, 25, [25], fun vs _ => vs = [.pointer (some ⟨g, 0, none⟩)]⟩, ⟨2, 26, [26], fun vs _ => vs = [.pointer (some ⟨g, 0, none⟩)]⟩, ⟨3, 27, [27], fun vs _ => vs = [.pointer (some ⟨g, 7, none⟩)]⟩, ⟨5, 29, [29], fun vs _ => vs = [.slice a n c]⟩] (by kernel_rfl) (by kernel_rfl) ?_ ?_ ?_ ?_ ?_ ?_ ?_
      · exact fun _ _ => trivial
      · exact fun _ h => h
      · simp only [All, List.cons_append, List.nil_append]
        refine ⟨fun _ _ _ _ h => h, ?_, fun _ _ _ _ h => h, fun _ _ _ _ h => h, fun _ _ _ _ h => h, fun _ _ _ _ h => h, fun _ _ _ _ h => h, trivial⟩
        · rintro vs w1 w2 hb ⟨a', c', ws, h1, h2⟩
          exact ⟨a', c', ws, h1, h2.below hb⟩
      · intro o ho a' w' hb hfr hdep
        obtain rfl := Option.some.inj ho
        have g28 : a'.tmps[28]?.getD undef = .slice wa N wc := by have h := hdep 1 _ rfl (by kernel_rfl); simpa using h
        obtain ⟨a30, c30, ws30, g30, s30⟩ := hdep 2 _ rfl (by kernel_rfl)
        simp at g30
        clear ho hfr hdep
        have hq5 : Que w' 29 2 wa N wc (ws.flatMap shc) := by rw [← hN.out]; exact (H.out.inn.below hb).wq
        refine app_q rfl _ _ rfl wa N wc ws (by show a'.tmps.getD 28 undef = _; simpa using g28) hq5 a30 K c30 ws30 _ rfl (by show a'.tmps.getD 30 undef = _; simpa using g30) s30.top.sl (by omega) ?_
        intro a8 c8 w8 hq8 hg8 hk8
        go_wp2_with fail
        refine ⟨rfl, _, rfl, ⟨w', a8, c8, ws30, by simp, hb, s30.shs, s30.new, by simpa using hq8, hg8, hk8⟩, ?_⟩
        simp only [All]
        refine ⟨fun _ h => h, ?_, fun _ h => h, fun _ h => h, fun _ h => h, fun _ h => h, fun _ h => h, trivial⟩
        rintro vs ⟨a', c', wsx, h1, h2⟩
        exact ⟨a', c', wsx, h1, h2.keptQ (fun b hm => H.out.inn.wq.lt b hm) hq5 hg8⟩
      · simp only [All]
        refine ⟨?_, ?_, trivial⟩
        · intro o ho a' w' hb hfr hdep
          obtain rfl := Option.some.inj ho
          have g27 : a'.tmps[27]?.getD undef = .pointer (some ⟨g, 7, none⟩) := by have h := hdep 6 _ rfl (by kernel_rfl); simpa using h
          clear ho hfr hdep
          have hcl := cell_blw cc7 hb
          go_wp2_with fail
          exact ⟨rfl, _, rfl, Below.refl _ _, rfl⟩
        · intro o ho a' w' hb hfr hdep
          obtain rfl := Option.some.inj ho
          have g29 : a'.tmps[29]?.getD undef = .slice a n c := by have h := hdep 7 _ rfl (by kernel_rfl); simpa using h
          clear ho hfr hdep
          go_wp2_with (go_at_call 35; refine (hsh.out w' hb).mono ?_; rintro e w2 ⟨a8, c8, ws8, rfl, hs8, hb8⟩)
          exact ⟨rfl, _, rfl, hb8, a8, c8, ws8, rfl, hs8.oldW hb.size⟩
      · simp only [All]
        refine ⟨?_, ?_, ?_, ?_, ?_, trivial⟩
        · intro o ho a' w' hb hfr hdep
          obtain rfl := Option.some.inj ho
          have g0 : a'.tmps[0]?.getD undef = .pointer (some ⟨g, 0, none⟩) := by have h := hfr 0 (by kernel_rfl); simpa using h
          clear ho hfr hdep
          go_wp2_with fail
          exact ⟨rfl, _, rfl, rfl, rfl⟩
        · intro o ho a' w' hb hfr hdep
          obtain rfl := Option.some.inj ho
          have g0 : a'.tmps[0]?.getD undef = .pointer (some ⟨g, 0, none⟩) := by have h := hfr 0 (by kernel_rfl); simpa using h
          clear ho hfr hdep
          go_wp2_with fail
          exact ⟨rfl, _, rfl, rfl, rfl⟩
        · intro o ho a' w' hb hfr hdep
          obtain rfl := Option.some.inj ho
          have g25 : a'.tmps[25]?.getD undef = .pointer (some ⟨g, 0, none⟩) := by have h := hdep 4 _ rfl (by kernel_rfl); simpa using h
          clear ho hfr hdep
          go_wp2_with fail
          exact ⟨rfl, _, rfl, rfl, rfl⟩
        · intro o ho a' w' hb hfr hdep
          obtain rfl := Option.some.inj ho
          have g26 : a'.tmps[26]?.getD undef = .pointer (some ⟨g, 0, none⟩) := by have h := hdep 5 _ rfl (by kernel_rfl); simpa using h
          clear ho hfr hdep
          go_wp2_with fail
          exact ⟨rfl, _, rfl, rfl, rfl⟩
        · intro o ho a' w' hb hfr hdep
          obtain rfl := Option.some.inj ho
          have g1 : a'.tmps[1]?.getD undef = .slice a n c := by have h := hfr 1 (by kernel_rfl); simpa using h
          clear ho hfr hdep
          go_wp2_with fail
          exact ⟨rfl, _, rfl, rfl, rfl⟩
      · intro g0 w6 hG hp'
        obtain ⟨w5, a', c', ys, pA, hbl, hy, hnew, hq6, hg6, hk6⟩ := hp' 0 _ rfl
        have pO := hp' 3 _ rfl
        clear hp' hG
        simp at pA pO
        simp only [List.drop_succ_cons, List.drop_zero, List.map_cons, List.map_nil, putAll, Act.put, List.setIfInBounds_toArray, List.set_cons_succ, List.set_cons_zero, List.cons_append, List.nil_append, pA, pO]
        clear pA pO
        have X5 : Box w5 g 76 [.slice a0 n0 c0, .slice a1 n1 c1, .slice a2 n2 c2, .slice a3 n3 c3, .int .i64 (rows : Int), .bool busy, .int .i64 (paper : Int), .slice wa N wc, .slice ta tray.length tc, stv mode] := X.under hbl
        have I5 := H.out.inn.below hbl
        have X6 := X5.grown hg6 (fun e => H.out.ne_w g e rfl)
        have hold : ∀ b ∈ hb (a2, n2, c2) ++ hb (a3, n3, c3), b ∉ hbs ys := fun b hm hm2 => by
          have h1 := hnew b hm2
          rcases List.mem_append.1 hm with h2 | h2
          · have := H.out.inn.f0.lt b h2; omega
          · have := H.out.inn.f1.lt b h2; omega
        have I6 := I5.growW hg6 hq6 (L := sheetsL L) (by rw [List.length_append, hN.out, hK.out]) hy hk6 hold
        have hA1 : ∀ b ∈ blk a', b ∈ blk wa ∨ w.heap.size ≤ b := fun b hm => by
          rcases hk6 b hm with h1 | h1
          · exact .inl h1
          · exact .inr (Nat.le_trans hbl.size h1)
        have MV6 := hide (((MV.out.below hbl).less (S2 := pfoot g ⟨(a0, n0, c0), (a1, n1, c1), (a2, n2, c2), (a3, n3, c3), a', c', ws ++ ys, ta, tc, ts⟩) (by rw [← hM0.out]; exact foot_load hA1 hnew)).grown' hg6 (fun c hc => by rw [← hM0.out]; cases hta : wa with | none => rw [hta] at hc; cases hc | some q => rw [hta] at hc; simp at hc; subst hc; simp [pfoot, mutB, blk]))
        clear X5 I5 hold hbl hq6 hk6 hg6
        go_wp2_with (with_reducible refine hold_store ?_)
        refine hide ?_
        refine store_cell 25 _ _ 76 g 7 _ (.slice a' (N + K) c') size_shs X6 rfl rfl rfl rfl (by show _ < 10; omega) ?_; intro w7 x7 g7 s7
        have X7 : Box w7 g 76 [.slice a0 n0 c0, .slice a1 n1 c1, .slice a2 n2 c2, .slice a3 n3 c3, .int .i64 (rows : Int), .bool busy, .int .i64 (paper : Int), .slice a' (N + K) c', .slice ta tray.length tc, stv mode] := x7
        have I7 := hide (I6.put X6 rfl g7)
        have MV7 := hide (MV6.out.grown g7 (fun c hc => by cases hc; simp [pfoot, mutB]))
        clear x7 I6 X6 MV6 g7 s7
        go_wp2_with fail
        go_ret
        rw [hLP.out]
        refine ⟨rfl, ⟨(a0, n0, c0), (a1, n1, c1), (a2, n2, c2), (a3, n3, c3), a', c', ws ++ ys, ta, tc, ts⟩, ⟨?_, I7.out⟩, ?_⟩
        · have hl : (waiting ++ sheetsL L).length = N + K := by rw [List.length_append, hN.out, hK.out]
          show Box w7 g _ [_, _, _, _, _, _, _, .slice a' (waiting ++ sheetsL L).length c', _, _]
          rw [hl]
          exact X7
        · have := MV7.out
          rw [← hM0.out] at this
          exact this

end Go.Proofs.Ytdeknimelkdaeaa
end

/- the text P12 -/
section
/- Chapter 35: Step, what stands in its way. -/
set_option linter.unusedVariables false
namespace Go.Dx
open Go.RowKit
/-- a method called by an interface value -/
theorem call_invoke {P : Program} {w : World} {ops : Array Oper} {rest : List Oper} {act : Act} {Q : Exit → Act → World → Prop} {ty : TypeId} {pos : String} {after : Array Edge} (d : Nat) (x : Operand) (nm : String) (v : Value) (f : FuncId) (r : Value) (R : Ending → World → Prop)
    (hx : act.eval x = v) (hi : ∀ w, (invoke (.fn (.method nm) #[]) #[v]).run P w = .ok (.enter f #[r]) w) (hc : Calls P f #[r] w R)
    (hK : ∀ e w', R e w' → ∃ u, e = .returned u ∧ wpList P ops Q rest (act.put (some d) u) w') :
    wpList P ops Q ({ dst := some d, op := .call { callee := .invoke x nm, args := #[], argTypes := #[] }, type := ty, pos := pos, after := after, guard := none } :: rest) act w := by
  refine wpList_plain rfl fun K hK' => ?_
  unfold Oper.wp
  simp [execOp, resolve, hx, hi, Result.andThen, Oper.upon]
  refine hc.mono ?_
  intro e w' hR
  obtain ⟨u, rfl, h⟩ := hK e w' hR
  exact hK' _ _ h
end Go.Dx
namespace Go.Proofs.Ytdeknimelkdaeaa
open Go.RowKit Go.Dx Go.Al
theorem st_run (w : World) : Calls Try.prog 89 #[.agg #[]] w fun e w' => e = .returned (.int .i64 0) ∧ Below w.heap.size w w' := by
  go_enter Try.func89, Try.ntmps89
  go_wp2_with fail
  go_ret
  exact ⟨rfl, sblo _ _⟩
theorem st_jam (w : World) : Calls Try.prog 90 #[.agg #[]] w fun e w' => e = .returned (.int .i64 23) ∧ Below w.heap.size w w' := by
  go_enter Try.func90, Try.ntmps90
  go_wp2_with fail
  go_ret
  exact ⟨rfl, sblo _ _⟩
theorem st_off (w : World) : Calls Try.prog 91 #[.agg #[]] w fun e w' => e = .returned (.int .i64 25) ∧ Below w.heap.size w w' := by
  go_enter Try.func91, Try.ntmps91
  go_wp2_with fail
  go_ret
  exact ⟨rfl, sblo _ _⟩
theorem inv_run (w : World) : (invoke (.fn (.method "dactyl/press.stands") #[]) #[.iface 70 (.agg #[])]).run Try.prog w = .ok (.enter 89 #[.agg #[]]) w := by kernel_rfl
theorem inv_jam (w : World) : (invoke (.fn (.method "dactyl/press.stands") #[]) #[.iface 78 (.agg #[])]).run Try.prog w = .ok (.enter 90 #[.agg #[]]) w := by kernel_rfl
theorem inv_off (w : World) : (invoke (.fn (.method "dactyl/press.stands") #[]) #[.iface 79 (.agg #[])]).run Try.prog w = .ok (.enter 91 #[.agg #[]]) w := by kernel_rfl
set_option maxRecDepth 100000 in
set_option maxHeartbeats 4000000 in
theorem pr_Step_1 (g : Nat) (m : PM) (S : Pr) (f : Nat) (w : World) (h : PAt w g m S) (h1 : S.mode = 1) (hf : f ≤ 3) :
    Calls Try.prog 17 #[.pointer (some ⟨g, 0, none⟩), .int .i64 (f : Int)] w fun e w' => e = .returned (.int .i64 23) ∧ Below w.heap.size w w' := by
  have cc9 : w.cell? ⟨g, 9, none⟩ = some (.iface 78 (.agg #[])) := by
    have h2 := h.box
    unfold pcells at h2
    rw [h1] at h2
    exact h2.at_ (j := 9) rfl
  have d1 : decide ((f : Int) < 0) = false := decide_eq_false (by omega)
  have d2 : decide ((3 : Int) < (f : Int)) = false := decide_eq_false (by omega)
  clear h h1 hf
  go_enter Try.func17, Try.ntmps17
  go_wp2_with (with_reducible refine call_invoke 23 _ "dactyl/press.stands" (.iface 78 (.agg #[])) 90 (.agg #[]) _ rfl inv_jam (st_jam w) ?_; rintro e w2 ⟨rfl, hb⟩; refine ⟨_, rfl, ?_⟩)
  go_ret
  exact ⟨rfl, hb⟩
set_option maxRecDepth 100000 in
set_option maxHeartbeats 4000000 in
theorem pr_Step_2 (g : Nat) (m : PM) (S : Pr) (f : Nat) (w : World) (h : PAt w g m S) (h1 : S.mode = 2) (hf : f ≤ 3) :
    Calls Try.prog 17 #[.pointer (some ⟨g, 0, none⟩), .int .i64 (f : Int)] w fun e w' => e = .returned (.int .i64 25) ∧ Below w.heap.size w w' := by
  have cc9 : w.cell? ⟨g, 9, none⟩ = some (.iface 79 (.agg #[])) := by
    have h2 := h.box
    unfold pcells at h2
    rw [h1] at h2
    exact h2.at_ (j := 9) rfl
  have d1 : decide ((f : Int) < 0) = false := decide_eq_false (by omega)
  have d2 : decide ((3 : Int) < (f : Int)) = false := decide_eq_false (by omega)
  clear h h1 hf
  go_enter Try.func17, Try.ntmps17
  go_wp2_with (with_reducible refine call_invoke 23 _ "dactyl/press.stands" (.iface 79 (.agg #[])) 91 (.agg #[]) _ rfl inv_off (st_off w) ?_; rintro e w2 ⟨rfl, hb⟩; refine ⟨_, rfl, ?_⟩)
  go_ret
  exact ⟨rfl, hb⟩
set_option maxRecDepth 100000 in
theorem pr_Step_bad (p : Option Addr) (f : Int) (w : World) (h : p = none ∨ f < 0 ∨ 3 < f) :
    Calls Try.prog 17 #[.pointer p, .int .i64 f] w fun e w' => e = .returned (.int .i64 1) ∧ w' = w := by
  cases p with
  | none =>
    clear h
    go_enter Try.func17, Try.ntmps17
    go_wp2_with fail
    go_ret
    exact ⟨rfl, rfl⟩
  | some q =>
    by_cases h1 : f < 0
    · have d1 : decide (f < 0) = true := decide_eq_true h1
      clear h h1
      go_enter Try.func17, Try.ntmps17
      go_wp2_with fail
      go_ret
      exact ⟨rfl, rfl⟩
    · have d1 : decide (f < 0) = false := decide_eq_false h1
      have d2 : decide (3 < f) = true := decide_eq_true (by rcases h with h | h | h; cases h; exact absurd h h1; exact h)
      clear h h1
      go_enter Try.func17, Try.ntmps17
      go_wp2_with fail
      go_ret
      exact ⟨rfl, rfl⟩
theorem pr_Out_nil (w : World) : Calls Try.prog 18 #[.pointer none] w fun e w' => e = .returned (.slice none 0 0) ∧ w' = w := by
  go_enter Try.func18, Try.ntmps18
  go_wp2_with fail
  go_ret
  exact ⟨rfl, rfl⟩
end Go.Proofs.Ytdeknimelkdaeaa
end

/- the text P13 -/
section
/- Chapter 35: a row is embossed. -/
set_option linter.unusedVariables false
namespace Go.Proofs.Ytdeknimelkdaeaa
open Go.RowKit Go.Dx Go.Al
theorem hold_index {P : Program} {w : World} {ops : Array Oper} {rest : List Oper} {act : Act} {Q : Exit → Act → World → Prop} {dst : Option Tmp} {t ty : TypeId} {x y : Operand} {pos : String} {after : Array Edge} {g : Option (Nat × Bool)}
    (h : Hid (wpList P ops Q ({ dst := dst, op := .index t x y, type := ty, pos := pos, after := after, guard := g } :: rest) act w)) : wpList P ops Q ({ dst := dst, op := .index t x y, type := ty, pos := pos, after := after, guard := g } :: rest) act w := h.out
theorem isagg_page (w : World) : (isAgg 28).run Try.prog w = .ok false w := by kernel_rfl
theorem grown_poke (w : World) (p : Addr) (v : Value) : w.grownBy (w.setCell p v) (some p.block) :=
  ⟨rfl, rfl, rfl, by simp, fun j hj hne => Below.heap_setCell w _ _ j (fun e => hne (by rw [e]))⟩
theorem Tab.poke {w : World} {h : Hd} {p : Pgl} (t : Tab w h p) {q : Addr} (hq : h.1 = some q) {k : Nat} {x : Hd} {r : List UInt8} (hk : k < p.length) (hsx : Sl w 1 x.1 x.2.1 x.2.2 (r.map B8)) (kx : Kind w x.1) :
    Tab (w.setCell ⟨q.block, k, none⟩ (hv x)) h (p.set k r) := by
  obtain ⟨hs, h1, h2⟩ := t
  rw [hq] at h1
  have hnb : NoB w q.block := NoB.own h1 (by decide)
  have hg := grown_poke w ⟨q.block, k, none⟩ (hv x)
  have hput := h1.put (i := k) (hv x)
  refine ⟨hs.set k x, ?_, by rw [List.length_set, List.length_set]; exact h2.1, fun i y s hy hs' => ?_⟩
  · rw [hq, List.map_set]
    exact hput
  · rw [List.getElem?_set] at hy hs'
    by_cases hik : k = i
    · rw [if_pos hik] at hy hs'
      have hkl : k < hs.length := by rw [h2.1]; exact hk
      rw [if_pos (hik ▸ hkl)] at hy
      rw [if_pos (hik ▸ hk)] at hs'
      cases hy
      cases hs'
      exact ⟨sl_kept hsx kx hg (fun b hb => by cases hb; exact hnb), kx.kept hg (fun b hb => by cases hb; exact hnb)⟩
    · rw [if_neg hik] at hy hs'
      obtain ⟨s1, s2⟩ := h2.2 i y s hy hs'
      exact ⟨sl_kept s1 s2 hg (fun b hb => by cases hb; exact hnb), s2.kept hg (fun b hb => by cases hb; exact hnb)⟩
/-- the table's block: where it lies, what its cell k holds -/
theorem Tab.look {w : World} {h : Hd} {p : Pgl} (t : Tab w h p) {k : Nat} (hk : k < p.length) : ∃ b, h.1 = some ⟨b, 0, none⟩ ∧ h.2.1 = p.length ∧ b ∈ hb h ∧ (∃ u, w.cell? ⟨b, k, none⟩ = some u) ∧ w.frozen? ⟨b, k, none⟩ = false := by
  obtain ⟨hs, h1, h2⟩ := t
  obtain ⟨a, n, c⟩ := h
  have hn : n = p.length := by have := h1.len; simp only at this; rw [List.length_map, h2.1] at this; omega
  obtain ⟨g, rfl⟩ := own_zero h1 (by show 0 < n; omega)
  have hl : k < hs.length := by rw [h2.1]; exact hk
  exact ⟨g, rfl, hn, by simp [hb], ⟨_, h1.at_ (j := k) (v := hv hs[k]) (by rw [List.getElem?_map]; simp [hl])⟩, h1.free k⟩
def rowD (r : Nat) (p d : Pgl) : Pgl := if r < p.length then d.set r (p.getD r []) else d
def emS (w0 w1 d0 d1 : Pgl) (r : Nat) (b : Bool) (P : Nat) (waiting tray : List Sht) (mode i : Nat) : Pr := ⟨w0, w1, if 0 < i then rowD r w0 d0 else d0, if 1 < i then rowD r w1 d1 else d1, r, b, P, waiting, tray, mode⟩
def embP (S : Pr) : Pr := emS S.w0 S.w1 S.d0 S.d1 S.rows S.busy S.paper S.waiting S.tray S.mode 2
theorem rowD_len (r : Nat) (p d : Pgl) : (rowD r p d).length = d.length := by unfold rowD; split; simp; rfl
theorem rowD_no {r : Nat} {p : Pgl} (d : Pgl) (h : ¬ r < p.length) : rowD r p d = d := by unfold rowD; rw [if_neg h]
theorem rowD_yes {r : Nat} {p : Pgl} (d : Pgl) {x : List UInt8} (h : p[r]? = some x) : rowD r p d = d.set r x := by
  unfold rowD
  rw [if_pos (List.getElem?_eq_some_iff.1 h).1, List.getD_eq_getElem?_getD, h]
  rfl
theorem PIn.emb0 {w : World} {m : PM} {w0 w1 d0 d1 : Pgl} {rows : Nat} {busy : Bool} {paper : Nat} {waiting tray : List Sht} {mode : Nat} (h : PIn w m ⟨w0, w1, d0, d1, rows, busy, paper, waiting, tray, mode⟩) {q : Addr} (hq : m.e0.1 = some q) {k : Nat} {x : Hd} {r : List UInt8} (hk : k < d0.length) (hsx : Sl w 1 x.1 x.2.1 x.2.2 (r.map B8)) (kx : Kind w x.1) :
    PIn (w.setCell ⟨q.block, k, none⟩ (hv x)) m ⟨w0, w1, d0.set k r, d1, rows, busy, paper, waiting, tray, mode⟩ := by
  have hf : Fr [q.block] w (w.setCell ⟨q.block, k, none⟩ (hv x)) := Fr.ofGrown (row := some q.block) (grown_poke w ⟨q.block, k, none⟩ (hv x))
  have hqb : q.block ∈ hb m.e0 := by unfold hb; rw [hq]; simp
  have hn : ∀ b ∈ [q.block], NoB w b := fun b hm => h.f0.nob b (by simp at hm; rw [hm]; exact hqb)
  have hS := h.sw q.block (List.mem_append_left _ hqb)
  refine ⟨h.wq.same fun b hm => hf.block b (h.wq.lt b hm) (fun hh => by simp at hh; subst hh; exact h.f0.neq h.wq (by decide) _ hm hqb), h.tq.same fun b hm => hf.block b (h.tq.lt b hm) (fun hh => by simp at hh; subst hh; exact h.f0.neq h.tq (by decide) _ hm hqb), h.wn,
    h.ww.fr hf hn (fun b hm hh => by simp at hh; subst hh; exact hS.1 hm), h.tt.fr hf hn (fun b hm hh => by simp at hh; subst hh; exact hS.2.1 hm), h.t0.fr hf hn (fun b hm hh => by simp at hh; subst hh; exact hS.2.2.1 hm), h.t1.fr hf hn (fun b hm hh => by simp at hh; subst hh; exact hS.2.2.2 hm),
    h.f0.poke hq hk hsx kx, h.f1.fr hf hn (fun b hm hh => by simp at hh; subst hh; exact h.sd _ hqb hm), h.sw, h.sd⟩
theorem PIn.emb1 {w : World} {m : PM} {w0 w1 d0 d1 : Pgl} {rows : Nat} {busy : Bool} {paper : Nat} {waiting tray : List Sht} {mode : Nat} (h : PIn w m ⟨w0, w1, d0, d1, rows, busy, paper, waiting, tray, mode⟩) {q : Addr} (hq : m.e1.1 = some q) {k : Nat} {x : Hd} {r : List UInt8} (hk : k < d1.length) (hsx : Sl w 1 x.1 x.2.1 x.2.2 (r.map B8)) (kx : Kind w x.1) :
    PIn (w.setCell ⟨q.block, k, none⟩ (hv x)) m ⟨w0, w1, d0, d1.set k r, rows, busy, paper, waiting, tray, mode⟩ := by
  have hf : Fr [q.block] w (w.setCell ⟨q.block, k, none⟩ (hv x)) := Fr.ofGrown (row := some q.block) (grown_poke w ⟨q.block, k, none⟩ (hv x))
  have hqb : q.block ∈ hb m.e1 := by unfold hb; rw [hq]; simp
  have hn : ∀ b ∈ [q.block], NoB w b := fun b hm => h.f1.nob b (by simp at hm; rw [hm]; exact hqb)
  have hS := h.sw q.block (List.mem_append_right _ hqb)
  refine ⟨h.wq.same fun b hm => hf.block b (h.wq.lt b hm) (fun hh => by simp at hh; subst hh; exact h.f1.neq h.wq (by decide) _ hm hqb), h.tq.same fun b hm => hf.block b (h.tq.lt b hm) (fun hh => by simp at hh; subst hh; exact h.f1.neq h.tq (by decide) _ hm hqb), h.wn,
    h.ww.fr hf hn (fun b hm hh => by simp at hh; subst hh; exact hS.1 hm), h.tt.fr hf hn (fun b hm hh => by simp at hh; subst hh; exact hS.2.1 hm), h.t0.fr hf hn (fun b hm hh => by simp at hh; subst hh; exact hS.2.2.1 hm), h.t1.fr hf hn (fun b hm hh => by simp at hh; subst hh; exact hS.2.2.2 hm),
    h.f0.fr hf hn (fun b hm hh => by simp at hh; subst hh; exact h.sd _ hm hqb), h.f1.poke hq hk hsx kx, h.sw, h.sd⟩
def doneP (S : Pr) : Pr := if S.rows + 1 = 25 then layP { S with rows := S.rows + 1 } else { S with rows := S.rows + 1 }
def stepP (S : Pr) (f : Nat) : Pr × Int :=
  if S.mode = 1 then (S, 23) else if S.mode = 2 then (S, 25) else if (takeP S).2 ≠ 0 then takeP S else
  if f = 2 then ({ (takeP S).1 with mode := 1 }, 23) else if f = 3 then ({ (takeP S).1 with mode := 2 }, 25) else (doneP (if f = 0 then embP (takeP S).1 else (takeP S).1), 0)
def PtF (v : Value) (vs : List Value) (w' : World) : Prop := ∃ b o, vs = [.pointer (some ⟨b, o, none⟩)] ∧ w'.cell? ⟨b, o, none⟩ = some v
def ClF (B n : Nat) (l : List UInt8) (vs : List Value) (w' : World) : Prop := ∃ a' c', vs = [.slice a' n c'] ∧ Own w' B 5 1 a' n c' (l.map B8)
/-- what stands between two calls -/
structure PInv (S : Pr) : Prop where
  bud : S.tray.length + (if S.busy then 1 else 0) + S.paper ≤ 1000
  mode : S.mode ≤ 2
  md : S.mode ≠ 0 → S.busy = true
  wait : S.waiting.length ≤ 64
  rows : S.busy = true → S.rows < 25 ∧ S.d0.length = 25 ∧ S.d1.length = 25
  cw : Cp S.w0 ∧ Cp S.w1
  cd : Cp S.d0 ∧ Cp S.d1
  cws : ∀ s ∈ S.waiting, Cp s.1 ∧ Cp s.2
  cts : ∀ s ∈ S.tray, Cp s.1 ∧ Cp s.2
end Go.Proofs.Ytdeknimelkdaeaa
end

/- the text P14 -/
section
/- Chapter 35: Step, where the machine runs. -/
set_option linter.unusedVariables false
namespace Go.Proofs.Ytdeknimelkdaeaa
open Go.RowKit Go.Dx Go.Al
set_option maxRecDepth 100000 in
set_option maxHeartbeats 8000000 in
theorem pr_Step_f2 (g : Nat) (m : PM) (S : Pr) (w0 w1 d0 d1 : Pgl) (r : Nat) (b : Bool) (P : Nat) (waiting tray : List Sht) (w : World) (h : PAt w g m S) (hmode : S.mode = 0) (hpap : S.paper ≤ 1000) (hT : takeP S = (⟨w0, w1, d0, d1, r, b, P, waiting, tray, 0⟩, 0))
    (hr : r < 25) (hd0 : d0.length = 25) (hd1 : d1.length = 25) (hcp : Cp w0 ∧ Cp w1) (htr : tray.length ≤ 10000) :
    Calls Try.prog 17 #[.pointer (some ⟨g, 0, none⟩), .int .i64 2] w fun e w' => e = .returned (.int .i64 23) ∧ ∃ m', PAt w' g m' (⟨w0, w1, d0, d1, r, b, P, waiting, tray, 1⟩) ∧ Mv w w' (pfoot g m) (pfoot g m') := by
  have cc9 : w.cell? ⟨g, 9, none⟩ = some (.iface 70 (.agg #[])) := by
    have h2 := h.box
    unfold pcells at h2
    rw [hmode] at h2
    exact h2.at_ (j := 9) rfl
  have hcT : Hid (∀ w2, Below w.heap.size w w2 → Calls Try.prog 39 #[.pointer (some ⟨g, 0, none⟩)] w2 fun e w' => e = .returned (.int .i64 0) ∧ ∃ m', PAt w' g m' ⟨w0, w1, d0, d1, r, b, P, waiting, tray, 0⟩ ∧ Mv w2 w' (pfoot g m) (pfoot g m')) := hide (fun w2 hb2 => by
    have := pr_take g m S w2 (h.below hb2) hpap
    rw [hT] at this
    exact this)
  clear h hmode hpap hT
  go_enter Try.func17, Try.ntmps17
  go_wp2_with (first
    | (with_reducible refine call_invoke 23 _ "dactyl/press.stands" (.iface 70 (.agg #[])) 89 (.agg #[]) _ rfl inv_run (st_run w) ?_; rintro e w2 ⟨rfl, hb2⟩; refine ⟨_, rfl, ?_⟩)
    | (go_at_call 39; refine (hcT.out _ hb2).mono ?_; rintro e w3 ⟨rfl, m1, A1, MV1⟩; refine hold ?_))
  refine hide ?_
  have HP := hide A1
  have MZ : Hid (Mv w w3 (pfoot g m) (pfoot g m1)) := hide ((Mv.refl w (pfoot g m)).below hb2 |>.trans MV1)
  clear cc9 hcT A1 MV1 hb2
  obtain ⟨⟨a0, k0, q0⟩, ⟨a1, k1, q1⟩, ⟨E0, l0, z0⟩, ⟨E1, l1, z1⟩, wa, wc, ws, ta, tc, ts⟩ := m1
  obtain ⟨e0, he0, hl0, -⟩ := HP.out.inn.f0.look (k := r) (by rw [hd0]; exact hr)
  obtain ⟨e1, he1, hl1, -⟩ := HP.out.inn.f1.look (k := r) (by rw [hd1]; exact hr)
  simp only at he0 he1 hl0 hl1
  subst he0 he1
  obtain ⟨wz, hwz⟩ : ∃ wz, w3 = wz := ⟨_, rfl⟩
  subst hwz
  have X9 := HP.out.box
  go_wp2_with (with_reducible refine hold_store ?_)
  refine hide ?_
  refine store_cell 74 _ _ 76 g 9 _ (.iface 78 (.agg #[])) size_state X9 rfl rfl rfl rfl (by show _ < 10; omega) ?_; intro w9 x9 g9 s9
  have X10 : Box w9 g 76 [.slice a0 k0 q0, .slice a1 k1 q1, .slice (some ⟨e0, 0, none⟩) l0 z0, .slice (some ⟨e1, 0, none⟩) l1 z1, .int .i64 (r : Int), .bool b, .int .i64 (P : Int), .slice wa waiting.length wc, .slice ta tray.length tc, .iface 78 (.agg #[])] := x9
  have I10 : Hid (PIn w9 ⟨(a0, k0, q0), (a1, k1, q1), (some ⟨e0, 0, none⟩, l0, z0), (some ⟨e1, 0, none⟩, l1, z1), wa, wc, ws, ta, tc, ts⟩ ⟨w0, w1, d0, d1, r, b, P, waiting, tray, 1⟩) := hide (HP.out.inn.put X9 rfl g9).nums
  have M10 := hide (MZ.out.grown g9 (fun c hc => by cases hc; simp [pfoot, mutB]))
  clear x9 g9 s9 X9
  go_wp2_with fail
  go_ret
  exact ⟨rfl, ⟨(a0, k0, q0), (a1, k1, q1), (some ⟨e0, 0, none⟩, l0, z0), (some ⟨e1, 0, none⟩, l1, z1), wa, wc, ws, ta, tc, ts⟩, ⟨X10, I10.out⟩, M10.out⟩
set_option maxRecDepth 100000 in
set_option maxHeartbeats 8000000 in
theorem pr_Step_f3 (g : Nat) (m : PM) (S : Pr) (w0 w1 d0 d1 : Pgl) (r : Nat) (b : Bool) (P : Nat) (waiting tray : List Sht) (w : World) (h : PAt w g m S) (hmode : S.mode = 0) (hpap : S.paper ≤ 1000) (hT : takeP S = (⟨w0, w1, d0, d1, r, b, P, waiting, tray, 0⟩, 0))
    (hr : r < 25) (hd0 : d0.length = 25) (hd1 : d1.length = 25) (hcp : Cp w0 ∧ Cp w1) (htr : tray.length ≤ 10000) :
    Calls Try.prog 17 #[.pointer (some ⟨g, 0, none⟩), .int .i64 3] w fun e w' => e = .returned (.int .i64 25) ∧ ∃ m', PAt w' g m' (⟨w0, w1, d0, d1, r, b, P, waiting, tray, 2⟩) ∧ Mv w w' (pfoot g m) (pfoot g m') := by
  have cc9 : w.cell? ⟨g, 9, none⟩ = some (.iface 70 (.agg #[])) := by
    have h2 := h.box
    unfold pcells at h2
    rw [hmode] at h2
    exact h2.at_ (j := 9) rfl
  have hcT : Hid (∀ w2, Below w.heap.size w w2 → Calls Try.prog 39 #[.pointer (some ⟨g, 0, none⟩)] w2 fun e w' => e = .returned (.int .i64 0) ∧ ∃ m', PAt w' g m' ⟨w0, w1, d0, d1, r, b, P, waiting, tray, 0⟩ ∧ Mv w2 w' (pfoot g m) (pfoot g m')) := hide (fun w2 hb2 => by
    have := pr_take g m S w2 (h.below hb2) hpap
    rw [hT] at this
    exact this)
  clear h hmode hpap hT
  go_enter Try.func17, Try.ntmps17
  go_wp2_with (first
    | (with_reducible refine call_invoke 23 _ "dactyl/press.stands" (.iface 70 (.agg #[])) 89 (.agg #[]) _ rfl inv_run (st_run w) ?_; rintro e w2 ⟨rfl, hb2⟩; refine ⟨_, rfl, ?_⟩)
    | (go_at_call 39; refine (hcT.out _ hb2).mono ?_; rintro e w3 ⟨rfl, m1, A1, MV1⟩; refine hold ?_))
  refine hide ?_
  have HP := hide A1
  have MZ : Hid (Mv w w3 (pfoot g m) (pfoot g m1)) := hide ((Mv.refl w (pfoot g m)).below hb2 |>.trans MV1)
  clear cc9 hcT A1 MV1 hb2
  obtain ⟨⟨a0, k0, q0⟩, ⟨a1, k1, q1⟩, ⟨E0, l0, z0⟩, ⟨E1, l1, z1⟩, wa, wc, ws, ta, tc, ts⟩ := m1
  obtain ⟨e0, he0, hl0, -⟩ := HP.out.inn.f0.look (k := r) (by rw [hd0]; exact hr)
  obtain ⟨e1, he1, hl1, -⟩ := HP.out.inn.f1.look (k := r) (by rw [hd1]; exact hr)
  simp only at he0 he1 hl0 hl1
  subst he0 he1
  obtain ⟨wz, hwz⟩ : ∃ wz, w3 = wz := ⟨_, rfl⟩
  subst hwz
  have X9 := HP.out.box
  go_wp2_with (with_reducible refine hold_store ?_)
  refine hide ?_
  refine store_cell 74 _ _ 76 g 9 _ (.iface 79 (.agg #[])) size_state X9 rfl rfl rfl rfl (by show _ < 10; omega) ?_; intro w9 x9 g9 s9
  have X10 : Box w9 g 76 [.slice a0 k0 q0, .slice a1 k1 q1, .slice (some ⟨e0, 0, none⟩) l0 z0, .slice (some ⟨e1, 0, none⟩) l1 z1, .int .i64 (r : Int), .bool b, .int .i64 (P : Int), .slice wa waiting.length wc, .slice ta tray.length tc, .iface 79 (.agg #[])] := x9
  have I10 : Hid (PIn w9 ⟨(a0, k0, q0), (a1, k1, q1), (some ⟨e0, 0, none⟩, l0, z0), (some ⟨e1, 0, none⟩, l1, z1), wa, wc, ws, ta, tc, ts⟩ ⟨w0, w1, d0, d1, r, b, P, waiting, tray, 2⟩) := hide (HP.out.inn.put X9 rfl g9).nums
  have M10 := hide (MZ.out.grown g9 (fun c hc => by cases hc; simp [pfoot, mutB]))
  clear x9 g9 s9 X9
  go_wp2_with fail
  go_ret
  exact ⟨rfl, ⟨(a0, k0, q0), (a1, k1, q1), (some ⟨e0, 0, none⟩, l0, z0), (some ⟨e1, 0, none⟩, l1, z1), wa, wc, ws, ta, tc, ts⟩, ⟨X10, I10.out⟩, M10.out⟩
set_option maxRecDepth 100000 in
set_option maxHeartbeats 8000000 in
theorem pr_Step_f1 (g : Nat) (m : PM) (S : Pr) (w0 w1 d0 d1 : Pgl) (r : Nat) (b : Bool) (P : Nat) (waiting tray : List Sht) (w : World) (h : PAt w g m S) (hmode : S.mode = 0) (hpap : S.paper ≤ 1000) (hT : takeP S = (⟨w0, w1, d0, d1, r, b, P, waiting, tray, 0⟩, 0))
    (hr : r < 25) (hd0 : d0.length = 25) (hd1 : d1.length = 25) (hcp : Cp w0 ∧ Cp w1) (htr : tray.length ≤ 10000) :
    Calls Try.prog 17 #[.pointer (some ⟨g, 0, none⟩), .int .i64 1] w fun e w' => e = .returned (.int .i64 0) ∧ ∃ m', PAt w' g m' (doneP ⟨w0, w1, d0, d1, r, b, P, waiting, tray, 0⟩) ∧ Mv w w' (pfoot g m) (pfoot g m') := by
  have cc9 : w.cell? ⟨g, 9, none⟩ = some (.iface 70 (.agg #[])) := by
    have h2 := h.box
    unfold pcells at h2
    rw [hmode] at h2
    exact h2.at_ (j := 9) rfl
  have hcT : Hid (∀ w2, Below w.heap.size w w2 → Calls Try.prog 39 #[.pointer (some ⟨g, 0, none⟩)] w2 fun e w' => e = .returned (.int .i64 0) ∧ ∃ m', PAt w' g m' ⟨w0, w1, d0, d1, r, b, P, waiting, tray, 0⟩ ∧ Mv w2 w' (pfoot g m) (pfoot g m')) := hide (fun w2 hb2 => by
    have := pr_take g m S w2 (h.below hb2) hpap
    rw [hT] at this
    exact this)
  clear h hmode hpap hT
  go_enter Try.func17, Try.ntmps17
  go_wp2_with (first
    | (with_reducible refine call_invoke 23 _ "dactyl/press.stands" (.iface 70 (.agg #[])) 89 (.agg #[]) _ rfl inv_run (st_run w) ?_; rintro e w2 ⟨rfl, hb2⟩; refine ⟨_, rfl, ?_⟩)
    | (go_at_call 39; refine (hcT.out _ hb2).mono ?_; rintro e w3 ⟨rfl, m1, A1, MV1⟩; refine hold ?_))
  refine hide ?_
  have HP := hide A1
  have MZ : Hid (Mv w w3 (pfoot g m) (pfoot g m1)) := hide ((Mv.refl w (pfoot g m)).below hb2 |>.trans MV1)
  clear cc9 hcT A1 MV1 hb2
  obtain ⟨⟨a0, k0, q0⟩, ⟨a1, k1, q1⟩, ⟨E0, l0, z0⟩, ⟨E1, l1, z1⟩, wa, wc, ws, ta, tc, ts⟩ := m1
  obtain ⟨e0, he0, hl0, -⟩ := HP.out.inn.f0.look (k := r) (by rw [hd0]; exact hr)
  obtain ⟨e1, he1, hl1, -⟩ := HP.out.inn.f1.look (k := r) (by rw [hd1]; exact hr)
  simp only at he0 he1 hl0 hl1
  subst he0 he1
  obtain ⟨wz, hwz⟩ : ∃ wz, w3 = wz := ⟨_, rfl⟩
  subst hwz
  obtain ⟨r1, hr1⟩ : ∃ r1, Hid (r + 1 = r1) := ⟨_, hide rfl⟩
  have hr1i : (r : Int) + 1 = (r1 : Int) := by have := hr1.out; omega
  have X9 := HP.out.box
  have cr : w3.cell? ⟨g, 4, none⟩ = some (.int .i64 (r : Int)) := X9.at_ (j := 4) rfl
  go_wp2_with (with_reducible refine hold_store ?_)
  refine hide ?_
  refine store_cell 3 _ _ 76 g 4 _ (.int .i64 (r1 : Int)) size_int1 X9 rfl rfl rfl rfl (by show _ < 10; omega) ?_; intro w9 x9 g9 s9
  have X10 : Box w9 g 76 [.slice a0 k0 q0, .slice a1 k1 q1, .slice (some ⟨e0, 0, none⟩) l0 z0, .slice (some ⟨e1, 0, none⟩) l1 z1, .int .i64 (r1 : Int), .bool b, .int .i64 (P : Int), .slice wa waiting.length wc, .slice ta tray.length tc, .iface 70 (.agg #[])] := x9
  have I10 : Hid (PIn w9 ⟨(a0, k0, q0), (a1, k1, q1), (some ⟨e0, 0, none⟩, l0, z0), (some ⟨e1, 0, none⟩, l1, z1), wa, wc, ws, ta, tc, ts⟩ ⟨w0, w1, d0, d1, r1, b, P, waiting, tray, 0⟩) := hide (HP.out.inn.put X9 rfl g9).nums
  have M10 := hide (MZ.out.grown g9 (fun c hc => by cases hc; simp [pfoot, mutB]))
  have HP10 : Hid (PAt w9 g ⟨(a0, k0, q0), (a1, k1, q1), (some ⟨e0, 0, none⟩, l0, z0), (some ⟨e1, 0, none⟩, l1, z1), wa, wc, ws, ta, tc, ts⟩ ⟨w0, w1, d0, d1, r1, b, P, waiting, tray, 0⟩) := hide ⟨X10, I10.out⟩
  clear x9 g9 s9 X9 cr I10
  have cr1 := X10.at_ (j := 4) rfl
  by_cases hlast : r1 = 25
  · have HD : Hid (doneP ⟨w0, w1, d0, d1, r, b, P, waiting, tray, 0⟩ = layP ⟨w0, w1, d0, d1, 25, b, P, waiting, tray, 0⟩) := hide (by
      show (if r + 1 = 25 then layP ⟨w0, w1, d0, d1, r + 1, b, P, waiting, tray, 0⟩ else _) = _
      rw [hr1.out, if_pos hlast, hlast])
    subst hlast
    have hcL := hide (pr_lay g _ _ w9 HP10.out htr)
    clear X10
    go_wp2_with (go_at_call 41; refine hcL.out.mono ?_; rintro e w11 ⟨rfl, m11, A11, MV11⟩)
    go_ret
    rw [HD.out]
    exact ⟨rfl, m11, A11, M10.out.trans MV11⟩
  · have HD : Hid (doneP ⟨w0, w1, d0, d1, r, b, P, waiting, tray, 0⟩ = ⟨w0, w1, d0, d1, r1, b, P, waiting, tray, 0⟩) := hide (by
      show (if r + 1 = 25 then _ else (⟨w0, w1, d0, d1, r + 1, b, P, waiting, tray, 0⟩ : Pr)) = _
      rw [hr1.out, if_neg hlast])
    have hdl : decide ((r1 : Int) = 25) = false := decide_eq_false (by omega)
    have hdl2 : ¬ r1 = 25 := hlast
    clear X10
    go_wp2_with fail
    go_ret
    rw [HD.out]
    exact ⟨rfl, _, HP10.out, M10.out⟩
set_option maxRecDepth 100000 in
set_option maxHeartbeats 8000000 in
theorem pr_Step_f0 (g : Nat) (m : PM) (S : Pr) (w0 w1 d0 d1 : Pgl) (r : Nat) (b : Bool) (P : Nat) (waiting tray : List Sht) (w : World) (h : PAt w g m S) (hmode : S.mode = 0) (hpap : S.paper ≤ 1000) (hT : takeP S = (⟨w0, w1, d0, d1, r, b, P, waiting, tray, 0⟩, 0))
    (hr : r < 25) (hd0 : d0.length = 25) (hd1 : d1.length = 25) (hcp : Cp w0 ∧ Cp w1) (htr : tray.length ≤ 10000) :
    Calls Try.prog 17 #[.pointer (some ⟨g, 0, none⟩), .int .i64 0] w fun e w' => e = .returned (.int .i64 0) ∧ ∃ m', PAt w' g m' (doneP (embP ⟨w0, w1, d0, d1, r, b, P, waiting, tray, 0⟩)) ∧ Mv w w' (pfoot g m) (pfoot g m') := by
  have cc9 : w.cell? ⟨g, 9, none⟩ = some (.iface 70 (.agg #[])) := by
    have h2 := h.box
    unfold pcells at h2
    rw [hmode] at h2
    exact h2.at_ (j := 9) rfl
  have hcT : Hid (∀ w2, Below w.heap.size w w2 → Calls Try.prog 39 #[.pointer (some ⟨g, 0, none⟩)] w2 fun e w' => e = .returned (.int .i64 0) ∧ ∃ m', PAt w' g m' ⟨w0, w1, d0, d1, r, b, P, waiting, tray, 0⟩ ∧ Mv w2 w' (pfoot g m) (pfoot g m')) := hide (fun w2 hb2 => by
    have := pr_take g m S w2 (h.below hb2) hpap
    rw [hT] at this
    exact this)
  clear h hmode hpap hT
  go_enter Try.func17, Try.ntmps17
  go_wp2_with (first
    | (with_reducible refine call_invoke 23 _ "dactyl/press.stands" (.iface 70 (.agg #[])) 89 (.agg #[]) _ rfl inv_run (st_run w) ?_; rintro e w2 ⟨rfl, hb2⟩; refine ⟨_, rfl, ?_⟩)
    | (go_at_call 39; refine (hcT.out _ hb2).mono ?_; rintro e w3 ⟨rfl, m1, A1, MV1⟩; refine hold ?_))
  refine hide ?_
  have HP := hide A1
  have MZ : Hid (Mv w w3 (pfoot g m) (pfoot g m1)) := hide ((Mv.refl w (pfoot g m)).below hb2 |>.trans MV1)
  clear cc9 hcT A1 MV1 hb2
  obtain ⟨⟨a0, k0, q0⟩, ⟨a1, k1, q1⟩, ⟨E0, l0, z0⟩, ⟨E1, l1, z1⟩, wa, wc, ws, ta, tc, ts⟩ := m1
  obtain ⟨e0, he0, hl0, -⟩ := HP.out.inn.f0.look (k := r) (by rw [hd0]; exact hr)
  obtain ⟨e1, he1, hl1, -⟩ := HP.out.inn.f1.look (k := r) (by rw [hd1]; exact hr)
  simp only at he0 he1 hl0 hl1
  subst he0 he1
  obtain ⟨wz, hwz⟩ : ∃ wz, w3 = wz := ⟨_, rfl⟩
  subst hwz
  obtain ⟨m1, hm1⟩ : ∃ m1 : PM, m1 = ⟨(a0, k0, q0), (a1, k1, q1), (some ⟨e0, 0, none⟩, l0, z0), (some ⟨e1, 0, none⟩, l1, z1), wa, wc, ws, ta, tc, ts⟩ := ⟨_, rfl⟩
  have hk0 : Hid (k0 = w0.length) := hide HP.out.inn.t0.len
  have hk1 : Hid (k1 = w1.length) := hide HP.out.inn.t1.len
  have c0 : w3.cell? ⟨g, 0, none⟩ = some (.slice a0 k0 q0) := HP.out.box.at_ (j := 0) rfl
  have c1 : w3.cell? ⟨g, 1, none⟩ = some (.slice a1 k1 q1) := HP.out.box.at_ (j := 1) rfl
  have hrd0 : r < d0.length := by rw [hd0]; exact hr
  have hrd1 : r < d1.length := by rw [hd1]; exact hr
  have hrl0 : r < l0 := by omega
  have hrl1 : r < l1 := by omega
  clear hl0 hl1 hd0 hd1
  go_wp2_with (with_reducible refine load_sheet2 53 _ g 0 1 rfl (.slice a0 k0 q0) (.slice a1 k1 q1) c0 c1 rfl ?_)
  rw [← hm1] at HP MZ
  go_loopg [54] 2 (fun gh v w' => ∃ (i : Nat), i ≤ 2 ∧ gh = 2 - i ∧ v = .int .i64 (i : Int) ∧ PAt w' g m1 (emS w0 w1 d0 d1 r b P waiting tray 0 i) ∧ Mv w w' (pfoot g m) (pfoot g m1))
  case atStart => exact ⟨0, by omega, rfl, rfl, HP.out, MZ.out⟩
  case round =>
    obtain ⟨i, hi, hg, rfl, hPA, hMV'⟩ := hrel
    have HG := hide hg
    have PA := hide hPA
    have MV := hide hMV'
    clear hg hPA hMV' HP MZ c0 c1
    subst hm1
    match i, hi with
    | 0, _ =>
      have ce : wr.cell? ⟨g, 2, none⟩ = some (.slice (some ⟨e0, 0, none⟩) l0 z0) := PA.out.box.at_ (j := 2) rfl
      have cr : wr.cell? ⟨g, 4, none⟩ = some (.int .i64 (r : Int)) := PA.out.box.at_ (j := 4) rfl
      by_cases hlt : r < w0.length
      · obtain ⟨rw, hrw⟩ : ∃ rw, w0[r]? = some rw := ⟨w0[r], by simp [hlt]⟩
        obtain ⟨hs0, hpg⟩ : ∃ hs0, Hid (Pg wr a0 k0 q0 hs0 w0) := by
          obtain ⟨x, hx⟩ := PA.out.inn.t0.pg
          exact ⟨x, hide hx⟩
        obtain ⟨ra, rc, hu, hsr⟩ := hpg.out.get hrw
        obtain ⟨rn, hrn⟩ : ∃ rn, Hid (rw.length = rn) := ⟨_, hide rfl⟩
        rw [hrn.out] at hu hsr
        have HU := hide hu
        have hcl := hide (fun (w1 : World) (hb : Below wr.heap.size wr w1) => clone6 rw ra rn rc w1 (hsr.below hb) (by rw [← hrn.out]; exact hcp.1.1 rw (List.mem_of_getElem? hrw)))
        have HE : Hid (rowD r w0 d0 = d0.set r rw) := hide (rowD_yes _ hrw)
        have hdl : r < k0 := by have := hk0.out; omega
        clear hu hsr hrw
        go_wp2_with (with_reducible refine hold_index ?_)
        refine hide ?_
        refine index_val 57 29 28 2 _ _ Try.underlying29 size_page isagg_page [.slice a0 k0 q0, .slice a1 k1 q1] rfl .i64 0 rfl (by decide) (.slice a0 k0 q0) rfl ?_
        go_wp2_with fail
        refine wp_region_free 21 [⟨0, 66, [66], fun vs _ => vs = [.pointer (some ⟨g, 0, none⟩)]⟩, ⟨1, 67, [67], fun vs _ => vs = [.int .i64 0]⟩, ⟨2, 68, [68], fun vs _ => vs = [.pointer (some ⟨g, 0, none⟩)]⟩, ⟨3, 69, [69], fun vs _ => vs = [.pointer (some ⟨g, 0, none⟩)]⟩, ⟨4, 70, [70], fun vs _ => vs = [.pointer (some ⟨g, 2, none⟩)]⟩, ⟨5, 71, [71], fun vs _ => vs = [.pointer (some ⟨g, 2, none⟩)]⟩, ⟨6, 72, [72], fun vs _ => vs = [.slice (some ⟨e0, 0, none⟩) l0 z0]⟩, ⟨7, 73, [73], fun vs _ => vs = [.pointer (some ⟨g, 0, none⟩)]⟩, ⟨8, 74, [74], fun vs _ => vs = [.pointer (some ⟨g, 0, none⟩)]⟩, ⟨9, 75, [75], fun vs _ => vs = [.pointer (some ⟨g, 0, none⟩)]⟩, ⟨10, 76, [76], fun vs _ => vs = [.pointer (some ⟨g, 4, none⟩)]⟩, ⟨11, 77, [77], fun vs _ => vs = [.int .i64 (r : Int)]⟩, ⟨12, 78, [78], fun vs _ => vs = [.slice a0 k0 q0]⟩, ⟨13, 79, [79], fun vs _ => vs = [.pointer (some ⟨g, 0, none⟩)]⟩, ⟨14, 80, [80], fun vs _ => vs = [.pointer (some ⟨g, 0, none⟩)]⟩, ⟨15, 81, [81], fun vs _ => vs = [.pointer (some ⟨g, 0, none⟩)]⟩, ⟨16, 82, [82], fun vs _ => vs = [.pointer (some ⟨g, 4, none⟩)]⟩, ⟨17, 83, [83], fun vs _ => vs = [.int .i64 (r : Int)]⟩, ⟨18, 84, [84], PtF (.slice ra rn rc)⟩, ⟨19, 85, [85], fun vs _ => vs = [.slice ra rn rc]⟩, ⟨20, 86, [86], ClF wr.heap.size rn rw⟩] (by kernel_rfl) (by kernel_rfl) ?_ ?_ ?_
        · simp only [All]
          refine ⟨fun _ _ _ _ h => h, fun _ _ _ _ h => h, fun _ _ _ _ h => h, fun _ _ _ _ h => h, fun _ _ _ _ h => h, fun _ _ _ _ h => h, fun _ _ _ _ h => h, fun _ _ _ _ h => h, fun _ _ _ _ h => h, fun _ _ _ _ h => h, fun _ _ _ _ h => h, fun _ _ _ _ h => h, fun _ _ _ _ h => h, fun _ _ _ _ h => h, fun _ _ _ _ h => h, fun _ _ _ _ h => h, fun _ _ _ _ h => h, fun _ _ _ _ h => h, ?_, fun _ _ _ _ h => h, ?_, trivial⟩
          · rintro vs w1 w2 hb ⟨b, o, h1, h2⟩
            exact ⟨b, o, h1, cell_blw h2 hb⟩
          · rintro vs w1 w2 hb ⟨a', c', h1, h2⟩
            exact ⟨a', c', h1, h2.below hb⟩
        · simp only [All]
          refine ⟨?_, ?_, ?_, ?_, ?_, ?_, ?_, ?_, ?_, ?_, ?_, ?_, ?_, ?_, ?_, ?_, ?_, ?_, ?_, ?_, ?_, trivial⟩
          · intro o ho a' w' hb hfr hdep
            obtain rfl := Option.some.inj ho
            have g0 : a'.tmps[0]?.getD undef = .pointer (some ⟨g, 0, none⟩) := by have h := hfr 0 (by kernel_rfl); simpa using h
            clear ho hfr hdep
            go_wp2_with fail
            exact ⟨rfl, _, rfl, Below.refl _ _, rfl⟩
          · intro o ho a' w' hb hfr hdep
            obtain rfl := Option.some.inj ho
            have g7 : a'.tmps[7]?.getD undef = .int .i64 0 := by have h := hfr 7 (by kernel_rfl); simpa using h
            clear ho hfr hdep
            go_wp2_with fail
            exact ⟨rfl, _, rfl, Below.refl _ _, rfl⟩
          · intro o ho a' w' hb hfr hdep
            obtain rfl := Option.some.inj ho
            have g66 : a'.tmps[66]?.getD undef = .pointer (some ⟨g, 0, none⟩) := by have h := hdep 0 _ rfl (by kernel_rfl); simpa using h
            clear ho hfr hdep
            go_wp2_with fail
            exact ⟨rfl, _, rfl, Below.refl _ _, rfl⟩
          · intro o ho a' w' hb hfr hdep
            obtain rfl := Option.some.inj ho
            have g68 : a'.tmps[68]?.getD undef = .pointer (some ⟨g, 0, none⟩) := by have h := hdep 2 _ rfl (by kernel_rfl); simpa using h
            clear ho hfr hdep
            go_wp2_with fail
            exact ⟨rfl, _, rfl, Below.refl _ _, rfl⟩
          · intro o ho a' w' hb hfr hdep
            obtain rfl := Option.some.inj ho
            have g69 : a'.tmps[69]?.getD undef = .pointer (some ⟨g, 0, none⟩) := by have h := hdep 3 _ rfl (by kernel_rfl); simpa using h
            clear ho hfr hdep
            go_wp2_with fail
            exact ⟨rfl, _, rfl, Below.refl _ _, rfl⟩
          · intro o ho a' w' hb hfr hdep
            obtain rfl := Option.some.inj ho
            have g70 : a'.tmps[70]?.getD undef = .pointer (some ⟨g, 2, none⟩) := by have h := hdep 4 _ rfl (by kernel_rfl); simpa using h
            have g67 : a'.tmps[67]?.getD undef = .int .i64 0 := by have h := hdep 1 _ rfl (by kernel_rfl); simpa using h
            clear ho hfr hdep
            go_wp2_with fail
            exact ⟨rfl, _, rfl, Below.refl _ _, rfl⟩
          · intro o ho a' w' hb hfr hdep
            obtain rfl := Option.some.inj ho
            have g71 : a'.tmps[71]?.getD undef = .pointer (some ⟨g, 2, none⟩) := by have h := hdep 5 _ rfl (by kernel_rfl); simpa using h
            clear ho hfr hdep
            have hcl := cell_blw ce hb
            go_wp2_with fail
            exact ⟨rfl, _, rfl, Below.refl _ _, rfl⟩
          · intro o ho a' w' hb hfr hdep
            obtain rfl := Option.some.inj ho
            have g0 : a'.tmps[0]?.getD undef = .pointer (some ⟨g, 0, none⟩) := by have h := hfr 0 (by kernel_rfl); simpa using h
            clear ho hfr hdep
            go_wp2_with fail
            exact ⟨rfl, _, rfl, Below.refl _ _, rfl⟩
          · intro o ho a' w' hb hfr hdep
            obtain rfl := Option.some.inj ho
            have g73 : a'.tmps[73]?.getD undef = .pointer (some ⟨g, 0, none⟩) := by have h := hdep 7 _ rfl (by kernel_rfl); simpa using h
            clear ho hfr hdep
            go_wp2_with fail
            exact ⟨rfl, _, rfl, Below.refl _ _, rfl⟩
          · intro o ho a' w' hb hfr hdep
            obtain rfl := Option.some.inj ho
            have g74 : a'.tmps[74]?.getD undef = .pointer (some ⟨g, 0, none⟩) := by have h := hdep 8 _ rfl (by kernel_rfl); simpa using h
            clear ho hfr hdep
            go_wp2_with fail
            exact ⟨rfl, _, rfl, Below.refl _ _, rfl⟩
          · intro o ho a' w' hb hfr hdep
            obtain rfl := Option.some.inj ho
            have g75 : a'.tmps[75]?.getD undef = .pointer (some ⟨g, 0, none⟩) := by have h := hdep 9 _ rfl (by kernel_rfl); simpa using h
            clear ho hfr hdep
            go_wp2_with fail
            exact ⟨rfl, _, rfl, Below.refl _ _, rfl⟩
          · intro o ho a' w' hb hfr hdep
            obtain rfl := Option.some.inj ho
            have g76 : a'.tmps[76]?.getD undef = .pointer (some ⟨g, 4, none⟩) := by have h := hdep 10 _ rfl (by kernel_rfl); simpa using h
            clear ho hfr hdep
            have hcl := cell_blw cr hb
            go_wp2_with fail
            exact ⟨rfl, _, rfl, Below.refl _ _, rfl⟩
          · intro o ho a' w' hb hfr hdep
            obtain rfl := Option.some.inj ho
            have g8 : a'.tmps[8]?.getD undef = .slice a0 k0 q0 := by have h := hfr 8 (by kernel_rfl); simpa using h
            clear ho hfr hdep
            go_wp2_with fail
            exact ⟨rfl, _, rfl, Below.refl _ _, rfl⟩
          · intro o ho a' w' hb hfr hdep
            obtain rfl := Option.some.inj ho
            have g0 : a'.tmps[0]?.getD undef = .pointer (some ⟨g, 0, none⟩) := by have h := hfr 0 (by kernel_rfl); simpa using h
            clear ho hfr hdep
            go_wp2_with fail
            exact ⟨rfl, _, rfl, Below.refl _ _, rfl⟩
          · intro o ho a' w' hb hfr hdep
            obtain rfl := Option.some.inj ho
            have g79 : a'.tmps[79]?.getD undef = .pointer (some ⟨g, 0, none⟩) := by have h := hdep 13 _ rfl (by kernel_rfl); simpa using h
            clear ho hfr hdep
            go_wp2_with fail
            exact ⟨rfl, _, rfl, Below.refl _ _, rfl⟩
          · intro o ho a' w' hb hfr hdep
            obtain rfl := Option.some.inj ho
            have g80 : a'.tmps[80]?.getD undef = .pointer (some ⟨g, 0, none⟩) := by have h := hdep 14 _ rfl (by kernel_rfl); simpa using h
            clear ho hfr hdep
            go_wp2_with fail
            exact ⟨rfl, _, rfl, Below.refl _ _, rfl⟩
          · intro o ho a' w' hb hfr hdep
            obtain rfl := Option.some.inj ho
            have g81 : a'.tmps[81]?.getD undef = .pointer (some ⟨g, 0, none⟩) := by have h := hdep 15 _ rfl (by kernel_rfl); simpa using h
            clear ho hfr hdep
            go_wp2_with fail
            exact ⟨rfl, _, rfl, Below.refl _ _, rfl⟩
          · intro o ho a' w' hb hfr hdep
            obtain rfl := Option.some.inj ho
            have g82 : a'.tmps[82]?.getD undef = .pointer (some ⟨g, 4, none⟩) := by have h := hdep 16 _ rfl (by kernel_rfl); simpa using h
            clear ho hfr hdep
            have hcl := cell_blw cr hb
            go_wp2_with fail
            exact ⟨rfl, _, rfl, Below.refl _ _, rfl⟩
          · intro o ho a' w' hb hfr hdep
            obtain rfl := Option.some.inj ho
            have g78 : a'.tmps[78]?.getD undef = .slice a0 k0 q0 := by have h := hdep 12 _ rfl (by kernel_rfl); simpa using h
            have g83 : a'.tmps[83]?.getD undef = .int .i64 (r : Int) := by have h := hdep 17 _ rfl (by kernel_rfl); simpa using h
            clear ho hfr hdep
            refine idx_p 84 _ _ _ _ _ hs0 (by show a'.tmps.getD 78 undef = _; simpa using g78) (hpg.out.top.below hb) _ _ r (by show a'.tmps.getD 83 undef = _; simpa using g83) rfl _ HU.out ?_
            intro b o hcell hbo
            exact ⟨rfl, _, rfl, Below.refl _ _, b, o, rfl, hcell⟩
          · intro o ho a' w' hb hfr hdep
            obtain rfl := Option.some.inj ho
            obtain ⟨b84, o84, g84, c84⟩ := hdep 18 _ rfl (by kernel_rfl)
            simp at g84
            clear ho hfr hdep
            have hcl := c84
            go_wp2_with fail
            exact ⟨rfl, _, rfl, Below.refl _ _, rfl⟩
          · intro o ho a' w' hb hfr hdep
            obtain rfl := Option.some.inj ho
            have g85 : a'.tmps[85]?.getD undef = .slice ra rn rc := by have h := hdep 19 _ rfl (by kernel_rfl); simpa using h
            clear ho hfr hdep
            go_wp2_with (go_at_call 40; refine (hcl.out _ hb).mono ?_; rintro e w2 ⟨a2, c2, rfl, o2, h2⟩)
            exact ⟨rfl, _, rfl, h2, a2, c2, rfl, o2.mono hb.size⟩
        · intro gg w6 hbl hp'
          obtain ⟨a2, c2, p86, o86⟩ := hp' 20 _ rfl
          have p72 := hp' 6 _ rfl
          have p77 := hp' 11 _ rfl
          clear hp'
          simp at p86 p72 p77
          simp only [List.drop_succ_cons, List.drop_zero, List.map_cons, List.map_nil, putAll, Act.put, List.setIfInBounds_toArray, List.set_cons_succ, List.set_cons_zero, List.cons_append, List.nil_append, p86, p72, p77]
          clear p86 p72 p77
          have I6 := PA.out.inn.below hbl
          have X6 := PA.out.box.under hbl
          obtain ⟨_, hb1, _, hqb, ⟨u, hu⟩, hfz⟩ := (I6.f0).look (k := r) hrd0
          cases hb1
          go_wp2_with (first
            | (with_reducible refine index_known 87 _ _ _ 31 Try.underlying28 size_row e0 l0 z0 rfl _ _ r rfl rfl hrl0 ?_)
            | (with_reducible refine hold_store ?_))
          refine hide ?_
          refine store_slice _ _ _ size_row e0 r rfl a2 rn c2 rfl u hu hfz ?_
          have I7 := I6.emb0 (q := ⟨e0, 0, none⟩) rfl (k := r) hrd0 (x := (a2, rn, c2)) o86.sl (Kind.own o86)
          have hgw := grown_poke w6 ⟨e0, r, none⟩ (.slice a2 rn c2)
          have X7 := X6.grown hgw (fun e => by cases e; exact (I6.f0).ne X6 (by decide) hqb)
          have MV7 := hide ((MV.out.below hbl).grown hgw (fun c hc => by cases hc; simp [pfoot, mutB]; simp [hqb]))
          have A7 : Hid (PAt (w6.setCell ⟨e0, r, none⟩ (.slice a2 rn c2)) g ⟨(a0, k0, q0), (a1, k1, q1), (some ⟨e0, 0, none⟩, l0, z0), (some ⟨e1, 0, none⟩, l1, z1), wa, wc, ws, ta, tc, ts⟩ (emS w0 w1 d0 d1 r b P waiting tray 0 1)) := hide (by
            have e1 : emS w0 w1 d0 d1 r b P waiting tray 0 1 = ⟨w0, w1, d0.set r rw, d1, r, b, P, waiting, tray, 0⟩ := by
              show (⟨w0, w1, rowD r w0 d0, d1, r, b, P, waiting, tray, 0⟩ : Pr) = _
              rw [HE.out]
            rw [e1]
            exact ⟨X7, I7⟩)
          generalize w6.setCell ⟨e0, r, none⟩ (.slice a2 rn c2) = w7 at A7 MV7 ⊢
          clear I6 X6 hu hfz hqb I7 hgw X7 hbl o86
          go_wp2
          go_roundg 1
          case measure => have := HG.out; omega
          case rel => exact ⟨1, by omega, rfl, rfl, A7.out, MV7.out⟩

      · have HE : Hid (emS w0 w1 d0 d1 r b P waiting tray 0 1 = emS w0 w1 d0 d1 r b P waiting tray 0 0) := hide (by
          show (⟨w0, w1, rowD r w0 d0, d1, r, b, P, waiting, tray, 0⟩ : Pr) = ⟨w0, w1, d0, d1, r, b, P, waiting, tray, 0⟩
          rw [rowD_no d0 hlt])
        have hdl : ¬ r < k0 := by have := hk0.out; omega
        go_wp2_with (with_reducible refine hold_index ?_)
        refine hide ?_
        refine index_val 57 29 28 2 _ _ Try.underlying29 size_page isagg_page [.slice a0 k0 q0, .slice a1 k1 q1] rfl .i64 0 rfl (by decide) (.slice a0 k0 q0) rfl ?_
        go_wp2_with fail
        go_roundg 1
        case measure => have := HG.out; omega
        case rel => exact ⟨1, by omega, rfl, rfl, by rw [HE.out]; exact PA.out, MV.out⟩
    | 1, _ =>
      have ce : wr.cell? ⟨g, 3, none⟩ = some (.slice (some ⟨e1, 0, none⟩) l1 z1) := PA.out.box.at_ (j := 3) rfl
      have cr : wr.cell? ⟨g, 4, none⟩ = some (.int .i64 (r : Int)) := PA.out.box.at_ (j := 4) rfl
      by_cases hlt : r < w1.length
      · obtain ⟨rw, hrw⟩ : ∃ rw, w1[r]? = some rw := ⟨w1[r], by simp [hlt]⟩
        obtain ⟨hs1, hpg⟩ : ∃ hs1, Hid (Pg wr a1 k1 q1 hs1 w1) := by
          obtain ⟨x, hx⟩ := PA.out.inn.t1.pg
          exact ⟨x, hide hx⟩
        obtain ⟨ra, rc, hu, hsr⟩ := hpg.out.get hrw
        obtain ⟨rn, hrn⟩ : ∃ rn, Hid (rw.length = rn) := ⟨_, hide rfl⟩
        rw [hrn.out] at hu hsr
        have HU := hide hu
        have hcl := hide (fun (w1 : World) (hb : Below wr.heap.size wr w1) => clone6 rw ra rn rc w1 (hsr.below hb) (by rw [← hrn.out]; exact hcp.2.1 rw (List.mem_of_getElem? hrw)))
        have HE : Hid (rowD r w1 d1 = d1.set r rw) := hide (rowD_yes _ hrw)
        have hdl : r < k1 := by have := hk1.out; omega
        clear hu hsr hrw
        go_wp2_with (with_reducible refine hold_index ?_)
        refine hide ?_
        refine index_val 57 29 28 2 _ _ Try.underlying29 size_page isagg_page [.slice a0 k0 q0, .slice a1 k1 q1] rfl .i64 1 rfl (by decide) (.slice a1 k1 q1) rfl ?_
        go_wp2_with fail
        refine wp_region_free 21 [⟨0, 66, [66], fun vs _ => vs = [.pointer (some ⟨g, 0, none⟩)]⟩, ⟨1, 67, [67], fun vs _ => vs = [.int .i64 1]⟩, ⟨2, 68, [68], fun vs _ => vs = [.pointer (some ⟨g, 0, none⟩)]⟩, ⟨3, 69, [69], fun vs _ => vs = [.pointer (some ⟨g, 0, none⟩)]⟩, ⟨4, 70, [70], fun vs _ => vs = [.pointer (some ⟨g, 2, none⟩)]⟩, ⟨5, 71, [71], fun vs _ => vs = [.pointer (some ⟨g, 3, none⟩)]⟩, ⟨6, 72, [72], fun vs _ => vs = [.slice (some ⟨e1, 0, none⟩) l1 z1]⟩, ⟨7, 73, [73], fun vs _ => vs = [.pointer (some ⟨g, 0, none⟩)]⟩, ⟨8, 74, [74], fun vs _ => vs = [.pointer (some ⟨g, 0, none⟩)]⟩, ⟨9, 75, [75], fun vs _ => vs = [.pointer (some ⟨g, 0, none⟩)]⟩, ⟨10, 76, [76], fun vs _ => vs = [.pointer (some ⟨g, 4, none⟩)]⟩, ⟨11, 77, [77], fun vs _ => vs = [.int .i64 (r : Int)]⟩, ⟨12, 78, [78], fun vs _ => vs = [.slice a1 k1 q1]⟩, ⟨13, 79, [79], fun vs _ => vs = [.pointer (some ⟨g, 0, none⟩)]⟩, ⟨14, 80, [80], fun vs _ => vs = [.pointer (some ⟨g, 0, none⟩)]⟩, ⟨15, 81, [81], fun vs _ => vs = [.pointer (some ⟨g, 0, none⟩)]⟩, ⟨16, 82, [82], fun vs _ => vs = [.pointer (some ⟨g, 4, none⟩)]⟩, ⟨17, 83, [83], fun vs _ => vs = [.int .i64 (r : Int)]⟩, ⟨18, 84, [84], PtF (.slice ra rn rc)⟩, ⟨19, 85, [85], fun vs _ => vs = [.slice ra rn rc]⟩, ⟨20, 86, [86], ClF wr.heap.size rn rw⟩] (by kernel_rfl) (by kernel_rfl) ?_ ?_ ?_
        · simp only [All]
          refine ⟨fun _ _ _ _ h => h, fun _ _ _ _ h => h, fun _ _ _ _ h => h, fun _ _ _ _ h => h, fun _ _ _ _ h => h, fun _ _ _ _ h => h, fun _ _ _ _ h => h, fun _ _ _ _ h => h, fun _ _ _ _ h => h, fun _ _ _ _ h => h, fun _ _ _ _ h => h, fun _ _ _ _ h => h, fun _ _ _ _ h => h, fun _ _ _ _ h => h, fun _ _ _ _ h => h, fun _ _ _ _ h => h, fun _ _ _ _ h => h, fun _ _ _ _ h => h, ?_, fun _ _ _ _ h => h, ?_, trivial⟩
          · rintro vs w1 w2 hb ⟨b, o, h1, h2⟩
            exact ⟨b, o, h1, cell_blw h2 hb⟩
          · rintro vs w1 w2 hb ⟨a', c', h1, h2⟩
            exact ⟨a', c', h1, h2.below hb⟩
        · simp only [All]
          refine ⟨?_, ?_, ?_, ?_, ?_, ?_, ?_, ?_, ?_, ?_, ?_, ?_, ?_, ?_, ?_, ?_, ?_, ?_, ?_, ?_, ?_, trivial⟩
          · intro o ho a' w' hb hfr hdep
            obtain rfl := Option.some.inj ho
            have g0 : a'.tmps[0]?.getD undef = .pointer (some ⟨g, 0, none⟩) := by have h := hfr 0 (by kernel_rfl); simpa using h
            clear ho hfr hdep
            go_wp2_with fail
            exact ⟨rfl, _, rfl, Below.refl _ _, rfl⟩
          · intro o ho a' w' hb hfr hdep
            obtain rfl := Option.some.inj ho
            have g7 : a'.tmps[7]?.getD undef = .int .i64 1 := by have h := hfr 7 (by kernel_rfl); simpa using h
            clear ho hfr hdep
            go_wp2_with fail
            exact ⟨rfl, _, rfl, Below.refl _ _, rfl⟩
          · intro o ho a' w' hb hfr hdep
            obtain rfl := Option.some.inj ho
            have g66 : a'.tmps[66]?.getD undef = .pointer (some ⟨g, 0, none⟩) := by have h := hdep 0 _ rfl (by kernel_rfl); simpa using h
            clear ho hfr hdep
            go_wp2_with fail
            exact ⟨rfl, _, rfl, Below.refl _ _, rfl⟩
          · intro o ho a' w' hb hfr hdep
            obtain rfl := Option.some.inj ho
            have g68 : a'.tmps[68]?.getD undef = .pointer (some ⟨g, 0, none⟩) := by have h := hdep 2 _ rfl (by kernel_rfl); simpa using h
            clear ho hfr hdep
            go_wp2_with fail
            exact ⟨rfl, _, rfl, Below.refl _ _, rfl⟩
          · intro o ho a' w' hb hfr hdep
            obtain rfl := Option.some.inj ho
            have g69 : a'.tmps[69]?.getD undef = .pointer (some ⟨g, 0, none⟩) := by have h := hdep 3 _ rfl (by kernel_rfl); simpa using h
            clear ho hfr hdep
            go_wp2_with fail
            exact ⟨rfl, _, rfl, Below.refl _ _, rfl⟩
          · intro o ho a' w' hb hfr hdep
            obtain rfl := Option.some.inj ho
            have g70 : a'.tmps[70]?.getD undef = .pointer (some ⟨g, 2, none⟩) := by have h := hdep 4 _ rfl (by kernel_rfl); simpa using h
            have g67 : a'.tmps[67]?.getD undef = .int .i64 1 := by have h := hdep 1 _ rfl (by kernel_rfl); simpa using h
            clear ho hfr hdep
            go_wp2_with fail
            exact ⟨rfl, _, rfl, Below.refl _ _, rfl⟩
          · intro o ho a' w' hb hfr hdep
            obtain rfl := Option.some.inj ho
            have g71 : a'.tmps[71]?.getD undef = .pointer (some ⟨g, 3, none⟩) := by have h := hdep 5 _ rfl (by kernel_rfl); simpa using h
            clear ho hfr hdep
            have hcl := cell_blw ce hb
            go_wp2_with fail
            exact ⟨rfl, _, rfl, Below.refl _ _, rfl⟩
          · intro o ho a' w' hb hfr hdep
            obtain rfl := Option.some.inj ho
            have g0 : a'.tmps[0]?.getD undef = .pointer (some ⟨g, 0, none⟩) := by have h := hfr 0 (by kernel_rfl); simpa using h
            clear ho hfr hdep
            go_wp2_with fail
            exact ⟨rfl, _, rfl, Below.refl _ _, rfl⟩
          · intro o ho a' w' hb hfr hdep
            obtain rfl := Option.some.inj ho
            have g73 : a'.tmps[73]?.getD undef = .pointer (some ⟨g, 0, none⟩) := by have h := hdep 7 _ rfl (by kernel_rfl); simpa using h
            clear ho hfr hdep
            go_wp2_with fail
            exact ⟨rfl, _, rfl, Below.refl _ _, rfl⟩
          · intro o ho a' w' hb hfr hdep
            obtain rfl := Option.some.inj ho
            have g74 : a'.tmps[74]?.getD undef = .pointer (some ⟨g, 0, none⟩) := by have h := hdep 8 _ rfl (by kernel_rfl); simpa using h
            clear ho hfr hdep
            go_wp2_with fail
            exact ⟨rfl, _, rfl, Below.refl _ _, rfl⟩
          · intro o ho a' w' hb hfr hdep
            obtain rfl := Option.some.inj ho
            have g75 : a'.tmps[75]?.getD undef = .pointer (some ⟨g, 0, none⟩) := by have h := hdep 9 _ rfl (by kernel_rfl); simpa using h
            clear ho hfr hdep
            go_wp2_with fail
            exact ⟨rfl, _, rfl, Below.refl _ _, rfl⟩
          · intro o ho a' w' hb hfr hdep
            obtain rfl := Option.some.inj ho
            have g76 : a'.tmps[76]?.getD undef = .pointer (some ⟨g, 4, none⟩) := by have h := hdep 10 _ rfl (by kernel_rfl); simpa using h
            clear ho hfr hdep
            have hcl := cell_blw cr hb
            go_wp2_with fail
            exact ⟨rfl, _, rfl, Below.refl _ _, rfl⟩
          · intro o ho a' w' hb hfr hdep
            obtain rfl := Option.some.inj ho
            have g8 : a'.tmps[8]?.getD undef = .slice a1 k1 q1 := by have h := hfr 8 (by kernel_rfl); simpa using h
            clear ho hfr hdep
            go_wp2_with fail
            exact ⟨rfl, _, rfl, Below.refl _ _, rfl⟩
          · intro o ho a' w' hb hfr hdep
            obtain rfl := Option.some.inj ho
            have g0 : a'.tmps[0]?.getD undef = .pointer (some ⟨g, 0, none⟩) := by have h := hfr 0 (by kernel_rfl); simpa using h
            clear ho hfr hdep
            go_wp2_with fail
            exact ⟨rfl, _, rfl, Below.refl _ _, rfl⟩
          · intro o ho a' w' hb hfr hdep
            obtain rfl := Option.some.inj ho
            have g79 : a'.tmps[79]?.getD undef = .pointer (some ⟨g, 0, none⟩) := by have h := hdep 13 _ rfl (by kernel_rfl); simpa using h
            clear ho hfr hdep
            go_wp2_with fail
            exact ⟨rfl, _, rfl, Below.refl _ _, rfl⟩
          · intro o ho a' w' hb hfr hdep
            obtain rfl := Option.some.inj ho
            have g80 : a'.tmps[80]?.getD undef = .pointer (some ⟨g, 0, none⟩) := by have h := hdep 14 _ rfl (by kernel_rfl); simpa using h
            clear ho hfr hdep
            go_wp2_with fail
            exact ⟨rfl, _, rfl, Below.refl _ _, rfl⟩
          · intro o ho a' w' hb hfr hdep
            obtain rfl := Option.some.inj ho
            have g81 : a'.tmps[81]?.getD undef = .pointer (some ⟨g, 0, none⟩) := by have h := hdep 15 _ rfl (by kernel_rfl); simpa using h
            clear ho hfr hdep
            go_wp2_with fail
            exact ⟨rfl, _, rfl, Below.refl _ _, rfl⟩
          · intro o ho a' w' hb hfr hdep
            obtain rfl := Option.some.inj ho
            have g82 : a'.tmps[82]?.getD undef = .pointer (some ⟨g, 4, none⟩) := by have h := hdep 16 _ rfl (by kernel_rfl); simpa using h
            clear ho hfr hdep
            have hcl := cell_blw cr hb
            go_wp2_with fail
            exact ⟨rfl, _, rfl, Below.refl _ _, rfl⟩
          · intro o ho a' w' hb hfr hdep
            obtain rfl := Option.some.inj ho
            have g78 : a'.tmps[78]?.getD undef = .slice a1 k1 q1 := by have h := hdep 12 _ rfl (by kernel_rfl); simpa using h
            have g83 : a'.tmps[83]?.getD undef = .int .i64 (r : Int) := by have h := hdep 17 _ rfl (by kernel_rfl); simpa using h
            clear ho hfr hdep
            refine idx_p 84 _ _ _ _ _ hs1 (by show a'.tmps.getD 78 undef = _; simpa using g78) (hpg.out.top.below hb) _ _ r (by show a'.tmps.getD 83 undef = _; simpa using g83) rfl _ HU.out ?_
            intro b o hcell hbo
            exact ⟨rfl, _, rfl, Below.refl _ _, b, o, rfl, hcell⟩
          · intro o ho a' w' hb hfr hdep
            obtain rfl := Option.some.inj ho
            obtain ⟨b84, o84, g84, c84⟩ := hdep 18 _ rfl (by kernel_rfl)
            simp at g84
            clear ho hfr hdep
            have hcl := c84
            go_wp2_with fail
            exact ⟨rfl, _, rfl, Below.refl _ _, rfl⟩
          · intro o ho a' w' hb hfr hdep
            obtain rfl := Option.some.inj ho
            have g85 : a'.tmps[85]?.getD undef = .slice ra rn rc := by have h := hdep 19 _ rfl (by kernel_rfl); simpa using h
            clear ho hfr hdep
            go_wp2_with (go_at_call 40; refine (hcl.out _ hb).mono ?_; rintro e w2 ⟨a2, c2, rfl, o2, h2⟩)
            exact ⟨rfl, _, rfl, h2, a2, c2, rfl, o2.mono hb.size⟩
        · intro gg w6 hbl hp'
          obtain ⟨a2, c2, p86, o86⟩ := hp' 20 _ rfl
          have p72 := hp' 6 _ rfl
          have p77 := hp' 11 _ rfl
          clear hp'
          simp at p86 p72 p77
          simp only [List.drop_succ_cons, List.drop_zero, List.map_cons, List.map_nil, putAll, Act.put, List.setIfInBounds_toArray, List.set_cons_succ, List.set_cons_zero, List.cons_append, List.nil_append, p86, p72, p77]
          clear p86 p72 p77
          have I6 := PA.out.inn.below hbl
          have X6 := PA.out.box.under hbl
          obtain ⟨_, hb1, _, hqb, ⟨u, hu⟩, hfz⟩ := (I6.f1).look (k := r) hrd1
          cases hb1
          go_wp2_with (first
            | (with_reducible refine index_known 87 _ _ _ 31 Try.underlying28 size_row e1 l1 z1 rfl _ _ r rfl rfl hrl1 ?_)
            | (with_reducible refine hold_store ?_))
          refine hide ?_
          refine store_slice _ _ _ size_row e1 r rfl a2 rn c2 rfl u hu hfz ?_
          have I7 := I6.emb1 (q := ⟨e1, 0, none⟩) rfl (k := r) hrd1 (x := (a2, rn, c2)) o86.sl (Kind.own o86)
          have hgw := grown_poke w6 ⟨e1, r, none⟩ (.slice a2 rn c2)
          have X7 := X6.grown hgw (fun e => by cases e; exact (I6.f1).ne X6 (by decide) hqb)
          have MV7 := hide ((MV.out.below hbl).grown hgw (fun c hc => by cases hc; simp [pfoot, mutB]; simp [hqb]))
          have A7 : Hid (PAt (w6.setCell ⟨e1, r, none⟩ (.slice a2 rn c2)) g ⟨(a0, k0, q0), (a1, k1, q1), (some ⟨e0, 0, none⟩, l0, z0), (some ⟨e1, 0, none⟩, l1, z1), wa, wc, ws, ta, tc, ts⟩ (emS w0 w1 d0 d1 r b P waiting tray 0 2)) := hide (by
            have e1 : emS w0 w1 d0 d1 r b P waiting tray 0 2 = ⟨w0, w1, rowD r w0 d0, d1.set r rw, r, b, P, waiting, tray, 0⟩ := by
              show (⟨w0, w1, rowD r w0 d0, rowD r w1 d1, r, b, P, waiting, tray, 0⟩ : Pr) = _
              rw [HE.out]
            rw [e1]
            exact ⟨X7, I7⟩)
          generalize w6.setCell ⟨e1, r, none⟩ (.slice a2 rn c2) = w7 at A7 MV7 ⊢
          clear I6 X6 hu hfz hqb I7 hgw X7 hbl o86
          go_wp2
          go_roundg 0
          case measure => have := HG.out; omega
          case rel => exact ⟨2, by omega, rfl, rfl, A7.out, MV7.out⟩

      · have HE : Hid (emS w0 w1 d0 d1 r b P waiting tray 0 2 = emS w0 w1 d0 d1 r b P waiting tray 0 1) := hide (by
          show (⟨w0, w1, rowD r w0 d0, rowD r w1 d1, r, b, P, waiting, tray, 0⟩ : Pr) = ⟨w0, w1, rowD r w0 d0, d1, r, b, P, waiting, tray, 0⟩
          rw [rowD_no d1 hlt])
        have hdl : ¬ r < k1 := by have := hk1.out; omega
        go_wp2_with (with_reducible refine hold_index ?_)
        refine hide ?_
        refine index_val 57 29 28 2 _ _ Try.underlying29 size_page isagg_page [.slice a0 k0 q0, .slice a1 k1 q1] rfl .i64 1 rfl (by decide) (.slice a1 k1 q1) rfl ?_
        go_wp2_with fail
        go_roundg 0
        case measure => have := HG.out; omega
        case rel => exact ⟨2, by omega, rfl, rfl, by rw [HE.out]; exact PA.out, MV.out⟩
    | 2, _ =>
      clear hk0 hk1 hrd0 hrd1 hrl0 hrl1
      have HP := PA
      have MZ := MV
      clear PA MV
      obtain ⟨r1, hr1⟩ : ∃ r1, Hid (r + 1 = r1) := ⟨_, hide rfl⟩
      have hr1i : (r : Int) + 1 = (r1 : Int) := by have := hr1.out; omega
      have X9 := HP.out.box
      have cr : wr.cell? ⟨g, 4, none⟩ = some (.int .i64 (r : Int)) := X9.at_ (j := 4) rfl
      go_wp2_with (with_reducible refine hold_store ?_)
      refine hide ?_
      refine store_cell 3 _ _ 76 g 4 _ (.int .i64 (r1 : Int)) size_int1 X9 rfl rfl rfl rfl (by show _ < 10; omega) ?_; intro w9 x9 g9 s9
      have X10 : Box w9 g 76 [.slice a0 k0 q0, .slice a1 k1 q1, .slice (some ⟨e0, 0, none⟩) l0 z0, .slice (some ⟨e1, 0, none⟩) l1 z1, .int .i64 (r1 : Int), .bool b, .int .i64 (P : Int), .slice wa waiting.length wc, .slice ta tray.length tc, .iface 70 (.agg #[])] := x9
      have I10 : Hid (PIn w9 ⟨(a0, k0, q0), (a1, k1, q1), (some ⟨e0, 0, none⟩, l0, z0), (some ⟨e1, 0, none⟩, l1, z1), wa, wc, ws, ta, tc, ts⟩ ⟨w0, w1, (rowD r w0 d0), (rowD r w1 d1), r1, b, P, waiting, tray, 0⟩) := hide (HP.out.inn.put X9 rfl g9).nums
      have M10 := hide (MZ.out.grown g9 (fun c hc => by cases hc; simp [pfoot, mutB]))
      have HP10 : Hid (PAt w9 g ⟨(a0, k0, q0), (a1, k1, q1), (some ⟨e0, 0, none⟩, l0, z0), (some ⟨e1, 0, none⟩, l1, z1), wa, wc, ws, ta, tc, ts⟩ ⟨w0, w1, (rowD r w0 d0), (rowD r w1 d1), r1, b, P, waiting, tray, 0⟩) := hide ⟨X10, I10.out⟩
      clear x9 g9 s9 X9 cr I10
      have cr1 := X10.at_ (j := 4) rfl
      by_cases hlast : r1 = 25
      · have HD : Hid (doneP (embP ⟨w0, w1, d0, d1, r, b, P, waiting, tray, 0⟩) = layP ⟨w0, w1, (rowD r w0 d0), (rowD r w1 d1), 25, b, P, waiting, tray, 0⟩) := hide (by
          show (if r + 1 = 25 then layP ⟨w0, w1, (rowD r w0 d0), (rowD r w1 d1), r + 1, b, P, waiting, tray, 0⟩ else _) = _
          rw [hr1.out, if_pos hlast, hlast])
        subst hlast
        have hcL := hide (pr_lay g _ _ w9 HP10.out htr)
        clear X10
        go_wp2_with (go_at_call 41; refine hcL.out.mono ?_; rintro e w11 ⟨rfl, m11, A11, MV11⟩)
        go_ret
        rw [HD.out]
        exact ⟨rfl, m11, A11, M10.out.trans MV11⟩
      · have HD : Hid (doneP (embP ⟨w0, w1, d0, d1, r, b, P, waiting, tray, 0⟩) = ⟨w0, w1, (rowD r w0 d0), (rowD r w1 d1), r1, b, P, waiting, tray, 0⟩) := hide (by
          show (if r + 1 = 25 then _ else (⟨w0, w1, (rowD r w0 d0), (rowD r w1 d1), r + 1, b, P, waiting, tray, 0⟩ : Pr)) = _
          rw [hr1.out, if_neg hlast])
        have hdl : decide ((r1 : Int) = 25) = false := decide_eq_false (by omega)
        have hdl2 : ¬ r1 = 25 := hlast
        clear X10
        go_wp2_with fail
        go_ret
        rw [HD.out]
        exact ⟨rfl, _, HP10.out, M10.out⟩

end Go.Proofs.Ytdeknimelkdaeaa
end

/- the text P15 -/
section
/- Chapter 35: Step, Load, Clear, On keep the machine whole. -/
set_option linter.unusedVariables false
namespace Go.Proofs.Ytdeknimelkdaeaa
open Go.RowKit Go.Dx Go.Al
theorem Cp.nil : Cp [] := ⟨fun r hr => (by cases hr), by simp⟩
theorem Cp.blank : Cp blank := ⟨fun r hr => by
  unfold Go.Proofs.Ytdeknimelkdaeaa.blank at hr
  rw [List.mem_replicate] at hr
  rw [hr.2]; simp, by decide⟩
theorem Cp.rowD {r : Nat} {p d : Pgl} (h : Cp p) (k : Cp d) : Cp (rowD r p d) := by
  refine ⟨fun x hx => ?_, by rw [rowD_len]; exact k.2⟩
  unfold Go.Proofs.Ytdeknimelkdaeaa.rowD at hx
  split at hx
  · rename_i hr
    rcases List.mem_or_eq_of_mem_set hx with h1 | h1
    · exact k.1 x h1
    · rw [h1, List.getD_eq_getElem?_getD, List.getElem?_eq_getElem hr]
      exact h.1 _ (List.getElem_mem hr)
  · exact k.1 x hx
theorem inv_new {n : Nat} (h : n ≤ 1000) : PInv (newP n) :=
  ⟨by show 0 + 0 + n ≤ 1000; omega, Nat.zero_le 2, fun h => (h rfl).elim, Nat.zero_le 64, fun h => (by cases h), ⟨Cp.nil, Cp.nil⟩, ⟨Cp.nil, Cp.nil⟩, fun s hs => (by cases hs), fun s hs => (by cases hs)⟩
theorem inv_lay {S : Pr} (h : PInv S) (hb : S.busy = true) (hm : S.mode = 0) : PInv (layP S) := by
  refine ⟨?_, by show S.mode ≤ 2; exact h.mode, fun h2 => (h2 hm).elim, h.wait, fun h => (by cases h), ⟨Cp.nil, Cp.nil⟩, ⟨Cp.nil, Cp.nil⟩, h.cws, ?_⟩
  · have := h.bud
    rw [hb] at this
    show (S.tray ++ [_]).length + 0 + S.paper ≤ 1000
    simp at this ⊢
    omega
  · intro s hs
    rcases List.mem_append.1 hs with h1 | h1
    · exact h.cts s h1
    · simp at h1
      rw [h1]
      exact h.cd
theorem inv_clear {S : Pr} (h : PInv S) : PInv (clearP S).1 := by
  unfold clearP
  split
  · refine ⟨?_, Nat.zero_le 2, fun h2 => (h2 rfl).elim, h.wait, fun h => (by cases h), ⟨Cp.nil, Cp.nil⟩, ⟨Cp.nil, Cp.nil⟩, h.cws, h.cts⟩
    have := h.bud
    show S.tray.length + 0 + S.paper ≤ 1000
    omega
  · exact h
theorem inv_on {S : Pr} (h : PInv S) : PInv (onP S).1 := by
  unfold onP
  split
  · rename_i hm
    have hb := h.md (by omega)
    have h0 : PInv { S with mode := 0 } := ⟨h.bud, Nat.zero_le 2, fun h2 => (h2 rfl).elim, h.wait, h.rows, h.cw, h.cd, h.cws, h.cts⟩
    exact inv_lay h0 hb rfl
  · exact h
theorem sheetsL_mem : ∀ (l : List Pgl) (s : Sht), s ∈ sheetsL l → s.1 ∈ l ∧ (s.2 ∈ l ∨ s.2 = [])
  | [], s, h => by cases h
  | [a], s, h => by simp [sheetsL] at h; subst h; simp
  | a :: b :: l, s, h => by
    rw [sheetsL] at h
    rcases List.mem_cons.1 h with h | h
    · subst h; simp
    · obtain ⟨h1, h2⟩ := sheetsL_mem l s h
      refine ⟨by simp [h1], ?_⟩
      rcases h2 with h2 | h2
      · simp [h2]
      · exact .inr h2
theorem inv_load {S : Pr} (h : PInv S) (L : List Pgl) : PInv (loadP S L).1 := by
  unfold loadP
  split
  · exact h
  · split
    · exact h
    · rename_i h1 h2
      refine ⟨h.bud, h.mode, h.md, ?_, h.rows, h.cw, h.cd, ?_, h.cts⟩
      · show (S.waiting ++ sheetsL L).length ≤ 64
        rw [List.length_append, sheetsL_len]
        omega
      · intro s hs
        rcases List.mem_append.1 hs with h3 | h3
        · exact h.cws s h3
        · have hC : ∀ p ∈ L, Cp p := fun p hp => cp_of_fits (by
            have := List.any_eq_false.1 (by simpa using h1) p hp
            unfold badPg at this
            simpa using this)
          obtain ⟨k1, k2⟩ := sheetsL_mem L s h3
          refine ⟨hC _ k1, ?_⟩
          rcases k2 with k2 | k2
          · exact hC _ k2
          · rw [k2]; exact Cp.nil
theorem take_cases (S : Pr) : (S.busy = true ∧ takeP S = (S, 0)) ∨ (S.busy = false ∧ S.waiting = [] ∧ takeP S = (S, 6)) ∨ (S.busy = false ∧ S.paper = 0 ∧ S.waiting ≠ [] ∧ takeP S = (S, 11)) ∨
    ∃ x l P, S.busy = false ∧ S.waiting = x :: l ∧ S.paper = P + 1 ∧ takeP S = (⟨x.1, x.2, blank, blank, 0, true, P, l, S.tray, S.mode⟩, 0) := by
  obtain ⟨w0, w1, d0, d1, rows, busy, paper, waiting, tray, mode⟩ := S
  cases busy with
  | true => exact .inl ⟨rfl, rfl⟩
  | false =>
    cases waiting with
    | nil => exact .inr (.inl ⟨rfl, rfl, rfl⟩)
    | cons x l =>
      cases paper with
      | zero => exact .inr (.inr (.inl ⟨rfl, rfl, by simp, rfl⟩))
      | succ P => exact .inr (.inr (.inr ⟨x, l, P, rfl, rfl, rfl, rfl⟩))
theorem inv_take {S : Pr} (h : PInv S) : PInv (takeP S).1 := by
  rcases take_cases S with ⟨_, e⟩ | ⟨_, _, e⟩ | ⟨_, _, _, e⟩ | ⟨x, l, P, hb, hw, hP, e⟩
  · rw [e]; exact h
  · rw [e]; exact h
  · rw [e]; exact h
  · rw [e]
    have hx := h.cws x (by rw [hw]; simp)
    refine ⟨?_, h.mode, fun _ => rfl, ?_, fun _ => ⟨by show 0 < 25; omega, rfl, rfl⟩, hx, ⟨Cp.blank, Cp.blank⟩, fun s hs => h.cws s (by rw [hw]; exact List.mem_cons_of_mem _ hs), h.cts⟩
    · have := h.bud
      rw [hb, hP] at this
      show S.tray.length + 1 + P ≤ 1000
      simp at this
      omega
    · have := h.wait
      rw [hw, List.length_cons] at this
      show l.length ≤ 64
      omega
theorem inv_emb {S : Pr} (h : PInv S) : PInv (embP S) :=
  ⟨h.bud, h.mode, h.md, h.wait, fun hb => ⟨(h.rows hb).1, by show (rowD _ _ _).length = 25; rw [rowD_len]; exact (h.rows hb).2.1, by show (rowD _ _ _).length = 25; rw [rowD_len]; exact (h.rows hb).2.2⟩, h.cw, ⟨h.cw.1.rowD h.cd.1, h.cw.2.rowD h.cd.2⟩, h.cws, h.cts⟩
theorem inv_done {S : Pr} (h : PInv S) (hb : S.busy = true) (hm : S.mode = 0) : PInv (doneP S) := by
  unfold doneP
  split
  · have h0 : PInv { S with rows := 0 } := ⟨h.bud, h.mode, h.md, h.wait, fun hb => ⟨by show 0 < 25; omega, (h.rows hb).2⟩, h.cw, h.cd, h.cws, h.cts⟩
    exact inv_lay (S := { S with rows := 0 }) h0 hb hm
  · rename_i hr
    exact ⟨h.bud, h.mode, h.md, h.wait, fun hb => ⟨by have := (h.rows hb).1; show S.rows + 1 < 25; omega, (h.rows hb).2⟩, h.cw, h.cd, h.cws, h.cts⟩
theorem take_busy {S : Pr} (h : (takeP S).2 = 0) : (takeP S).1.busy = true ∧ (takeP S).1.mode = S.mode := by
  rcases take_cases S with ⟨hb, e⟩ | ⟨_, _, e⟩ | ⟨_, _, _, e⟩ | ⟨x, l, P, hb, hw, hP, e⟩
  · rw [e]; exact ⟨hb, rfl⟩
  · rw [e] at h; cases h
  · rw [e] at h; cases h
  · rw [e]; exact ⟨rfl, rfl⟩
theorem inv_step {S : Pr} (h : PInv S) (f : Nat) : PInv (stepP S f).1 := by
  unfold stepP
  split
  · exact h
  · split
    · exact h
    · rename_i m1 m2
      have hm : S.mode = 0 := by have := h.mode; omega
      split
      · exact inv_take h
      · rename_i ht
        have ht' : (takeP S).2 = 0 := by simpa using ht
        obtain ⟨hb, hmd⟩ := take_busy ht'
        have hI := inv_take h
        split
        · exact ⟨hI.bud, by show 1 ≤ 2; omega, fun _ => hb, hI.wait, hI.rows, hI.cw, hI.cd, hI.cws, hI.cts⟩
        · split
          · exact ⟨hI.bud, by show 2 ≤ 2; omega, fun _ => hb, hI.wait, hI.rows, hI.cw, hI.cd, hI.cws, hI.cts⟩
          · split
            · exact inv_done (inv_emb hI) hb (by show (takeP S).1.mode = 0; rw [hmd, hm])
            · exact inv_done hI hb (by rw [hmd, hm])
set_option maxRecDepth 100000 in
set_option maxHeartbeats 4000000 in
theorem pr_Step_err (g : Nat) (m : PM) (S : Pr) (f : Nat) (w : World) (h : PAt w g m S) (h1 : S.mode = 0) (hpap : S.paper ≤ 1000) (hf : f ≤ 3) (e1 : Int) (hT : takeP S = (S, e1)) (he : e1 = 6 ∨ e1 = 11) :
    Calls Try.prog 17 #[.pointer (some ⟨g, 0, none⟩), .int .i64 (f : Int)] w fun e w' => e = .returned (.int .i64 e1) ∧ ∃ m', PAt w' g m' S ∧ Mv w w' (pfoot g m) (pfoot g m') := by
  have cc9 : w.cell? ⟨g, 9, none⟩ = some (.iface 70 (.agg #[])) := by
    have h2 := h.box
    unfold pcells at h2
    rw [h1] at h2
    exact h2.at_ (j := 9) rfl
  have d1 : decide ((f : Int) < 0) = false := decide_eq_false (by omega)
  have d2 : decide ((3 : Int) < (f : Int)) = false := decide_eq_false (by omega)
  have hcT : Hid (∀ w2, Below w.heap.size w w2 → Calls Try.prog 39 #[.pointer (some ⟨g, 0, none⟩)] w2 fun e w' => e = .returned (.int .i64 e1) ∧ ∃ m', PAt w' g m' S ∧ Mv w2 w' (pfoot g m) (pfoot g m')) := hide (fun w2 hb2 => by
    have := pr_take g m S w2 (h.below hb2) hpap
    rw [hT] at this
    exact this)
  clear h h1 hf hT
  rcases he with rfl | rfl
  · go_enter Try.func17, Try.ntmps17
    go_wp2_with (first
      | (with_reducible refine call_invoke 23 _ "dactyl/press.stands" (.iface 70 (.agg #[])) 89 (.agg #[]) _ rfl inv_run (st_run w) ?_; rintro e w2 ⟨rfl, hb2⟩; refine ⟨_, rfl, ?_⟩)
      | (go_at_call 39; refine (hcT.out _ hb2).mono ?_; rintro e w3 ⟨rfl, m1, A1, MV1⟩))
    go_ret
    exact ⟨rfl, m1, A1, (Mv.refl w (pfoot g m)).below hb2 |>.trans MV1⟩
  · go_enter Try.func17, Try.ntmps17
    go_wp2_with (first
      | (with_reducible refine call_invoke 23 _ "dactyl/press.stands" (.iface 70 (.agg #[])) 89 (.agg #[]) _ rfl inv_run (st_run w) ?_; rintro e w2 ⟨rfl, hb2⟩; refine ⟨_, rfl, ?_⟩)
      | (go_at_call 39; refine (hcT.out _ hb2).mono ?_; rintro e w3 ⟨rfl, m1, A1, MV1⟩))
    go_ret
    exact ⟨rfl, m1, A1, (Mv.refl w (pfoot g m)).below hb2 |>.trans MV1⟩
theorem pr_Step (g : Nat) (m : PM) (S : Pr) (f : Nat) (w : World) (h : PAt w g m S) (hi : PInv S) (hf : f ≤ 3) :
    Calls Try.prog 17 #[.pointer (some ⟨g, 0, none⟩), .int .i64 (f : Int)] w fun e w' => e = .returned (.int .i64 (stepP S f).2) ∧ ∃ m', PAt w' g m' (stepP S f).1 ∧ Mv w w' (pfoot g m) (pfoot g m') := by
  have hpap : S.paper ≤ 1000 := by have := hi.bud; omega
  by_cases m1 : S.mode = 1
  · have e1 : stepP S f = (S, 23) := by unfold stepP; rw [if_pos m1]
    rw [e1]
    refine (pr_Step_1 g m S f w h m1 hf).mono ?_
    rintro e w' ⟨rfl, hb⟩
    exact ⟨rfl, m, h.below hb, (Mv.refl w _).below hb⟩
  · by_cases m2 : S.mode = 2
    · have e1 : stepP S f = (S, 25) := by unfold stepP; rw [if_neg m1, if_pos m2]
      rw [e1]
      refine (pr_Step_2 g m S f w h m2 hf).mono ?_
      rintro e w' ⟨rfl, hb⟩
      exact ⟨rfl, m, h.below hb, (Mv.refl w _).below hb⟩
    · have hm : S.mode = 0 := by have := hi.mode; omega
      by_cases ht : (takeP S).2 = 0
      · have e1 : stepP S f = if f = 2 then ({ (takeP S).1 with mode := 1 }, 23) else if f = 3 then ({ (takeP S).1 with mode := 2 }, 25) else (doneP (if f = 0 then embP (takeP S).1 else (takeP S).1), 0) := by
          unfold stepP; rw [if_neg m1, if_neg m2, if_neg (by rw [ht]; simp)]
        rw [e1]
        obtain ⟨hb, hmd⟩ := take_busy ht
        have hI := inv_take hi
        generalize hS1 : takeP S = T at *
        obtain ⟨⟨w0, w1, d0, d1, r, b, P, waiting, tray, mode⟩, e⟩ := T
        simp only at ht hb hmd
        subst ht
        rw [hm] at hmd
        subst hmd
        have hr := hI.rows hb
        have htr : tray.length ≤ 10000 := by have := hI.bud; simp only at this; omega
        have : f = 0 ∨ f = 1 ∨ f = 2 ∨ f = 3 := by omega
        rcases this with rfl | rfl | rfl | rfl
        · exact pr_Step_f0 g m S w0 w1 d0 d1 r b P waiting tray w h hm hpap hS1 hr.1 hr.2.1 hr.2.2 hI.cw htr
        · exact pr_Step_f1 g m S w0 w1 d0 d1 r b P waiting tray w h hm hpap hS1 hr.1 hr.2.1 hr.2.2 hI.cw htr
        · exact pr_Step_f2 g m S w0 w1 d0 d1 r b P waiting tray w h hm hpap hS1 hr.1 hr.2.1 hr.2.2 hI.cw htr
        · exact pr_Step_f3 g m S w0 w1 d0 d1 r b P waiting tray w h hm hpap hS1 hr.1 hr.2.1 hr.2.2 hI.cw htr
      · have e1 : stepP S f = takeP S := by unfold stepP; rw [if_neg m1, if_neg m2, if_pos (by simpa using ht)]
        rw [e1]
        rcases take_cases S with ⟨_, e⟩ | ⟨_, _, e⟩ | ⟨_, _, _, e⟩ | ⟨x, l, P, _, hw, hP, e⟩
        · rw [e] at ht; exact absurd rfl ht
        · rw [e]; exact pr_Step_err g m S f w h hm hpap hf 6 e (.inl rfl)
        · rw [e]; exact pr_Step_err g m S f w h hm hpap hf 11 e (.inr rfl)
        · rw [e] at ht; exact absurd rfl ht
end Go.Proofs.Ytdeknimelkdaeaa
end

/- the text P16 -/
section
/- Chapter 35: Good in plain Lean; sheets as they lie. -/
set_option linter.unusedVariables false
namespace Go.Proofs.Ytdeknimelkdaeaa
open Go.RowKit Go.Dx Go.Al
/-- a page as it lies, its rows unnamed -/
def PgE (w : World) (h : Hd) (p : Pgl) : Prop := ∃ r, Pg w h.1 h.2.1 h.2.2 r p
theorem PgE.below {w w' : World} {h : Hd} {p : Pgl} (t : PgE w h p) (hb : Below w.heap.size w w') : PgE w' h p := by obtain ⟨r, h1⟩ := t; exact ⟨r, h1.below hb⟩
theorem PgE.nil (w : World) : PgE w nilH [] := ⟨[], Sl.empty w 1, rfl, fun i h r h1 => by cases h1⟩
theorem Tab.pgE {w : World} {h : Hd} {p : Pgl} (t : Tab w h p) : PgE w h p := t.pg
theorem PgE.len {w : World} {h : Hd} {p : Pgl} (t : PgE w h p) : h.2.1 = p.length := by obtain ⟨r, h1⟩ := t; exact h1.n_eq
structure ShE (w : World) (ws : List HS) (L : List Sht) : Prop where
  len : ws.length = L.length
  get : ∀ (i : Nat) (h : HS) (s : Sht), ws[i]? = some h → L[i]? = some s → PgE w h.1 s.1 ∧ PgE w h.2 s.2
theorem ShE.below {w w' : World} {ws : List HS} {L : List Sht} (h : ShE w ws L) (hb : Below w.heap.size w w') : ShE w' ws L :=
  ⟨h.len, fun i x s h1 h2 => ⟨(h.get i x s h1 h2).1.below hb, (h.get i x s h1 h2).2.below hb⟩⟩
theorem ShE.nil (w : World) : ShE w [] [] := ⟨rfl, fun i h s h1 => by cases h1⟩
theorem ShE.append {w : World} {ws ws' : List HS} {L L' : List Sht} (h : ShE w ws L) (h' : ShE w ws' L') : ShE w (ws ++ ws') (L ++ L') := by
  refine ⟨by rw [List.length_append, List.length_append, h.len, h'.len], fun i x s h1 h2 => ?_⟩
  rw [List.getElem?_append] at h1 h2
  by_cases hi : i < ws.length
  · rw [if_pos hi] at h1
    rw [if_pos (by rw [← h.len]; exact hi)] at h2
    exact h.get i x s h1 h2
  · rw [if_neg hi] at h1
    rw [if_neg (by rw [← h.len]; exact hi), ← h.len] at h2
    exact h'.get _ x s h1 h2
theorem ShE.one {w : World} {x : HS} {s : Sht} (h1 : PgE w x.1 s.1) (h2 : PgE w x.2 s.2) : ShE w [x] [s] := by
  refine ⟨rfl, fun i y r k1 k2 => ?_⟩
  cases i with
  | zero => simp at k1 k2; subst k1 k2; exact ⟨h1, h2⟩
  | succ i => simp at k1
theorem Shs.she {w : World} {ws : List HS} {L : List Sht} (h : Shs w ws L) : ShE w ws L := ⟨h.len, fun i x s h1 h2 => ⟨(h.get i x s h1 h2).1.pgE, (h.get i x s h1 h2).2.pgE⟩⟩
/-- a list of sheets as it lies -/
structure Shp (w : World) (a : Option Addr) (n c : Nat) (ws : List HS) (L : List Sht) : Prop where
  top : Sl w 2 a n c (ws.flatMap shc)
  she : ShE w ws L
theorem Shp.below {w w' : World} {a : Option Addr} {n c : Nat} {ws : List HS} {L : List Sht} (h : Shp w a n c ws L) (hb : Below w.heap.size w w') : Shp w' a n c ws L := ⟨h.top.below hb, h.she.below hb⟩
theorem Shn.shp {w : World} {W n c : Nat} {a : Option Addr} {ws : List HS} {L : List Sht} (h : Shn w W a n c ws L) : Shp w a n c ws L := ⟨h.top.sl, h.shs.she⟩
theorem Shp.n_eq {w : World} {a : Option Addr} {n c : Nat} {ws : List HS} {L : List Sht} (h : Shp w a n c ws L) : n = L.length := by rw [h.top.nf shc_len (by decide), h.she.len]
theorem Shp.at_ {w : World} {a : Option Addr} {n c : Nat} {ws : List HS} {L : List Sht} (h : Shp w a n c ws L) {i : Nat} {s : Sht} (hs : L[i]? = some s) : ∃ x : HS, ws[i]? = some x ∧ PgE w x.1 s.1 ∧ PgE w x.2 s.2 := by
  have hi : i < ws.length := by rw [h.she.len]; exact (List.getElem?_eq_some_iff.1 hs).1
  have hx : ws[i]? = some ws[i] := by simp [hi]
  exact ⟨_, hx, h.she.get i _ s hx hs⟩
/-- two sheets that read the same -/
def samS (s t : Sht) : Bool := decide (plainL s.1 = plainL t.1) && decide (plainL s.2 = plainL t.2)
/-- sheet k may be the one -/
def cand (all : List Sht) (T : List Bool) (s : Sht) (k : Nat) : Bool := !(T.getD k true) && samS s (all.getD k ([], []))
def pickG (all : List Sht) (T : List Bool) (s : Sht) : Option Nat := (List.range all.length).find? (cand all T s)
def goodUp (all out : List Sht) : Nat → List Nat × List Bool
  | 0 => ([], List.replicate all.length false)
  | m + 1 => match pickG all (goodUp all out m).2 (out.getD m ([], [])) with
    | none => goodUp all out m
    | some k => ((goodUp all out m).1 ++ [m], (goodUp all out m).2.set k true)
def missUp (T : List Bool) (n : Nat) : List Nat := (List.range n).filter fun i => !(T.getD (i / 2) true)
def goodF (want : List Pgl) (out : List Sht) : List Nat × List Nat := ((goodUp (sheetsL want) out out.length).1, missUp (goodUp (sheetsL want) out out.length).2 want.length)
theorem goodUp_len (all out : List Sht) : ∀ m, (goodUp all out m).2.length = all.length ∧ (goodUp all out m).1.length ≤ m
  | 0 => ⟨by simp [goodUp], by simp [goodUp]⟩
  | m + 1 => by
    have ih := goodUp_len all out m
    rw [goodUp]
    split
    · exact ⟨ih.1, by omega⟩
    · exact ⟨by simp [ih.1], by simp; exact ih.2⟩
theorem find_range {P : Nat → Bool} {n k : Nat} (hk : k < n) (hP : P k = true) (hl : ∀ j, j < k → P j = false) : (List.range n).find? P = some k := by
  rw [List.find?_range_eq_some]
  exact ⟨hP, by simp [hk], fun j hj => by simp [hl j hj]⟩
theorem find_none {P : Nat → Bool} {n : Nat} (hl : ∀ j, j < n → P j = false) : (List.range n).find? P = none := by
  rw [List.find?_eq_none]
  intro x hx
  rw [List.mem_range] at hx
  simp [hl x hx]
theorem goodUp_yes {all out : List Sht} {m k : Nat} {s : Sht} (hs : out[m]? = some s) (hk : k < all.length) (hP : cand all (goodUp all out m).2 s k = true) (hl : ∀ j, j < k → cand all (goodUp all out m).2 s j = false) :
    goodUp all out (m + 1) = ((goodUp all out m).1 ++ [m], (goodUp all out m).2.set k true) := by
  rw [goodUp, List.getD_eq_getElem?_getD, hs]
  have := find_range (P := cand all (goodUp all out m).2 s) hk hP hl
  show (match pickG all (goodUp all out m).2 s with | none => _ | some k => _) = _
  rw [pickG, this]
theorem goodUp_no {all out : List Sht} {m : Nat} {s : Sht} (hs : out[m]? = some s) (hl : ∀ j, j < all.length → cand all (goodUp all out m).2 s j = false) : goodUp all out (m + 1) = goodUp all out m := by
  rw [goodUp, List.getD_eq_getElem?_getD, hs]
  have := find_none (P := cand all (goodUp all out m).2 s) hl
  show (match pickG all (goodUp all out m).2 s with | none => _ | some k => _) = _
  rw [pickG, this]
theorem missUp_succ (T : List Bool) (n : Nat) : missUp T (n + 1) = missUp T n ++ (if T.getD (n / 2) true = true then [] else [n]) := by
  unfold missUp
  rw [List.range_succ, List.filter_append]
  congr 1
  cases h : T.getD (n / 2) true <;> simp only [List.filter_cons, List.filter_nil, h] <;> rfl
theorem missUp_len (T : List Bool) (n : Nat) : (missUp T n).length ≤ n := Nat.le_trans (List.length_filter_le _ _) (by simp)
theorem cand_false {all : List Sht} {T : List Bool} {s : Sht} {k : Nat} (h : T[k]? = some true) : cand all T s k = false := by unfold cand; rw [List.getD_eq_getElem?_getD, h]; rfl
theorem cand_sam {all : List Sht} {T : List Bool} {s t : Sht} {k : Nat} (h : T[k]? = some false) (ht : all[k]? = some t) : cand all T s k = samS s t := by
  unfold cand; rw [List.getD_eq_getElem?_getD, h, List.getD_eq_getElem?_getD, ht]; simp
def N64 (n : Nat) : Value := .int .i64 (n : Int)
end Go.Proofs.Ytdeknimelkdaeaa
end

/- the text P17 -/
section
/- Chapter 35: press.Good. -/
set_option linter.unusedVariables false
namespace Go.Proofs.Ytdeknimelkdaeaa
open Go.RowKit Go.Dx Go.Al
theorem own_box_ne {w : World} {B : Nat} {e t : TypeId} {sz n c g : Nat} {a : Option Addr} {cs xs : List Value} (h : Own w B e sz a n c cs) (hx : Box w g t xs) (hne : e ≠ t) : g ∉ (a.map (·.block)).toList := by
  intro hm
  cases a with
  | none => cases hm
  | some q =>
    simp at hm
    subst hm
    exact kind_ne (q := q) h (show w.heap[q.block]? = _ from hx) (fun e => hne e) rfl
theorem own_off {w w' : World} {B : Nat} {e t : TypeId} {sz n c g : Nat} {a : Option Addr} {cs xs : List Value} (h : Own w B e sz a n c cs) (hx : Box w g t xs) (hne : e ≠ t) (hg : w.grownBy w' (some g)) : Own w' B e sz a n c cs :=
  own_fr h (Fr.ofGrown hg) (fun b hb hm => by simp at hm; subst hm; exact own_box_ne h hx hne hb)
theorem box_off {w w' : World} {B : Nat} {e t : TypeId} {sz n c g : Nat} {a : Option Addr} {cs xs : List Value} (hx : Box w g t xs) (h : Own w B e sz a n c cs) (hne : e ≠ t) (hg : w.grownBy w' (a.map (·.block))) : Box w' g t xs :=
  hx.grown hg (fun e => own_box_ne h hx hne (by rw [← e]; simp))
theorem size_bool1 : (Try.prog.info? 4).map (·.size) = some 1 := by kernel_rfl
theorem no_cand {all : List Sht} {T : List Bool} {s : Sht} {k : Nat} (hl : ∀ j, j < k → cand all T s j = false) (hk : cand all T s k = false) : ∀ j, j < k + 1 → cand all T s j = false := fun j hj => by
  by_cases h : j = k
  · rw [h]; exact hk
  · exact hl j (by omega)

set_option maxRecDepth 100000 in
set_option maxHeartbeats 8000000 in
theorem pr_Good (want : List Pgl) (hsw : List Hd) (out : List Sht) (wso : List HS) (a0 a1 : Option Addr) (n0 c0 n1 c1 : Nat) (w : World) (hw : Pgs w a0 n0 c0 hsw want) (ho : Shp w a1 n1 c1 wso out)
    (hcw : ∀ p ∈ want, Cp p ∧ p.length ≤ 5864062014634) (hco : ∀ s ∈ out, s.1.length ≤ 5864062014634 ∧ s.2.length ≤ 5864062014634) (hnw : want.length ≤ 1000000) (hno : out.length ≤ 1000000) :
    Calls Try.prog 11 #[.slice a0 n0 c0, .slice a1 n1 c1] w fun e w' => ∃ ag cg am cm, e = .returned (.tuple #[.slice ag (goodF want out).1.length cg, .slice am (goodF want out).2.length cm]) ∧
      Sl w' 1 ag (goodF want out).1.length cg ((goodF want out).1.map N64) ∧ Sl w' 1 am (goodF want out).2.length cm ((goodF want out).2.map N64) ∧ Below w.heap.size w w' := by
  obtain rfl := hw.n_eq
  obtain rfl := ho.n_eq
  obtain ⟨M, hM⟩ : ∃ M, Hid (out.length = M) := ⟨_, hide rfl⟩
  obtain ⟨K, hK⟩ : ∃ K, Hid (want.length = K) := ⟨_, hide rfl⟩
  obtain ⟨N, hN⟩ : ∃ N, Hid ((sheetsL want).length = N) := ⟨_, hide rfl⟩
  have hsc := pr_sheets want hsw a0 want.length c0 w hw (fun p hp => (hcw p hp).1) hnw
  rw [hN.out] at hsc
  have hKN : K ≤ 2 * N := by have := sheetsL_len want; rw [hN.out, hK.out] at this; omega
  have hN6 : N ≤ 1000000 := by have := sheetsL_len want; rw [hN.out, hK.out] at this; have := hK.out; omega
  rw [hM.out] at hno ⊢
  rw [hK.out] at hsc hnw ⊢
  have hL6 : Hid (∀ s ∈ sheetsL want, s.1.length ≤ 5864062014634 ∧ s.2.length ≤ 5864062014634) := hide (fun s hs => by
    obtain ⟨h1, h2⟩ := sheetsL_mem want s hs
    refine ⟨(hcw _ h1).2, ?_⟩
    rcases h2 with h2 | h2
    · exact (hcw _ h2).2
    · rw [h2]; simp)
  obtain ⟨F, hF⟩ : ∃ F, Hid (goodF want out = F) := ⟨_, hide rfl⟩
  rw [hF.out]
  go_enter Try.func11, Try.ntmps11
  go_wp2_with (first
    | (go_at_call 35; refine hsc.mono ?_; rintro e w2 ⟨a6, c6, wsL, rfl, hS6, hb6⟩; refine hold ?_))
  refine hide ?_
  clear hsc
  have HS := hide hS6.shp
  clear hS6
  go_wp2_with (with_reducible refine make_row 19 _ _ _ 4 (.bool false) 1 Try.underlying67 info_bool rfl _ _ _ _ N rfl rfl rfl rfl (by omega) (by omega) ?_; intro w3 hr3 hb3 hz3; have hx3 := hide (row_boxP hr3); clear hr3 hz3)
  obtain ⟨bT, HT⟩ : ∃ b, Hid (w2.heap.size = b) := ⟨_, hide rfl⟩
  rw [HT.out] at hx3 hb3 ⊢
  have hbT : w.heap.size ≤ bT := by rw [← HT.out]; exact hb6.size
  have HW := hide (hw.below hb6)
  have HO := hide (ho.below hb6)
  clear hw ho
  go_loopg [8, 22] M (fun g o i w' => ∃ (m : Nat) (ag : Option Addr) (cg : Nat) (G : List Nat) (T : List Bool), m ≤ M ∧ g = M - m ∧ i = .int .i64 (m : Int) ∧ o = .slice ag G.length cg ∧ Own w' bT 3 1 ag G.length cg (G.map N64) ∧ (G, T) = goodUp (sheetsL want) out m ∧ Box w' bT 4 (T.map .bool) ∧ Below bT w2 w')
  case atStart => exact ⟨0, none, 0, [], List.replicate N false, by omega, by omega, rfl, rfl, Own.nil _ _ _ _, by rw [← hN.out]; rfl, by have := hx3.out; simpa using this, hb3⟩
  case round =>
    obtain ⟨m, ag, cg, G, T, hm, hg, rfl, rfl, hG, hGT, hT, hb⟩ := hrel
    have HG := hide hg
    have HO2 := hide hG
    have HGT := hide hGT
    have HTB := hide hT
    clear hg hG hGT hT
    obtain ⟨q, hq⟩ : ∃ q, Hid (G.length = q) := ⟨_, hide rfl⟩
    have hqm : q ≤ m := by have := (goodUp_len (sheetsL want) out m).2; rw [← HGT.out, hq.out] at this; exact this
    have hTl : Hid (T.length = N) := hide (by have := (goodUp_len (sheetsL want) out m).1; rw [← HGT.out, hN.out] at this; exact this)
    rw [hq.out] at HO2 ⊢
    have hbw : Below w2.heap.size w2 wr := by rw [HT.out]; exact hb
    by_cases hml : m < M
    · obtain ⟨s, hs⟩ : ∃ s, out[m]? = some s := ⟨out[m]'(by rw [hM.out]; exact hml), by simp⟩
      obtain ⟨⟨⟨s0, s1, s2⟩, ⟨s3, s4, s5⟩⟩, hx, hE0, hE1⟩ := (HO.out.below hbw).at_ hs
      have hsl := hco s (List.mem_of_getElem? hs)
      have HX := hide hs
      have HY := hide hx
      have HE0 := hide hE0
      have HE1 := hide hE1
      clear hs hx hE0 hE1
      have hsh : shc ((s0, s1, s2), (s3, s4, s5)) = [.slice s0 s1 s2, .slice s3 s4 s5] := rfl
      have HOr := (HO.out.below hbw).top
      rw [hM.out] at HOr
      have hBr := Below.refl wr.heap.size wr
      go_wp2_with (first
        | (with_reducible refine idx_sh 25 _ _ _ _ _ wso rfl HOr _ _ m rfl rfl _ HY.out _ _ hsh ?_; intro bb oo hcc0 hcc1 hbb)
        | (with_reducible refine load_sheet2 26 _ bb oo (oo + 1) rfl (.slice s0 s1 s2) (.slice s3 s4 s5) hcc0 hcc1 rfl ?_)
        | (with_reducible refine hold_store ?_))
      refine hide ?_
      refine store_fresh 29 29 _ _ 2 size_sheet _ rfl _ [.slice s0 s1 s2, .slice s3 s4 s5] rfl rfl rfl rfl (by simp [Value.oneCell']) ?_
      have xg11 := Box.new wr 29 #[.slice s0 s1 s2, .slice s3 s4 s5]
      have bg11 : Below wr.heap.size wr (wr.alloc (.cells [.slice s0 s1 s2, .slice s3 s4 s5].toArray 29)) := sblo wr _
      generalize wr.alloc (.cells [Value.slice s0 s1 s2, .slice s3 s4 s5].toArray 29) = w4 at xg11 bg11 ⊢
      obtain ⟨g11, hg11⟩ : ∃ g, Hid (wr.heap.size = g) := ⟨_, hide rfl⟩
      rw [hg11.out] at xg11 ⊢
      have Y11 : Hid (Box w4 g11 29 [.slice s0 s1 s2, .slice s3 s4 s5]) := hide xg11
      have hbT4 : bT ≤ wr.heap.size := Nat.le_trans (by rw [← HT.out]; exact Nat.le_refl _) hbw.size
      have hbT5 : bT ≤ w4.heap.size := Nat.le_trans hbT4 bg11.size
      have hb4 : Below bT w2 w4 := hb.trans (bg11.mono hbT4)
      have HO4 := hide (HO2.out.below bg11)
      have HT4 := hide (HTB.out.under bg11)
      have E0 := hide (HE0.out.below bg11)
      have E1 := hide (HE1.out.below bg11)
      clear xg11 bg11 HO2 HTB HE0 HE1 hcc0 hcc1 hbb HOr hbw hBr
      go_wp2_with fail
      go_loopg [8, 29] N (fun g o i w' => ∃ (k : Nat), k ≤ N ∧ g = N - k ∧ i = .int .i64 (k : Int) ∧ o = .slice ag q cg ∧ (∀ j, j < k → cand (sheetsL want) T s j = false) ∧ Own w' bT 3 1 ag q cg (G.map N64) ∧ Box w' bT 4 (T.map .bool) ∧ Below w4.heap.size w4 w')
      case atStart => exact ⟨0, by omega, by omega, rfl, rfl, fun j hj => by omega, HO4.out, HT4.out, Below.refl _ _⟩
      case round =>
        obtain ⟨k, hk, hg, rfl, rfl, hl, hG, hT, hbk⟩ := hrel
        have HG2 := hide hg
        have HL := hide hl
        have HGo := hide hG
        have HTB := hide hT
        clear hg hl hG hT
        by_cases hkl : k < N
        · have hb2w : Below w2.heap.size w2 wr := by rw [HT.out]; exact hb4.trans (hbk.mono hbT5)
          obtain ⟨t, ht⟩ : ∃ t, (sheetsL want)[k]? = some t := ⟨(sheetsL want)[k]'(by rw [hN.out]; exact hkl), by simp⟩
          obtain ⟨⟨⟨t0, t1, t2⟩, ⟨t3, t4, t5⟩⟩, hx, hF0, hF1⟩ := (HS.out.below hb2w).at_ ht
          have htl := hL6.out t (List.mem_of_getElem? ht)
          have HX2 := hide ht
          have HY2 := hide hx
          have HF0 := hide hF0
          have HF1 := hide hF1
          clear ht hx hF0 hF1
          have hsh2 : shc ((t0, t1, t2), (t3, t4, t5)) = [.slice t0 t1 t2, .slice t3 t4 t5] := rfl
          have HSr := (HS.out.below hb2w).top
          have hBr := Below.refl wr.heap.size wr
          go_wp2_with (first
            | (with_reducible refine idx_sh 32 _ _ _ _ _ wsL rfl HSr _ _ k rfl rfl _ HY2.out _ _ hsh2 ?_; intro bb oo hcc0 hcc1 hbb)
            | (with_reducible refine load_sheet2 33 _ bb oo (oo + 1) rfl (.slice t0 t1 t2) (.slice t3 t4 t5) hcc0 hcc1 rfl ?_)
            | (with_reducible refine hold_store ?_))
          refine hide ?_
          refine store_fresh 29 29 _ _ 2 size_sheet _ rfl _ [.slice t0 t1 t2, .slice t3 t4 t5] rfl rfl rfl rfl (by simp [Value.oneCell']) ?_
          have xg13 := Box.new wr 29 #[.slice t0 t1 t2, .slice t3 t4 t5]
          have bg13 : Below wr.heap.size wr (wr.alloc (.cells [.slice t0 t1 t2, .slice t3 t4 t5].toArray 29)) := sblo wr _
          generalize wr.alloc (.cells [Value.slice t0 t1 t2, .slice t3 t4 t5].toArray 29) = w5 at xg13 bg13 ⊢
          obtain ⟨g13, hg13⟩ : ∃ g, Hid (wr.heap.size = g) := ⟨_, hide rfl⟩
          rw [hg13.out] at xg13 ⊢
          have Z11 := hide (Y11.out.under (hbk.trans (bg13.mono hbk.size)))
          have Z13 : Hid (Box w5 g13 29 [.slice t0 t1 t2, .slice t3 t4 t5]) := hide xg13
          have ZG := hide (HGo.out.below bg13)
          have ZT := hide (HTB.out.under bg13)
          have hb45 : Below w4.heap.size w4 w5 := hbk.trans (bg13.mono hbk.size)
          obtain ⟨tk, htk⟩ : ∃ tk, T[k]? = some tk := ⟨T[k]'(by rw [hTl.out]; exact hkl), by simp⟩
          have hct : w5.cell? ⟨bT, k, none⟩ = some (.bool tk) := ZT.out.at_ (by rw [List.getElem?_map, htk]; rfl)
          have HTK := hide htk
          clear xg13 htk HSr hcc0 hcc1 hbb hBr hb2w
          cases tk with
          | true =>
            clear HF0 HF1 E0 E1
            go_wp2_with (with_reducible refine index_known 36 _ _ _ 4 Try.underlying67 size_bool1 bT N N rfl _ _ k rfl rfl hkl ?_)
            have HC := hide (no_cand HL.out (cand_false (all := sheetsL want) (s := s) HTK.out))
            go_roundg (N - (k + 1))
            case measure => have := HG2.out; omega
            case rel => exact ⟨k + 1, by omega, rfl, by go_num, rfl, HC.out, ZG.out, ZT.out, hb45⟩
          | false =>
            obtain ⟨r0, P0⟩ := E0.out.below hb45
            obtain ⟨r1, P1⟩ := E1.out.below hb45
            obtain ⟨r2, P2⟩ := HF0.out.below bg13
            obtain ⟨r3, P3⟩ := HF1.out.below bg13
            have hS0 := hide (cell_Same s.1 t.1 r0 r2 s0 t0 s1 t1 s2 t2 w5 P0 P2 hsl.1 htl.1)
            have hS1 := hide (fun (w1 : World) (hb : Below w5.heap.size w5 w1) => cell_Same s.2 t.2 r1 r3 s3 t3 s4 t4 s5 t5 w1 (P1.below hb) (P3.below hb) hsl.2 htl.2)
            have HSM := cand_sam (all := sheetsL want) (s := s) HTK.out HX2.out
            unfold samS at HSM
            clear P0 P1 P2 P3 HF0 HF1
            obtain ⟨e1, he1⟩ : ∃ e1, decide (plainL s.1 = plainL t.1) = e1 := ⟨_, rfl⟩
            obtain ⟨e2, he2⟩ : ∃ e2, decide (plainL s.2 = plainL t.2) = e2 := ⟨_, rfl⟩
            rw [he1] at hS0 HSM
            rw [he2] at HSM
            rw [he2] at hS1
            clear he1 he2
            have q0 : w5.cell? ⟨g11, 0, none⟩ = some (.slice s0 s1 s2) := Z11.out.at_ (j := 0) rfl
            have q1 : w5.cell? ⟨g13, 0, none⟩ = some (.slice t0 t1 t2) := Z13.out.at_ (j := 0) rfl
            have hC1 : Hid (cand (sheetsL want) T s k = (e1 && e2)) := hide HSM
            clear HSM
            cases e1 with
            | false =>
              have HC := hide (no_cand HL.out (by rw [hC1.out]; rfl))
              go_wp2_with (first
                | (with_reducible refine index_known 36 _ _ _ 4 Try.underlying67 size_bool1 bT N N rfl _ _ k rfl rfl hkl ?_)
                | (go_at_call 36; refine hS0.out.mono ?_; rintro e w6 ⟨rfl, hb6'⟩))
              go_roundg (N - (k + 1))
              case measure => have := HG2.out; omega
              case rel => exact ⟨k + 1, by omega, rfl, by go_num, rfl, HC.out, ZG.out.below hb6', ZT.out.under hb6', hb45.trans (hb6'.mono hb45.size)⟩
            | true =>
              go_wp2_with (first
                | (with_reducible refine index_known 36 _ _ _ 4 Try.underlying67 size_bool1 bT N N rfl _ _ k rfl rfl hkl ?_)
                | (go_at_call 36; refine hS0.out.mono ?_; rintro e w6 ⟨rfl, hb6'⟩; refine hold ?_))
              refine hide ?_
              have q2 : w6.cell? ⟨g11, 1, none⟩ = some (.slice s3 s4 s5) := (Z11.out.under hb6').at_ (j := 1) rfl
              have q3 : w6.cell? ⟨g13, 1, none⟩ = some (.slice t3 t4 t5) := (Z13.out.under hb6').at_ (j := 1) rfl
              have hS2 := hide (hS1.out w6 hb6')
              have VG := hide (ZG.out.below hb6')
              have VT := hide (ZT.out.under hb6')
              have hb46 : Below w4.heap.size w4 w6 := hb45.trans (hb6'.mono hb45.size)
              clear hS1 hS0 q0 q1 hct Z11 Z13 ZG ZT hb6' hb45 bg13 E0 E1
              cases e2 with
              | false =>
                have HC := hide (no_cand HL.out (by rw [hC1.out]; rfl))
                go_wp2_with (go_at_call 36; refine hS2.out.mono ?_; rintro e w7 ⟨rfl, hb7⟩)
                go_roundg (N - (k + 1))
                case measure => have := HG2.out; omega
                case rel => exact ⟨k + 1, by omega, rfl, by go_num, rfl, HC.out, VG.out.below hb7, VT.out.under hb7, hb46.trans (hb7.mono hb46.size)⟩
              | true =>
                have HU := hide (goodUp_yes HX.out (k := k) (by rw [hN.out]; exact hkl) (by rw [← HGT.out]; exact hC1.out) (by rw [← HGT.out]; exact HL.out))
                go_wp2_with (first
                  | (go_at_call 36; refine hS2.out.mono ?_; rintro e w7 ⟨rfl, hb7⟩)
                  | (with_reducible refine index_known 55 _ _ _ 4 Try.underlying67 size_bool1 bT N N rfl _ _ k rfl rfl hkl ?_)
                  | (with_reducible refine hold_store ?_))
                refine hide ?_
                have UT := VT.out.under hb7
                have UG := VG.out.below hb7
                have hb47 : Below bT w2 w7 := hb4.trans ((hb46.trans (hb7.mono hb46.size)).mono hbT5)
                refine store_cell 4 _ _ 4 bT k (T.map .bool) (.bool true) size_bool1 UT rfl rfl rfl rfl (by rw [List.length_map, hTl.out]; exact hkl) ?_; intro w8 x8 g8 s8
                have hT8 : Hid (Box w8 bT 4 ((T.set k true).map .bool)) := hide (by rw [List.map_set]; exact x8)
                have hG8 := own_off UG UT (by decide) g8
                have hb8 : Below bT w2 w8 := hb47.grown g8 (Nat.le_of_lt UT.lt) (fun b hb => by cases hb; exact Nat.le_refl _)
                clear x8 s8 g8 UT UG VT VG hb46 hb47 hS2 q2 q3 hC1 HL
                have hB8 : bT ≤ w8.heap.size := Nat.le_of_lt hT8.out.lt
                go_wp2_with (at_builtin; refine app_i rfl _ _ rfl w2 bT _ _ _ _ rfl hG8 _ rfl (by omega) hB8 hb8 ?_; intro a9 c9 w9 ho9 hg9 hb9)
                have hT9 := hide (box_off hT8.out hG8 (by decide) hg9)
                have HO9 := hide ho9
                have hGT9 : Hid ((G ++ [m], T.set k true) = goodUp (sheetsL want) out (m + 1)) := hide (by rw [HU.out, ← HGT.out])
                clear ho9 hG8 hT8 hb8 HU HGT
                go_roundg (M - (m + 1))
                case measure => have := HG.out; omega
                case rel => exact ⟨m + 1, a9, c9, G ++ [m], T.set k true, by omega, rfl, by go_num, by rw [List.length_append, hq.out]; rfl, by rw [List.length_append, hq.out, List.map_append]; exact HO9.out, hGT9.out, hT9.out, hb9⟩
        · obtain rfl : k = N := by omega
          have hGT9 : Hid ((G, T) = goodUp (sheetsL want) out (m + 1)) := hide (by rw [goodUp_no HX.out (by rw [← HGT.out, hN.out]; exact HL.out), ← HGT.out])
          go_wp2
          go_roundg (M - (m + 1))
          case measure => have := HG.out; omega
          case rel => exact ⟨m + 1, ag, cg, G, T, by omega, rfl, by go_num, by rw [hq.out], by rw [hq.out]; exact HGo.out, hGT9.out, HTB.out, hb4.trans (hbk.mono hbT5)⟩
    · obtain rfl : m = M := by omega
      have hFF : Hid (F = (G, missUp T K)) := hide (by rw [← hF.out]; unfold goodF; rw [hM.out, hK.out, ← HGT.out])
      have HGs := hide HO2.out.sl
      clear HO2 HGT hF
      go_wp2_with fail
      rename World => wS
      go_loopg [9, 64] K (fun g o i w' => ∃ (k : Nat) (am : Option Addr) (cm : Nat), k ≤ K ∧ g = K - k ∧ i = .int .i64 (k : Int) ∧ o = .slice am (missUp T k).length cm ∧ Own w' wS.heap.size 3 1 am (missUp T k).length cm ((missUp T k).map N64) ∧ Below wS.heap.size wS w')
      case atStart => exact ⟨0, none, 0, by omega, by omega, rfl, rfl, Own.nil _ _ _ _, Below.refl _ _⟩
      case round =>
        obtain ⟨k, am, cm, hk, hg, rfl, rfl, hO, hbk⟩ := hrel
        have HG2 := hide hg
        have HOm := hide hO
        clear hg hO
        have hml := missUp_len T k
        obtain ⟨p, hp⟩ : ∃ p, Hid ((missUp T k).length = p) := ⟨_, hide rfl⟩
        rw [hp.out] at HOm hml ⊢
        by_cases hkl : k < K
        · obtain ⟨h, hh⟩ : ∃ h, Hid (k / 2 = h) := ⟨_, hide rfl⟩
          have hdiv1 : (k : Int) / 2 = (h : Int) := by have := hh.out; omega
          have hdiv2 : Int.tdiv (k : Int) 2 = (h : Int) := by rw [Int.tdiv_eq_ediv_of_nonneg (by omega)]; exact hdiv1
          have hhN : h < N := by have := hh.out; omega
          obtain ⟨tk, htk⟩ : ∃ tk, T[h]? = some tk := ⟨T[h]'(by rw [hTl.out]; exact hhN), by simp⟩
          have hms : Hid (missUp T (k + 1) = missUp T k ++ if tk = true then [] else [k]) := hide (by rw [missUp_succ, hh.out, List.getD_eq_getElem?_getD, htk]; rfl)
          have hct : wr.cell? ⟨bT, h, none⟩ = some (.bool tk) := (HTB.out.under hbk).at_ (by rw [List.getElem?_map, htk]; rfl)
          clear htk
          cases tk with
          | true =>
            go_wp2_with (with_reducible refine index_known 70 _ _ _ 4 Try.underlying67 size_bool1 bT N N rfl _ _ h rfl rfl hhN ?_)
            have hms2 : Hid (missUp T (k + 1) = missUp T k) := hide (by rw [hms.out]; simp)
            go_roundg (K - (k + 1))
            case measure => have := HG2.out; omega
            case rel => exact ⟨k + 1, am, cm, by omega, rfl, by go_num, by rw [hms2.out, hp.out], by rw [hms2.out, hp.out]; exact HOm.out, hbk⟩
          | false =>
            have hms2 : Hid (missUp T (k + 1) = missUp T k ++ [k]) := hide (by rw [hms.out]; simp)
            have hOm := HOm.out
            have hB2 := hbk.size
            go_wp2_with (first
              | (with_reducible refine index_known 70 _ _ _ 4 Try.underlying67 size_bool1 bT N N rfl _ _ h rfl rfl hhN ?_)
              | (at_builtin; refine app_i rfl _ _ rfl wS wS.heap.size _ _ _ _ rfl hOm _ rfl (by omega) hB2 hbk ?_; intro a9 c9 w9 ho9 hg9 hb9))
            have HO9 := hide ho9
            clear ho9 hOm
            go_roundg (K - (k + 1))
            case measure => have := HG2.out; omega
            case rel => exact ⟨k + 1, a9, c9, by omega, rfl, by go_num, by rw [hms2.out, List.length_append, hp.out]; rfl, by rw [hms2.out, List.length_append, hp.out, List.map_append]; exact HO9.out, hb9⟩
        · obtain rfl : k = K := by omega
          go_wp2
          go_ret2
          rw [hFF.out]
          refine ⟨ag, cg, am, cm, by rw [hq.out, hp.out]; rfl, by rw [hq.out]; exact HGs.out.below hbk, by rw [hp.out]; exact HOm.out.sl, ?_⟩
          exact (hb6.trans (hb.mono hbT)).trans (hbk.mono (Nat.le_trans hb6.size (by rw [HT.out]; exact hb.size |> fun h => by rw [HT.out] at h; exact h)))
end Go.Proofs.Ytdeknimelkdaeaa
end

/- the text P18 -/
section
/- Chapter 35: the reference's sheets. -/
set_option linter.unusedVariables false
namespace Go.Proofs.Ytdeknimelkdaeaa
open Go.RowKit Go.Dx Go.Al
theorem own_set35 {w : World} {B : Nat} {e : TypeId} {sz : Nat} {g n c : Nat} {xs : List Value} (h : Own w B e sz (some ⟨g, 0, none⟩) n c xs) (i : Nat) (v : Value) : Own (w.setCell ⟨g, i, none⟩ v) B e sz (some ⟨g, 0, none⟩) n c (xs.set i v) := by
  refine ⟨by rw [List.length_set]; exact h.1, ?_⟩
  rcases h.2 with ⟨h1, _⟩ | ⟨g', cap, cur, h1, h2, h3, h4, h5, h6, h7⟩
  · cases h1
  · injection h1 with h1 hn hc
    injection h1 with h1
    injection h1 with h1
    subst h1
    refine .inr ⟨g, cap, cur.setIfInBounds i v, by rw [hc], h2, ?_, h4, h5, by simpa using h6, ?_⟩
    · simp [World.setCell, Array.getElem?_modify, h3]
    · rw [Array.toList_setIfInBounds, ← h7, List.take_set]
theorem flat_last {ws0 : List HS} {x : HS} {y : Hd} {k : Nat} (h : ws0.length = k) : ((ws0 ++ [x]).flatMap shc).set (2 * k + 1) (hv y) = (ws0 ++ [(x.1, y)]).flatMap shc := by
  rw [List.flatMap_append, List.flatMap_append, List.set_append_right _ _ (by rw [flat_len shc_len, h]; omega), flat_len shc_len, h, show 2 * k + 1 - k * 2 = 1 by omega]
  rfl
/-- sheets and their headers, one by one -/
structure ShR (R : Hd → Pgl → Prop) (ws : List HS) (L : List Sht) : Prop where
  len : ws.length = L.length
  get : ∀ (i : Nat) (h : HS) (s : Sht), ws[i]? = some h → L[i]? = some s → R h.1 s.1 ∧ R h.2 s.2
theorem ShR.nil (R : Hd → Pgl → Prop) : ShR R [] [] := ⟨rfl, fun i h s h1 => by cases h1⟩
theorem ShR.append {R : Hd → Pgl → Prop} {ws ws' : List HS} {L L' : List Sht} (h : ShR R ws L) (h' : ShR R ws' L') : ShR R (ws ++ ws') (L ++ L') := by
  refine ⟨by rw [List.length_append, List.length_append, h.len, h'.len], fun i x s h1 h2 => ?_⟩
  rw [List.getElem?_append] at h1 h2
  by_cases hi : i < ws.length
  · rw [if_pos hi] at h1
    rw [if_pos (by rw [← h.len]; exact hi)] at h2
    exact h.get i x s h1 h2
  · rw [if_neg hi] at h1
    rw [if_neg (by rw [← h.len]; exact hi), ← h.len] at h2
    exact h'.get _ x s h1 h2
theorem ShR.one {R : Hd → Pgl → Prop} {x : HS} {s : Sht} (h1 : R x.1 s.1) (h2 : R x.2 s.2) : ShR R [x] [s] := by
  refine ⟨rfl, fun i y r k1 k2 => ?_⟩
  cases i with
  | zero => simp at k1 k2; subst k1 k2; exact ⟨h1, h2⟩
  | succ i => simp at k1
theorem ShR.split {R : Hd → Pgl → Prop} {ws : List HS} {x : HS} {L : List Sht} {s : Sht} (h : ShR R (ws ++ [x]) (L ++ [s])) (hl : ws.length = L.length) : ShR R ws L ∧ R x.1 s.1 := by
  refine ⟨⟨hl, fun i y t h1 h2 => h.get i y t ?_ ?_⟩, (h.get ws.length x s (by simp) (by rw [hl]; simp)).1⟩
  · rw [List.getElem?_append_left (List.getElem?_eq_some_iff.1 h1).1]; exact h1
  · rw [List.getElem?_append_left (List.getElem?_eq_some_iff.1 h2).1]; exact h2
theorem sheetsL_even {k : Nat} {L : List Pgl} {x : Pgl} (h : L[2 * k]? = some x) : sheetsL (L.take (2 * k + 1)) = sheetsL (L.take (2 * k)) ++ [(x, [])] := by
  have hl := (List.getElem?_eq_some_iff.1 h).1
  have h2 : (L.take (2 * k + 1))[2 * k]? = some x := by rw [List.getElem?_take, if_pos (by omega)]; exact h
  have := sheetsL_step k (L.take (2 * k + 1)) x h2
  rw [List.take_take, List.take_take, show min (2 * k + 2) (2 * k + 1) = 2 * k + 1 by omega, show min (2 * k) (2 * k + 1) = 2 * k by omega] at this
  rw [this, List.getD_eq_getElem?_getD, List.getElem?_take, if_neg (by omega)]
  rfl
theorem sheetsL_odd {k : Nat} {L : List Pgl} {x y : Pgl} (h : L[2 * k]? = some x) (h2 : L[2 * k + 1]? = some y) : sheetsL (L.take (2 * k + 2)) = sheetsL (L.take (2 * k)) ++ [(x, y)] := by
  rw [sheetsL_step k L x h, List.getD_eq_getElem?_getD, h2]
  rfl
theorem Pgs.hdR {w : World} {a : Option Addr} {n c : Nat} {hs : List Hd} {L : List Pgl} {R : Hd → Pgl → Prop} (h : Pgs w a n c hs L) (hR : ∀ (i : Nat) (x : Hd) (p : Pgl), hs[i]? = some x → L[i]? = some p → R x p) {i : Nat} {p : Pgl} (hp : L[i]? = some p) : ∃ x : Hd, (hs.map hv)[i]? = some (hv x) ∧ R x p := by
  have hi : i < hs.length := by rw [h.len]; exact (List.getElem?_eq_some_iff.1 hp).1
  have hx : hs[i]? = some hs[i] := by simp [hi]
  exact ⟨_, by rw [List.getElem?_map, hx]; rfl, hR i _ p hx hp⟩
set_option maxHeartbeats 4000000 in
theorem ref35_SheetsR (R : Hd → Pgl → Prop) (L : List Pgl) (hs : List Hd) (a : Option Addr) (n c : Nat) (w : World) (hp : Pgs w a n c hs L) (hn : L.length ≤ 1000000) (hR : ∀ (i : Nat) (x : Hd) (p : Pgl), hs[i]? = some x → L[i]? = some p → R x p) (hR0 : R nilH []) :
    Calls Try.prog 9 #[.slice a n c] w fun e w' => ∃ a' c' ws, e = .returned (.slice a' (sheetsL L).length c') ∧ Own w' w.heap.size 29 2 a' (sheetsL L).length c' (ws.flatMap shc) ∧ ShR R ws (sheetsL L) ∧ Below w.heap.size w w' := by
  have HP := hide hp
  have hnn := hp.n_eq
  obtain ⟨N, hN⟩ : ∃ N, Hid (L.length = N) := ⟨_, hide rfl⟩
  rw [hN.out] at hnn hn
  subst hnn
  go_enter Try.func9, Try.ntmps9
  go_wp2_with fail
  go_loopg [3, 4] n (fun g o i w' => ∃ (i0 k : Nat) (a' : Option Addr) (c' : Nat) (ws : List HS), i0 ≤ n ∧ g = n - i0 ∧ i = .int .i64 (i0 : Int) ∧ k = (i0 + 1) / 2 ∧ o = .slice a' k c' ∧ Own w' w.heap.size 29 2 a' k c' (ws.flatMap shc) ∧ ShR R ws (sheetsL (L.take i0)) ∧ Below w.heap.size w w')
  case atStart => exact ⟨0, 0, none, 0, [], by omega, by omega, rfl, rfl, rfl, Own.nil _ _ _ _, ShR.nil _, Below.refl _ _⟩
  case round =>
    obtain ⟨i, k1, aq, cq, ws, hi, hg, rfl, hk1, rfl, hO, hE, hbw⟩ := hrel
    have HG := hide hg
    have HO := hide hO
    have HE := hide hE
    have hwsl : Hid (ws.length = k1) := hide (by have := hO.len; rw [flat_len shc_len] at this; omega)
    clear hg hO hE
    by_cases hin : i < n
    · have hil : Hid (i < L.length) := hide (by rw [hN.out]; exact hin)
      obtain ⟨y, hy⟩ : ∃ y, L[i]? = some y := ⟨L[i]'hil.out, by simp⟩
      obtain ⟨⟨y0, y1, y2⟩, hu, hPy⟩ := HP.out.hdR hR hy
      have HU := hide (show (hs.map hv)[i]? = some (.slice y0 y1 y2) from hu)
      have HPy := hide hPy
      clear hu hPy
      by_cases hpar : i % 2 = 0
      · obtain ⟨k, hk⟩ : ∃ k, Hid (i = 2 * k) := ⟨i / 2, hide (by omega)⟩
        obtain rfl : k1 = k := by have := hk.out; omega
        have hrm : Int.tmod (i : Int) 2 = 0 := by rw [Int.tmod_eq_emod_of_nonneg (by omega)]; omega
        have hrm2 : (i : Int) % 2 = 0 := by omega
        have HEv : Hid (sheetsL (L.take (i + 1)) = sheetsL (L.take i) ++ [(y, [])]) := hide (by
          have hy' := hy
          rw [hk.out] at hy' ⊢
          exact sheetsL_even hy')
        have hE7 : Hid (ShR R (ws ++ [((y0, y1, y2), nilH)]) (sheetsL (L.take (i + 1)))) := hide (by
          rw [HEv.out]
          exact HE.out.append (ShR.one HPy.out hR0))
        have hk6 : k1 ≤ 1000000 := by have := hk.out; omega
        have HPr := HP.out.top.below hbw
        have HOr := HO.out
        have hBr := hbw.size
        clear hk1
        go_wp2_with (first
          | (with_reducible refine idx_pgs 17 _ _ _ _ _ hs rfl HPr _ _ i rfl rfl _ HU.out ?_; intro b2 o2 hcell hbo)
          | (with_reducible refine build_sheet 20 _ (.slice y0 y1 y2) (.slice none 0 0) rfl ?_)
          | (at_builtin; refine app_sheet rfl _ _ rfl w w.heap.size aq k1 cq ws rfl HOr ((y0, y1, y2), nilH) rfl (by omega) hBr hbw ?_; intro a6 c6 w6 ho6 hg6 hb6))
        have HO6 := hide ho6
        clear ho6 hg6 HPr HOr
        go_wp2
        go_roundg (n - (i + 1))
        case measure => have := HG.out; omega
        case rel => exact ⟨i + 1, k1 + 1, a6, c6, ws ++ [((y0, y1, y2), nilH)], by omega, rfl, by go_num, by have := hk.out; omega, rfl, HO6.out, hE7.out, hb6⟩
      · obtain ⟨k, hik⟩ : ∃ k, Hid (i = 2 * k + 1) := ⟨i / 2, hide (by omega)⟩
        obtain rfl : k1 = k + 1 := by have := hik.out; omega
        have hrm : Int.tmod (i : Int) 2 = 1 := by rw [Int.tmod_eq_emod_of_nonneg (by omega)]; omega
        have hrm2 : (i : Int) % 2 = 1 := by omega
        have hdiv1 : (i : Int) / 2 = (k : Int) := by have := hik.out; omega
        have hdiv2 : Int.tdiv (i : Int) 2 = (k : Int) := by rw [Int.tdiv_eq_ediv_of_nonneg (by omega)]; exact hdiv1
        obtain ⟨ws0, x, rfl⟩ : ∃ ws0 x, ws = ws0 ++ [x] := ⟨ws.dropLast, ws.getLast (by intro h; have := hwsl.out; rw [h] at this; simp at this), by rw [List.dropLast_concat_getLast]⟩
        have hwl : Hid (ws0.length = k) := hide (by have := hwsl.out; rw [List.length_append] at this; simp at this; exact this)
        obtain ⟨x0, hx0⟩ : ∃ x0, L[2 * k]? = some x0 := ⟨L[2 * k]'(by have := hik.out; have := hil.out; omega), by simp⟩
        have hodd : Hid (sheetsL (L.take i) = sheetsL (L.take (2 * k)) ++ [(x0, [])]) := hide (by rw [hik.out]; exact sheetsL_even hx0)
        have hodd2 : Hid (sheetsL (L.take (i + 1)) = sheetsL (L.take (2 * k)) ++ [(x0, y)]) := hide (by
          have hy' := hy
          rw [hik.out] at hy' ⊢
          exact sheetsL_odd hx0 hy')
        obtain ⟨gA, hgA⟩ := own_zero HO.out (by omega)
        subst hgA
        have hkq : k < k + 1 := by omega
        clear hk1 hx0 hwsl hy
        go_wp2_with fail
        refine wp_region_free 8 [⟨0, 22, [22], fun vs _ => vs = [.slice (some ⟨gA, 0, none⟩) (k + 1) cq]⟩, ⟨1, 23, [23], fun vs _ => vs = [.int .i64 (i : Int)]⟩, ⟨2, 24, [24], fun vs _ => vs = [.int .i64 (k : Int)]⟩, ⟨3, 25, [25], fun vs _ => vs = [.slice a n c]⟩, ⟨4, 26, [26], fun vs _ => vs = [.int .i64 (i : Int)]⟩, ⟨5, 27, [27], PtF (.slice y0 y1 y2)⟩, ⟨6, 28, [28], fun vs _ => vs = [.slice y0 y1 y2]⟩, ⟨7, 29, [29], fun vs _ => vs = [.pointer (some ⟨gA, 2 * k, none⟩)]⟩] (by kernel_rfl) (by kernel_rfl) ?_ ?_ ?_
        · simp only [All]
          refine ⟨fun _ _ _ _ h => h, fun _ _ _ _ h => h, fun _ _ _ _ h => h, fun _ _ _ _ h => h, fun _ _ _ _ h => h, ?_, fun _ _ _ _ h => h, fun _ _ _ _ h => h, trivial⟩
          · rintro vs w1 w2 hb ⟨b, o, h1, h2⟩
            exact ⟨b, o, h1, cell_blw h2 hb⟩
        · simp only [All]
          refine ⟨?_, ?_, ?_, ?_, ?_, ?_, ?_, ?_, trivial⟩
          · intro o ho a' w' hb hfr hdep
            obtain rfl := Option.some.inj ho
            have g3 : a'.tmps[3]?.getD undef = .slice (some ⟨gA, 0, none⟩) (k + 1) cq := by have h := hfr 3 (by kernel_rfl); simpa using h
            clear ho hfr hdep
            go_wp2_with fail
            exact ⟨rfl, _, rfl, Below.refl _ _, rfl⟩
          · intro o ho a' w' hb hfr hdep
            obtain rfl := Option.some.inj ho
            have g4 : a'.tmps[4]?.getD undef = .int .i64 (i : Int) := by have h := hfr 4 (by kernel_rfl); simpa using h
            clear ho hfr hdep
            go_wp2_with fail
            exact ⟨rfl, _, rfl, Below.refl _ _, rfl⟩
          · intro o ho a' w' hb hfr hdep
            obtain rfl := Option.some.inj ho
            have g23 : a'.tmps[23]?.getD undef = .int .i64 (i : Int) := by have h := hdep 1 _ rfl (by kernel_rfl); simpa using h
            clear ho hfr hdep
            go_wp2_with fail
            exact ⟨rfl, _, rfl, Below.refl _ _, rfl⟩
          · intro o ho a' w' hb hfr hdep
            obtain rfl := Option.some.inj ho
            have g0 : a'.tmps[0]?.getD undef = .slice a n c := by have h := hfr 0 (by kernel_rfl); simpa using h
            clear ho hfr hdep
            go_wp2_with fail
            exact ⟨rfl, _, rfl, Below.refl _ _, rfl⟩
          · intro o ho a' w' hb hfr hdep
            obtain rfl := Option.some.inj ho
            have g4 : a'.tmps[4]?.getD undef = .int .i64 (i : Int) := by have h := hfr 4 (by kernel_rfl); simpa using h
            clear ho hfr hdep
            go_wp2_with fail
            exact ⟨rfl, _, rfl, Below.refl _ _, rfl⟩
          · intro o ho a' w' hb hfr hdep
            obtain rfl := Option.some.inj ho
            have g25 : a'.tmps[25]?.getD undef = .slice a n c := by have h := hdep 3 _ rfl (by kernel_rfl); simpa using h
            have g26 : a'.tmps[26]?.getD undef = .int .i64 (i : Int) := by have h := hdep 4 _ rfl (by kernel_rfl); simpa using h
            clear ho hfr hdep
            refine idx_pgs 27 _ _ _ _ _ hs (by show a'.tmps.getD 25 undef = _; simpa using g25) ((HP.out.top.below hbw).below hb) _ _ i (by show a'.tmps.getD 26 undef = _; simpa using g26) rfl _ HU.out ?_
            intro b o hcell hbo
            exact ⟨rfl, _, rfl, Below.refl _ _, b, o, rfl, hcell⟩
          · intro o ho a' w' hb hfr hdep
            obtain rfl := Option.some.inj ho
            obtain ⟨b27, o27, g27, c27⟩ := hdep 5 _ rfl (by kernel_rfl)
            simp at g27
            clear ho hfr hdep
            have hcl := c27
            go_wp2_with fail
            exact ⟨rfl, _, rfl, Below.refl _ _, rfl⟩
          · intro o ho a' w' hb hfr hdep
            obtain rfl := Option.some.inj ho
            have g22 : a'.tmps[22]?.getD undef = .slice (some ⟨gA, 0, none⟩) (k + 1) cq := by have h := hdep 0 _ rfl (by kernel_rfl); simpa using h
            have g24 : a'.tmps[24]?.getD undef = .int .i64 (k : Int) := by have h := hdep 2 _ rfl (by kernel_rfl); simpa using h
            clear ho hfr hdep
            refine index_own 29 25 _ _ 2 29 Try.underlying25 size_sheet gA (k + 1) cq k (k : Int) (by show a'.tmps.getD 22 undef = _; simpa using g22) (by show a'.tmps.getD 24 undef = _; simpa using g24) rfl hkq ?_
            exact ⟨rfl, _, rfl, Below.refl _ _, by simp [Nat.mul_comm]⟩
        · intro gg w5 hbl hp'
          have p29 := hp' 7 _ rfl
          have p28 := hp' 6 _ rfl
          clear hp'
          simp at p29 p28
          simp only [List.drop_succ_cons, List.drop_zero, List.map_cons, List.map_nil, putAll, Act.put, List.setIfInBounds_toArray, List.set_cons_succ, List.set_cons_zero, List.cons_append, List.nil_append, p29, p28]
          clear p29 p28
          have O5 := HO.out.below hbl
          obtain ⟨u, hu⟩ : ∃ u, w5.cell? ⟨gA, 2 * k + 1, none⟩ = some u := by
            have := O5.sl.cell ⟨gA, 0, none⟩ rfl (2 * k + 1) (hv x.2) (by rw [List.flatMap_append, List.getElem?_append_right (by rw [flat_len shc_len, hwl.out]; omega), flat_len shc_len, hwl.out, show 2 * k + 1 - k * 2 = 1 by omega]; rfl)
            rw [Addr.add_lit, Nat.zero_add] at this
            exact ⟨_, this⟩
          have hfz := O5.free (2 * k + 1)
          go_wp2_with (with_reducible refine hold_store ?_)
          refine hide ?_
          refine store_slice _ _ _ size_page gA (2 * k + 1) rfl y0 y1 y2 rfl u hu hfz ?_
          have O6 := own_set35 O5 (2 * k + 1) (.slice y0 y1 y2)
          have hb6 : Below w.heap.size w (w5.setCell ⟨gA, 2 * k + 1, none⟩ (.slice y0 y1 y2)) := (hbw.trans (hbl.mono hbw.size)).setCell (p := ⟨gA, 2 * k + 1, none⟩) (own_lt HO.out gA (by simp)).1 _
          have O7 : Hid (Own (w5.setCell ⟨gA, 2 * k + 1, none⟩ (.slice y0 y1 y2)) w.heap.size 29 2 (some ⟨gA, 0, none⟩) (k + 1) cq ((ws0 ++ [(x.1, (y0, y1, y2))]).flatMap shc)) := hide (by
            have e := flat_last (x := x) (y := (y0, y1, y2)) hwl.out
            have O8 := O6
            change Own _ _ _ _ _ _ _ (List.set _ _ (hv (y0, y1, y2))) at O8
            rw [e] at O8
            exact O8)
          have hE7 : Hid (ShR R (ws0 ++ [(x.1, (y0, y1, y2))]) (sheetsL (L.take (i + 1)))) := hide (by
            have h1 := HE.out
            rw [hodd.out] at h1
            obtain ⟨h2, h3⟩ := h1.split (by rw [hwl.out, sheetsL_len, List.length_take]; have := hik.out; have := hil.out; omega)
            rw [hodd2.out]
            exact h2.append (ShR.one h3 HPy.out))
          generalize w5.setCell ⟨gA, 2 * k + 1, none⟩ (.slice y0 y1 y2) = w6 at O7 hb6 ⊢
          clear O5 hu hfz O6 hbl
          go_wp2
          go_roundg (n - (i + 1))
          case measure => have := HG.out; omega
          case rel => exact ⟨i + 1, k + 1, some ⟨gA, 0, none⟩, cq, ws0 ++ [(x.1, (y0, y1, y2))], by omega, rfl, by go_num, by have := hik.out; omega, rfl, O7.out, hE7.out, hb6⟩
          

    · obtain rfl : i = n := by omega
      have hTk : Hid (L.take i = L) := hide (by rw [← hN.out, List.take_length])
      have hkk : Hid ((sheetsL L).length = k1) := hide (by rw [sheetsL_len, hN.out, hk1])
      have hE2 := HE.out
      rw [hTk.out] at hE2
      have hE3 := hide hE2
      clear hE2
      go_wp2
      go_ret
      exact ⟨aq, cq, ws, by rw [hkk.out]; rfl, by rw [hkk.out]; exact HO.out, hE3.out, hbw⟩
theorem ref35_Sheets (L : List Pgl) (hs : List Hd) (a : Option Addr) (n c : Nat) (w : World) (hp : Pgs w a n c hs L) (hn : L.length ≤ 1000000) :
    Calls Try.prog 9 #[.slice a n c] w fun e w' => ∃ a' c' ws, e = .returned (.slice a' (sheetsL L).length c') ∧ Own w' w.heap.size 29 2 a' (sheetsL L).length c' (ws.flatMap shc) ∧ ShE w ws (sheetsL L) ∧ Below w.heap.size w w' := by
  refine (ref35_SheetsR (PgE w) L hs a n c w hp hn hp.get (PgE.nil w)).mono ?_
  rintro e w' ⟨a', c', ws, h1, h2, h3, h4⟩
  exact ⟨a', c', ws, h1, h2, ⟨h3.len, h3.get⟩, h4⟩
end Go.Proofs.Ytdeknimelkdaeaa
end
