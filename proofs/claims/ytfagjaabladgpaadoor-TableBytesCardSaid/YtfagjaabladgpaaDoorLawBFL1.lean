/- Chapter 06: the walk of TableBytes. -/
import Derived.Test.YtfagjaabladgpaaDoorBaseBH
set_option linter.unusedVariables false
set_option linter.unusedSimpArgs false
namespace Go.Proofs.YtfagjaabladgpaaDoor
open Go.RowKit Go.Dx
theorem guard_digF : Tryd.prog.eqGuardType Tryd.prog.depth 35 = false := by kernel_rfl
section
variable {w : World} {ops : Array Oper} {rest : List Oper} {act : Act} {Q : Exit → Act → World → Prop} {ty : TypeId} {pos : String} {after : Array Edge}
theorem neq_bytesF {P : Program} (d : Nat) (t : TypeId) (x y : Operand) (e n : Nat) (ht : P.underlying t = some (.array n e)) (he : P.underlying e = some (.int .u8)) (hsz : (P.info? e).map (·.size) = some 1) (hgt : P.eqGuardType P.depth t = false)
  (xs ys : List UInt8) (hx : act.eval x = .agg (xs.map B8).toArray) (hy : act.eval y = .agg (ys.map B8).toArray) (hxl : xs.length = n) (hyl : ys.length = n) (b : Bool) (hb : (!decide (xs = ys)) = b)
  (hK : wpList P ops Q rest (act.put (some d) (.bool b)) w) :
  wpList P ops Q ({ dst := some d, op := .binOp .neq t x y t, type := ty, pos := pos, after := after, guard := none } :: rest) act w := by
 subst hb
 refine val_at rfl _ ?_ hK
 have h1 := run_eqGuard_agg (P := P) (w := w) .neq t x y (xs.map B8).toArray (ys.map B8).toArray hgt
 have h2 := run_neq_arr (P := P) w t e n .u8 ht he hsz (xs.map fun d => (d.toNat : Int)) (ys.map fun d => (d.toNat : Int)) (by simpa using hxl) (by simpa using hyl)
 rw [← bytes_ints, ← bytes_ints] at h2
 have h3 : decide ((xs.map fun d => (d.toNat : Int)) = (ys.map fun d => (d.toNat : Int))) = decide (xs = ys) := decide_eq_decide.2 bytes_inj
 rw [h3] at h2
 simp only [execOp, hx, hy, Sem.run_bind, h1, h2, Result.andThen_ok, Sem.run_pure]
end
theorem skip_any {P : Program} {w : World} {ops : Array Oper} {rest : List Oper} {act : Act} {Q : Exit → Act → World → Prop} {o : Oper} (hw : Region.wanted o (yielded ops act.tmps) = false) (h : wpList P ops Q rest (act.put o.dst undef) w) : wpList P ops Q (o :: rest) act w := by
 unfold wpList
 rw [if_neg (by simp [hw])]
 exact h
theorem opt_undef {x : Option Value} (h : x.getD undef = undef) : x = none ∨ x = some undef := by
 cases x with
 | none => exact .inl rfl
 | some v => exact .inr (congrArg some h)
theorem at_mod (x : Int) : x % 256 = ((tagB x).toNat : Int) := tagB_int x
def G8 (w7 : World) (E J K : List UInt8) : Nat → List Value → World → Prop
 | 0, _, w => Below w7.heap.size w7 w
 | 1, vs, w => Below w7.heap.size w7 w ∧ ∃ a, vs.getD 0 undef = .slice a 0 0 ∧ Own w w7.heap.size 5 1 a 0 0 []
 | 2, vs, w => Below w7.heap.size w7 w ∧ ∃ a c, vs.getD 1 undef = .slice a E.length c ∧ Own w w7.heap.size 5 1 a E.length c (E.map B8)
 | 3, vs, w => Below w7.heap.size w7 w ∧ ∃ a c aJ cJ, vs.getD 1 undef = .slice a E.length c ∧ Own w w7.heap.size 5 1 a E.length c (E.map B8) ∧ vs.getD 2 undef = .slice aJ J.length cJ ∧ Sl w 1 aJ J.length cJ (J.map B8)
 | 4, vs, w => Below w7.heap.size w7 w ∧ ∃ a c, vs.getD 3 undef = .slice a (E.length + J.length) c ∧ Own w w7.heap.size 5 1 a (E.length + J.length) c (E.map B8 ++ J.map B8)
 | _ + 5, vs, w => Below w7.heap.size w7 w ∧ ∃ a c aK cK, vs.getD 3 undef = .slice a (E.length + J.length) c ∧ Own w w7.heap.size 5 1 a (E.length + J.length) c (E.map B8 ++ J.map B8) ∧ vs.getD 4 undef = .slice aK K.length cK ∧ Sl w 1 aK K.length cK (K.map B8)
theorem G8.mono {w7 : World} {E J K : List UInt8} : ∀ (j : Nat) (vs : List Value) (w w' : World), Below w.heap.size w w' → G8 w7 E J K j vs w → G8 w7 E J K j vs w'
 | 0, _, w, w', hb, h => Below.trans h (hb.mono (Below.size h))
 | 1, _, w, w', hb, ⟨h, a, h1, h2⟩ => ⟨h.trans (hb.mono h.size), a, h1, h2.below hb⟩
 | 2, _, w, w', hb, ⟨h, a, c, h1, h2⟩ => ⟨h.trans (hb.mono h.size), a, c, h1, h2.below hb⟩
 | 3, _, w, w', hb, ⟨h, a, c, aJ, cJ, h1, h2, h3, h4⟩ => ⟨h.trans (hb.mono h.size), a, c, aJ, cJ, h1, h2.below hb, h3, h4.below hb⟩
 | 4, _, w, w', hb, ⟨h, a, c, h1, h2⟩ => ⟨h.trans (hb.mono h.size), a, c, h1, h2.below hb⟩
 | _ + 5, _, w, w', hb, ⟨h, a, c, aJ, cJ, h1, h2, h3, h4⟩ => ⟨h.trans (hb.mono h.size), a, c, aJ, cJ, h1, h2.below hb, h3, h4.below hb⟩
theorem G8.bel {w7 : World} {E J K : List UInt8} {j : Nat} {vs : List Value} {w : World} (h : G8 w7 E J K j vs w) : Below w7.heap.size w7 w := by
 rcases j with _ | _ | _ | _ | _ | j
 ·exact h
 ·exact h.1
 ·exact h.1
 ·exact h.1
 ·exact h.1
 ·exact h.1
theorem goodQ_A {t : Ta} (h : GoodTaQ t) : RuT t := goodT_A (valid_parts h.g.ok).2.2.1
set_option maxRecDepth 100000 in
set_option maxHeartbeats 4000000 in
theorem walk_TableBytes (n at_ how by_ : Int) (l : List Int) (a : Option Addr) (ln lc : Nat) (few : List UInt8) (af : Option Addr) (fn fc : Nat) (w : World) (hs : Sl w 1 a ln lc (l.map I64)) (hl : ∀ x ∈ l, -9223372036854775808 ≤ x ∧ x ≤ 9223372036854775807) (hf : Sl w 1 af fn fc (few.map B8))
    (hn : -9223372036854775808 ≤ n ∧ n ≤ 9223372036854775807) (hat : -9223372036854775808 ≤ at_ ∧ at_ ≤ 9223372036854775807) (hhow : -9223372036854775808 ≤ how ∧ how ≤ 9223372036854775807) (hby : -9223372036854775808 ≤ by_ ∧ by_ ≤ 9223372036854775807) (hLd : Laid w) (hLr : LaidR w) :
    Calls Tryd.prog 3 #[.int .i64 n, .int .i64 at_, .int .i64 how, .int .i64 by_, .slice a ln lc, .slice af fn fc] w fun e w' => e = .returned (.bool true) ∧ Below w.heap.size w w' := by
  have HN := hide hn
  have HBY := hide hby
  have HAT := hide hat
  have HHOW := hide hhow
  have HL64 := hide hl
  have HS := hide hs
  have HFW := hide hf
  have HLD := hide hLd
  have HLR := hide hLr
  clear hn hby hat hhow hl hs hf hLd hLr
  go_enter Tryd.func3, Tryd.ntmps3
  go_wp2_with (go_at_call 5; refine (ref_TablesQ n HN.out.1 HN.out.2 w).mono ?_; rintro e w1 ⟨H, t, rfl, hT, hG, hb1⟩; refine hold ?_)
  refine hide ?_
  have hz0 := bsz_good hG.g
  have hr0 := goodQ_A hG
  clear hG
  go_wp2_with (go_at_call 4; refine (ref_BentB H t 900 (by decide) at_ how by_ HAT.out HHOW.out HBY.out w1 hT hz0 hr0).mono ?_; rintro e w2 ⟨Ha, ta, rfl, hTa, ⟨hza, hra⟩, hb2⟩; refine hold ?_)
  refine hide ?_
  have hB2 := hb1.trans (hb2.mono hb1.size)
  clear hz0 hr0 hb1 hb2 hT
  have hx0 : ∀ r ∈ ta.l0, r.text.size ≤ 1000 := fun r hr => by rw [← hTa.e0] at hr; obtain ⟨p, hp, rfl⟩ := List.mem_map.1 hr; exact (hTa.l0.row p hp).2
  have hx1 : ∀ r ∈ ta.l1, r.text.size ≤ 1000 := fun r hr => by rw [← hTa.e1] at hr; obtain ⟨p, hp, rfl⟩ := List.mem_map.1 hr; exact (hTa.l1.row p hp).2
  have HEB := hide (enc_bound hza hra hx0 hx1)
  have HTB := hide (TaB_of hza hra hx0 hx1)
  have HWB := hide (WhB_of hra)
  clear hx0 hx1 hza hra
  have Hm := hide hTa
  clear hTa
  obtain ⟨⟨a0, n0, c0⟩, ⟨a1, n1, c1⟩, ps0, ps1, ⟨ad, nd, cd⟩, ⟨ac, nc, cc⟩, ⟨an, nn, cn⟩, ⟨af2, nf, cf⟩, ⟨aw, nw, cw⟩⟩ := Ha
  unfold TH.v
  simp only [hdv]
  have Y1 := Box.new w2 29 #[.slice a0 n0 c0, .slice a1 n1 c1, .slice ad nd cd, .slice ac nc cc, .slice an nn cn, .slice af2 nf cf, .slice aw nw cw]
  have hbY := blo w2 (.cells #[.slice a0 n0 c0, .slice a1 n1 c1, .slice ad nd cd, .slice ac nc cc, .slice an nn cn, .slice af2 nf cf, .slice aw nw cw] 29)
  go_upto_region 2 with fail
  generalize w2.alloc (.cells _ 29) = w3 at *
  obtain ⟨Ha, hH⟩ : ∃ H : TH, H = ⟨(a0, n0, c0), (a1, n1, c1), ps0, ps1, (ad, nd, cd), (ac, nc, cc), (an, nn, cn), (af2, nf, cf), (aw, nw, cw)⟩ := ⟨_, rfl⟩
  have hX3 : Box w3 w2.heap.size 29 (tcells Ha) := by rw [hH]; exact Y1
  have hTa3 : TaIs w3 Ha ta := by rw [hH]; exact Hm.out.below hbY
  have hB3 := hB2.trans (hbY.mono hB2.size)
  clear hH Hm hbY hB2
  generalize w2.heap.size = gT at *
  clear Y1
  obtain ⟨E, hE⟩ : ∃ E, Hid (encTa ta = E) := ⟨_, hide rfl⟩
  have hEL : E.length ≤ 5000000 := by rw [← hE.out]; exact HEB.out
  have hEp0 : ((E.length : Int) == 0) = false := by have h : 1 ≤ E.length := by rw [← hE.out]; exact enc_pos ta
                                                    exact beq_eq_false_iff_ne.2 (by omega)
  have hEp : 1 ≤ E.length := by rw [← hE.out]; exact enc_pos ta
  have hEn := hide (fun w' (h : Below w3.heap.size w3 w') => tab_Encode Ha ta w' (hTa3.e.below h) HWB.out (by have := HEB.out; omega))
  have hRe := hide (fun w' (h : Below w3.heap.size w3 w') => ref6_Encode Ha ta w' (hTa3.e.below h) HWB.out (by have := HEB.out; omega))
  obtain ⟨D0, hD0⟩ : ∃ D0, Hid ((sha (inputL 8 [S8 E])).take 16 = D0) := ⟨_, hide rfl⟩
  have hD0l : D0.length = 16 := by rw [← hD0.out, List.length_take, sha_len]; rfl
  have HD0l := hide hD0l
  have hDg := hide (fun w' (h : Below w3.heap.size w3 w') => tab_Digest Ha ta w' (HLD.out.below (hB3.trans (h.mono hB3.size))) (hTa3.e.below h) HWB.out (by have := HEB.out; omega))
  have hRg := hide (fun w' (h : Below w3.heap.size w3 w') => ref6_Digest Ha ta w' (HLR.out.below (hB3.trans (h.mono hB3.size))) (hTa3.e.below h) HWB.out (by have := HEB.out; omega))
  unfold digV at hDg hRg
  rw [hE.out] at hEn hRe hDg hRg
  rw [hD0.out] at hDg hRg
  have hOf := hide (fun (a' : Option Addr) (w' : World) (h : Below w3.heap.size w3 w') (hs : Sl w' 1 a' 1 1 ([S8 E].map Value.string)) => of_tot 8 [S8 E] (by show 1 ≤ 1000; decide) (input_one (by rw [S8_size]; omega)) (HLD.out.below (hB3.trans (h.mono hB3.size))) hs)
  rw [hD0.out] at hOf
  clear hD0l
  go_wp2_with (first
    | (with_reducible refine load_struct 35 29 _ 7 size_tables _ Tryd.underlying29 ⟨gT, 0, none⟩ rfl (tcells Ha) rfl (fun j u hj => by rw [Addr.add_lit, Nat.zero_add]; exact hX3.at_ hj) ?_)
    | (go_at_call 6; refine (hEn.out w3 (Below.refl _ _)).mono ?_; rintro e w4 ⟨ab, cb, rfl, hOb, hb4⟩; refine hold ?_))
  refine hide ?_
  have hX4 := hX3.under hb4
  have hB4 := hB3.trans (hb4.mono hB3.size)
  have hsb := hOb.sl
  have hgT4 := hX3.lt
  clear hEn
  go_upto_region 3 with fail
  refine wp_region_free 25 [⟨0, 37, [37], fun vs _ => vs = [.slice ab E.length cb]⟩, ⟨1, 38, [38], fun vs _ => vs = [.int .i64 (E.length : Int)]⟩, ⟨2, 39, [39], fun vs _ => vs = [.bool false]⟩, ⟨3, 40, [40], fun vs _ => vs = [.bool false]⟩, ⟨4, 41, [41], fun vs _ => vs = [.slice ab E.length cb]⟩, ⟨5, 42, [42], fun vs _ => vs = [Ha.v]⟩, ⟨6, 43, [43], fun vs w' => ∃ a c, vs = [.slice a E.length c] ∧ Sl w' 1 a E.length c (E.map B8)⟩, ⟨7, 44, [44], fun vs _ => vs = [.bool true]⟩, ⟨8, 45, [45], fun vs _ => vs = [.bool false]⟩, ⟨9, 46, [46], fun vs _ => vs = [.bool false]⟩, ⟨10, 47, [47], fun vs _ => vs = [.bool false]⟩, ⟨11, 48, [48], fun vs _ => vs = [Ha.v]⟩, ⟨12, 49, [49], fun vs _ => vs = [.agg (D0.map B8).toArray]⟩, ⟨13, 50, [50], fun vs _ => vs = [Ha.v]⟩, ⟨14, 51, [51], fun vs _ => vs = [.agg (D0.map B8).toArray]⟩, ⟨15, 52, [52], fun vs _ => vs = [.bool false]⟩, ⟨16, 53, [53], fun vs _ => vs = [.bool false]⟩, ⟨17, 54, [54], fun vs _ => vs = [.bool false]⟩, ⟨18, 55, [55], fun vs _ => vs = [Ha.v]⟩, ⟨19, 56, [56], fun vs _ => vs = [.agg (D0.map B8).toArray]⟩, ⟨20, 57, [57], fun vs _ => vs = [.slice ab E.length cb]⟩, ⟨21, 58, [58], fun vs _ => vs = [.string (S8 E)]⟩, ⟨22, 59, [59], fun vs w' => ∃ a, vs = [.slice a 1 1] ∧ Sl w' 1 a 1 1 ([S8 E].map Value.string)⟩, ⟨23, 60, [60], fun vs _ => vs = [.agg (D0.map B8).toArray]⟩, ⟨24, 61, [61], fun vs _ => vs = [.bool false]⟩] (by kernel_rfl) (by kernel_rfl) ?_ ?_ ?_
  · simp only [All]
    refine ⟨fun _ _ _ _ h => h, fun _ _ _ _ h => h, fun _ _ _ _ h => h, fun _ _ _ _ h => h, fun _ _ _ _ h => h, fun _ _ _ _ h => h, ?_, fun _ _ _ _ h => h, fun _ _ _ _ h => h, fun _ _ _ _ h => h, fun _ _ _ _ h => h, fun _ _ _ _ h => h, fun _ _ _ _ h => h, fun _ _ _ _ h => h, fun _ _ _ _ h => h, fun _ _ _ _ h => h, fun _ _ _ _ h => h, fun _ _ _ _ h => h, fun _ _ _ _ h => h, fun _ _ _ _ h => h, fun _ _ _ _ h => h, fun _ _ _ _ h => h, ?_, fun _ _ _ _ h => h, fun _ _ _ _ h => h, trivial⟩
    · rintro vs w2 w3 hb ⟨a, c, h1, h2⟩
      exact ⟨a, c, h1, h2.below hb⟩
    · rintro vs w2 w3 hb ⟨a, h1, h2⟩
      exact ⟨a, h1, h2.below hb⟩
  · simp only [All]
    refine ⟨?_, ?_, ?_, ?_, ?_, ?_, ?_, ?_, ?_, ?_, ?_, ?_, ?_, ?_, ?_, ?_, ?_, ?_, ?_, ?_, ?_, ?_, ?_, ?_, ?_, trivial⟩
    · intro o ho a' w' hb hfr hdep
      obtain rfl := oj ho
      have g14 : a'.tmps[14]?.getD undef = .slice ab E.length cb := by simpa using hfr 14 (by kernel_rfl)
      clear ho hfr hdep; go_wp2_with fail; exact ⟨rfl, _, rfl, br, rfl⟩
    · intro o ho a' w' hb hfr hdep
      obtain rfl := oj ho
      have g37 : a'.tmps[37]?.getD undef = .slice ab E.length cb := by simpa using hdep 0 _ rfl (by kernel_rfl)
      clear ho hfr hdep; go_wp2_with fail; exact ⟨rfl, _, rfl, br, rfl⟩
    · intro o ho a' w' hb hfr hdep
      obtain rfl := oj ho
      have g38 : a'.tmps[38]?.getD undef = .int .i64 (E.length : Int) := by simpa using hdep 1 _ rfl (by kernel_rfl)
      clear ho hfr hdep; go_wp2_with fail; exact ⟨rfl, _, rfl, br, rfl⟩
    · intro o ho a' w' hb hfr hdep
      obtain rfl := oj ho
      have g39 : a'.tmps[39]?.getD undef = .bool false := by simpa using hdep 2 _ rfl (by kernel_rfl)
      clear ho hfr hdep; go_wp2_with fail; exact ⟨rfl, _, rfl, br, rfl⟩
    · intro o ho a' w' hb hfr hdep
      obtain rfl := oj ho
      have g14 : a'.tmps[14]?.getD undef = .slice ab E.length cb := by simpa using hfr 14 (by kernel_rfl)
      have g40 : a'.tmps[40]?.getD undef = .bool false := by simpa using hdep 3 _ rfl (by kernel_rfl)
      have q40 := opt_bool g40
      clear ho hfr hdep; refine unguard_any (by simp [Region.wanted, yielded, q40]) ?_
      go_wp2_with fail; exact ⟨rfl, _, rfl, br, rfl⟩
    · intro o ho a' w' hb hfr hdep
      obtain rfl := oj ho
      have g13 : a'.tmps[13]?.getD undef = .pointer (some ⟨gT, 0, none⟩) := by simpa using hfr 13 (by kernel_rfl)
      have g40 : a'.tmps[40]?.getD undef = .bool false := by simpa using hdep 3 _ rfl (by kernel_rfl)
      have q40 := opt_bool g40
      clear ho hfr hdep; refine unguard_any (by simp [Region.wanted, yielded, q40]) ?_
      refine load_struct 42 29 _ 7 size_tables _ Tryd.underlying29 ⟨gT, 0, none⟩ (by show a'.tmps.getD 13 undef = _; simpa using g13) (tcells Ha) rfl (fun j u hj => by rw [Addr.add_lit, Nat.zero_add]; exact (hX4.under hb).at_ hj) ?_
      exact ⟨rfl, _, rfl, br, rfl⟩
    · intro o ho a' w' hb hfr hdep
      obtain rfl := oj ho
      have g42 : a'.tmps[42]?.getD undef = Ha.v := by simpa using hdep 5 _ rfl (by kernel_rfl)
      have g40 : a'.tmps[40]?.getD undef = .bool false := by simpa using hdep 3 _ rfl (by kernel_rfl)
      have q40 := opt_bool g40
      clear ho hfr hdep; refine unguard_any (by simp [Region.wanted, yielded, q40]) ?_
      have h34 := hb4.trans (hb.mono hb4.size)
      go_wp2_with fail
      refine (hRe.out w' h34).mono ?_
      rintro e w2 ⟨a, c, rfl, hO, h2⟩
      have hO2 := hO.sl
      go_wp2_with fail
      exact ⟨rfl, _, rfl, h2, a, c, rfl, hO2⟩
    · intro o ho a' w' hb hfr hdep
      obtain rfl := oj ho
      have g41 : a'.tmps[41]?.getD undef = .slice ab E.length cb := by simpa using hdep 4 _ rfl (by kernel_rfl)
      obtain ⟨a43, c43, g43, hs43⟩ := hdep 6 _ rfl (by kernel_rfl)
      replace g43 : a'.tmps[43]?.getD undef = .slice a43 E.length c43 := by simpa using g43
      have g40 : a'.tmps[40]?.getD undef = .bool false := by simpa using hdep 3 _ rfl (by kernel_rfl)
      have q40 := opt_bool g40
      clear ho hfr hdep; refine unguard_any (by simp [Region.wanted, yielded, q40]) ?_
      go_wp2_with fail
      refine (ref_Same E E _ _ _ _ _ _ w' (hsb.below hb) hs43).mono ?_
      rintro e w2 hst
      rw [decide_eq_true (Eq.refl E)] at hst
      obtain ⟨rfl, n9, rfl⟩ := hst
      go_wp2_with fail
      exact ⟨rfl, _, rfl, Still.below n9, rfl⟩
    · intro o ho a' w' hb hfr hdep
      obtain rfl := oj ho
      have g44 : a'.tmps[44]?.getD undef = .bool true := by simpa using hdep 7 _ rfl (by kernel_rfl)
      have g40 : a'.tmps[40]?.getD undef = .bool false := by simpa using hdep 3 _ rfl (by kernel_rfl)
      have q40 := opt_bool g40
      clear ho hfr hdep; refine unguard_any (by simp [Region.wanted, yielded, q40]) ?_
      go_wp2_with fail; exact ⟨rfl, _, rfl, br, rfl⟩
    · intro o ho a' w' hb hfr hdep
      obtain rfl := oj ho
      have g40 : a'.tmps[40]?.getD undef = .bool false := by simpa using hdep 3 _ rfl (by kernel_rfl)
      have g45 : a'.tmps[45]?.getD undef = .bool false := by simpa using hdep 8 _ rfl (by kernel_rfl)
      clear ho hfr hdep; go_wp2_with fail; exact ⟨rfl, _, rfl, br, rfl⟩
    · intro o ho a' w' hb hfr hdep
      obtain rfl := oj ho
      have g46 : a'.tmps[46]?.getD undef = .bool false := by simpa using hdep 9 _ rfl (by kernel_rfl)
      clear ho hfr hdep; go_wp2_with fail; exact ⟨rfl, _, rfl, br, rfl⟩
    · intro o ho a' w' hb hfr hdep
      obtain rfl := oj ho
      have g13 : a'.tmps[13]?.getD undef = .pointer (some ⟨gT, 0, none⟩) := by simpa using hfr 13 (by kernel_rfl)
      have g47 : a'.tmps[47]?.getD undef = .bool false := by simpa using hdep 10 _ rfl (by kernel_rfl)
      have q47 := opt_bool g47
      clear ho hfr hdep; refine unguard_any (by simp [Region.wanted, yielded, q47]) ?_
      refine load_struct 48 29 _ 7 size_tables _ Tryd.underlying29 ⟨gT, 0, none⟩ (by show a'.tmps.getD 13 undef = _; simpa using g13) (tcells Ha) rfl (fun j u hj => by rw [Addr.add_lit, Nat.zero_add]; exact (hX4.under hb).at_ hj) ?_
      exact ⟨rfl, _, rfl, br, rfl⟩
    · intro o ho a' w' hb hfr hdep
      obtain rfl := oj ho
      have g48 : a'.tmps[48]?.getD undef = Ha.v := by simpa using hdep 11 _ rfl (by kernel_rfl)
      have g47 : a'.tmps[47]?.getD undef = .bool false := by simpa using hdep 10 _ rfl (by kernel_rfl)
      have q47 := opt_bool g47
      clear ho hfr hdep; refine unguard_any (by simp [Region.wanted, yielded, q47]) ?_
      have h34 := hb4.trans (hb.mono hb4.size)
      go_wp2_with fail
      refine (hDg.out w' h34).mono ?_
      rintro e w2 ⟨rfl, h2⟩
      go_wp2_with fail
      exact ⟨rfl, _, rfl, h2, rfl⟩
    · intro o ho a' w' hb hfr hdep
      obtain rfl := oj ho
      have g13 : a'.tmps[13]?.getD undef = .pointer (some ⟨gT, 0, none⟩) := by simpa using hfr 13 (by kernel_rfl)
      have g47 : a'.tmps[47]?.getD undef = .bool false := by simpa using hdep 10 _ rfl (by kernel_rfl)
      have q47 := opt_bool g47
      clear ho hfr hdep; refine unguard_any (by simp [Region.wanted, yielded, q47]) ?_
      refine load_struct 50 29 _ 7 size_tables _ Tryd.underlying29 ⟨gT, 0, none⟩ (by show a'.tmps.getD 13 undef = _; simpa using g13) (tcells Ha) rfl (fun j u hj => by rw [Addr.add_lit, Nat.zero_add]; exact (hX4.under hb).at_ hj) ?_
      exact ⟨rfl, _, rfl, br, rfl⟩
    · intro o ho a' w' hb hfr hdep
      obtain rfl := oj ho
      have g50 : a'.tmps[50]?.getD undef = Ha.v := by simpa using hdep 13 _ rfl (by kernel_rfl)
      have g47 : a'.tmps[47]?.getD undef = .bool false := by simpa using hdep 10 _ rfl (by kernel_rfl)
      have q47 := opt_bool g47
      clear ho hfr hdep; refine unguard_any (by simp [Region.wanted, yielded, q47]) ?_
      have h34 := hb4.trans (hb.mono hb4.size)
      go_wp2_with fail
      refine (hRg.out w' h34).mono ?_
      rintro e w2 ⟨rfl, h2⟩
      go_wp2_with fail
      exact ⟨rfl, _, rfl, h2, rfl⟩
    · intro o ho a' w' hb hfr hdep
      obtain rfl := oj ho
      have g49 : a'.tmps[49]?.getD undef = .agg (D0.map B8).toArray := by simpa using hdep 12 _ rfl (by kernel_rfl)
      have g51 : a'.tmps[51]?.getD undef = .agg (D0.map B8).toArray := by simpa using hdep 14 _ rfl (by kernel_rfl)
      have g47 : a'.tmps[47]?.getD undef = .bool false := by simpa using hdep 10 _ rfl (by kernel_rfl)
      have q47 := opt_bool g47
      clear ho hfr hdep; refine unguard_any (by simp [Region.wanted, yielded, q47]) ?_
      refine neq_bytesF 52 35 _ _ 5 16 Tryd.underlying35 Tryd.underlying5 size_u8 guard_digF D0 D0 (by simpa [Act.eval] using g49) (by simpa [Act.eval] using g51) HD0l.out HD0l.out false (by simp) ?_
      exact ⟨rfl, _, rfl, br, rfl⟩
    · intro o ho a' w' hb hfr hdep
      obtain rfl := oj ho
      have g47 : a'.tmps[47]?.getD undef = .bool false := by simpa using hdep 10 _ rfl (by kernel_rfl)
      have g52 : a'.tmps[52]?.getD undef = .bool false := by simpa using hdep 15 _ rfl (by kernel_rfl)
      clear ho hfr hdep; go_wp2_with fail; exact ⟨rfl, _, rfl, br, rfl⟩
    · intro o ho a' w' hb hfr hdep
      obtain rfl := oj ho
      have g53 : a'.tmps[53]?.getD undef = .bool false := by simpa using hdep 16 _ rfl (by kernel_rfl)
      clear ho hfr hdep; go_wp2_with fail; exact ⟨rfl, _, rfl, br, rfl⟩
    · intro o ho a' w' hb hfr hdep
      obtain rfl := oj ho
      have g13 : a'.tmps[13]?.getD undef = .pointer (some ⟨gT, 0, none⟩) := by simpa using hfr 13 (by kernel_rfl)
      have g54 : a'.tmps[54]?.getD undef = .bool false := by simpa using hdep 17 _ rfl (by kernel_rfl)
      have q54 := opt_bool g54
      clear ho hfr hdep; refine unguard_any (by simp [Region.wanted, yielded, q54]) ?_
      refine load_struct 55 29 _ 7 size_tables _ Tryd.underlying29 ⟨gT, 0, none⟩ (by show a'.tmps.getD 13 undef = _; simpa using g13) (tcells Ha) rfl (fun j u hj => by rw [Addr.add_lit, Nat.zero_add]; exact (hX4.under hb).at_ hj) ?_
      exact ⟨rfl, _, rfl, br, rfl⟩
    · intro o ho a' w' hb hfr hdep
      obtain rfl := oj ho
      have g55 : a'.tmps[55]?.getD undef = Ha.v := by simpa using hdep 18 _ rfl (by kernel_rfl)
      have g54 : a'.tmps[54]?.getD undef = .bool false := by simpa using hdep 17 _ rfl (by kernel_rfl)
      have q54 := opt_bool g54
      clear ho hfr hdep; refine unguard_any (by simp [Region.wanted, yielded, q54]) ?_
      have h34 := hb4.trans (hb.mono hb4.size)
      go_wp2_with fail
      refine (hDg.out w' h34).mono ?_
      rintro e w2 ⟨rfl, h2⟩
      go_wp2_with fail
      exact ⟨rfl, _, rfl, h2, rfl⟩
    · intro o ho a' w' hb hfr hdep
      obtain rfl := oj ho
      have g14 : a'.tmps[14]?.getD undef = .slice ab E.length cb := by simpa using hfr 14 (by kernel_rfl)
      have g54 : a'.tmps[54]?.getD undef = .bool false := by simpa using hdep 17 _ rfl (by kernel_rfl)
      have q54 := opt_bool g54
      clear ho hfr hdep; refine unguard_any (by simp [Region.wanted, yielded, q54]) ?_
      go_wp2_with fail; exact ⟨rfl, _, rfl, br, rfl⟩
    · intro o ho a' w' hb hfr hdep
      obtain rfl := oj ho
      have g57 : a'.tmps[57]?.getD undef = .slice ab E.length cb := by simpa using hdep 20 _ rfl (by kernel_rfl)
      have g54 : a'.tmps[54]?.getD undef = .bool false := by simpa using hdep 17 _ rfl (by kernel_rfl)
      have q54 := opt_bool g54
      clear ho hfr hdep; refine unguard_any (by simp [Region.wanted, yielded, q54]) ?_
      refine to_str 58 _ ab E.length cb E (by show a'.tmps.getD 57 undef = _; simpa using g57) (hsb.below hb) ?_
      exact ⟨rfl, _, rfl, br, rfl⟩
    · intro o ho a' w' hb hfr hdep
      obtain rfl := oj ho
      have g58 : a'.tmps[58]?.getD undef = .string (S8 E) := by simpa using hdep 21 _ rfl (by kernel_rfl)
      have g54 : a'.tmps[54]?.getD undef = .bool false := by simpa using hdep 17 _ rfl (by kernel_rfl)
      have q54 := opt_bool g54
      clear ho hfr hdep; refine unguard_any (by simp [Region.wanted, yielded, q54]) ?_
      go_wp2_with fail
      exact ⟨rfl, _, rfl, blo _ _, _, rfl, Sl.fresh _ _ 1 1 ([S8 E].map Value.string) rfl (by decide)⟩
    · intro o ho a' w' hb hfr hdep
      obtain rfl := oj ho
      obtain ⟨a59, g59, hs59⟩ := hdep 22 _ rfl (by kernel_rfl)
      replace g59 : a'.tmps[59]?.getD undef = .slice a59 1 1 := by simpa using g59
      have g54 : a'.tmps[54]?.getD undef = .bool false := by simpa using hdep 17 _ rfl (by kernel_rfl)
      have q54 := opt_bool g54
      clear ho hfr hdep; refine unguard_any (by simp [Region.wanted, yielded, q54]) ?_
      have h34 := hb4.trans (hb.mono hb4.size)
      go_wp2_with fail
      refine (hOf.out a59 w' h34 hs59).mono ?_
      rintro e w2 ⟨rfl, h2⟩
      go_wp2_with fail
      exact ⟨rfl, _, rfl, h2, rfl⟩
    · intro o ho a' w' hb hfr hdep
      obtain rfl := oj ho
      have g56 : a'.tmps[56]?.getD undef = .agg (D0.map B8).toArray := by simpa using hdep 19 _ rfl (by kernel_rfl)
      have g60 : a'.tmps[60]?.getD undef = .agg (D0.map B8).toArray := by simpa using hdep 23 _ rfl (by kernel_rfl)
      have g54 : a'.tmps[54]?.getD undef = .bool false := by simpa using hdep 17 _ rfl (by kernel_rfl)
      have q54 := opt_bool g54
      clear ho hfr hdep; refine unguard_any (by simp [Region.wanted, yielded, q54]) ?_
      refine neq_bytesF 61 35 _ _ 5 16 Tryd.underlying35 Tryd.underlying5 size_u8 guard_digF D0 D0 (by simpa [Act.eval] using g56) (by simpa [Act.eval] using g60) HD0l.out HD0l.out false (by simp) ?_
      exact ⟨rfl, _, rfl, br, rfl⟩
  · intro g w5 hb5 hp
    have p61 : g 61 = .bool false := by have h := hp 24 _ rfl; simpa using h
    have p54 : g 54 = .bool false := by have h := hp 17 _ rfl; simpa using h
    clear hp
    simp only [List.drop_succ_cons, List.drop_zero, List.map_cons, List.map_nil, putAll, Act.put, List.setIfInBounds_toArray, List.set_cons_succ, List.set_cons_zero, p61, p54]
    clear p61 p54
    have hX5 := hX4.under hb5
    have hB5 := hB4.trans (hb5.mono hB4.size)
    have hsb5 := hsb.below hb5
    have hb35 := hb4.trans (hb5.mono hb4.size)
    have HABlt : Hid (∀ p, ab = some p → p.block < w5.heap.size) := hide (fun p hp => by subst hp; exact Nat.lt_of_lt_of_le hOb.base.2 hb5.size)
    clear hDg hRg hOf hD0 HD0l hRe hX4 hB4 hsb hb5 hb4 hOb hgT4 hEp0
    obtain ⟨kk, hkk⟩ : ∃ kk, Hid (aroundF by_ E.length = kk) := ⟨_, hide rfl⟩
    have hkl : kk < E.length := by rw [← hkk.out]; exact aroundF_lt (by omega)
    have hAr := hide (ref_Around by_ (E.length : Int) E.length w5 rfl HBY.out.1 HBY.out.2 hEp (by omega))
    rw [hkk.out] at hAr
    go_wp2_with (go_at_call 12; refine hAr.out.mono ?_; rintro e w6 ⟨rfl, rfl⟩; refine hold ?_)
    refine hide ?_
    clear hAr
    have hown0 : Own (w5.alloc (.cells #[] 5)) w5.heap.size 5 1 (some ⟨w5.heap.size, 0, none⟩) 0 0 [] := Own.built w5 w5.heap.size 5 1 0 #[] (Nat.le_refl _) rfl (by decide)
    have hbe := blo w5 (.cells #[] 5)
    have hsbe := hsb5.below hbe
    have hze := hbe.size
    go_wp2_with (at_builtin; refine app_bs rfl _ _ rfl w5 w5.heap.size (some ⟨w5.heap.size, 0, none⟩) 0 0 [] rfl hown0 ab E.length cb E rfl hsbe (by omega) hze hbe ?_; intro a6 c6 w6 hO6 g6 hb6; refine hold ?_)
    refine hide ?_
    rw [Nat.zero_add] at hO6
    rw [List.nil_append] at hO6
    clear hown0 hbe hsbe hze g6
    obtain ⟨q6, rfl⟩ : ∃ q, a6 = some q := by
      obtain ⟨g, h, _⟩ := own_someF hO6 (by rw [List.length_map]; exact hEp)
      exact ⟨_, h⟩
    obtain ⟨cur, hq6, hbox6, hlen6, hset6⟩ := hO6.box
    obtain ⟨b6, hb6e⟩ : ∃ b, b = q6.block := ⟨_, rfl⟩
    rw [← hb6e] at hq6 hbox6 hset6
    subst hq6
    have hb6l : w5.heap.size ≤ b6 := hO6.base.1
    have hk6 : kk < cur.length := by omega
    have hatm := at_mod at_
    have HATM := hide hatm
    clear hatm hb6e hlen6
    go_wp2_with (first
      | (with_reducible refine index_rowF 74 23 _ _ 5 Tryd.underlying23 1 size_u8 b6 0 E.length c6 rfl _ _ kk rfl rfl hkl ?_; rw [Nat.zero_add, Nat.mul_one])
      | (with_reducible refine hold_storeF ?_))
    refine hide ?_
    refine store_cell 5 _ _ 5 b6 kk cur (.int .u8 (at_ % 256)) size_u8 hbox6 (by rfl) (by rfl) rfl rfl hk6 ?_
    intro w7 hbox7 hg7 hs7
    simp only [Act.put, List.setIfInBounds_toArray, List.set_cons_succ, List.set_cons_zero]
    obtain ⟨Bn, hBn⟩ : ∃ Bn, Hid (E.set kk (tagB at_) = Bn) := ⟨_, hide rfl⟩
    have hBnl : Bn.length = E.length := by rw [← hBn.out, List.length_set]
    have HBNL := hide hBnl
    have hO7 : Own w7 w5.heap.size 5 1 (some ⟨b6, 0, none⟩) E.length c6 (Bn.map B8) := by
      have h := hset6 w7 kk _ (by omega) hbox7
      rw [← hBn.out, List.map_set]
      rw [HATM.out] at h
      exact h
    have hb57 : Below w5.heap.size w5 w7 := hb6.grown hg7 hb6.size (fun k hk => by cases hk; exact hb6l)
    have hsb7 := hsb5.below hb57
    have hX7 := hX5.under hb57
    have hB7 := hB5.trans (hb57.mono hB5.size)
    have hb37 := hb35.trans (hb57.mono hb35.size)
    have hsn7 := hO7.sl
    clear hsb5 hX5 hb35 hO6 hbox6 hset6 hbox7 hg7 hs7 hO7 hb6 hb6l hk6 HATM hb57 hB5 hBnl
    obtain ⟨J, hJ⟩ : ∃ J, Hid (few.take 9 = J) := ⟨_, hide rfl⟩
    obtain ⟨K, hK⟩ : ∃ K, Hid (few.take 60 = K) := ⟨_, hide rfl⟩
    have hJl : J.length ≤ 9 := by rw [← hJ.out, List.length_take]; omega
    have hKl : K.length ≤ 60 := by rw [← hK.out, List.length_take]; omega
    have hFJ := hide (fun w' (h : Below w.heap.size w w') => ref_Few few 9 af fn fc w' (HFW.out.below h) (by decide))
    have hFK := hide (fun w' (h : Below w.heap.size w w') => ref_Few few 60 af fn fc w' (HFW.out.below h) (by decide))
    rw [hJ.out] at hFJ
    rw [hK.out] at hFK
    go_upto_region 8 with fail
    refine wp_region_chain4 12 (fun _ _ => True) (G8 w7 E J K) [⟨0, 75, [], fun _ _ => True⟩, ⟨2, 77, [], fun _ _ => True⟩, ⟨4, 79, [], fun _ _ => True⟩, ⟨5, 80, [], fun _ _ => True⟩, ⟨11, 86, [], fun _ _ => True⟩] [⟨1, 76, [76], fun vs _ => vs = [.slice ab E.length cb]⟩, ⟨3, 78, [78], fun vs _ => vs = [.slice af fn fc]⟩, ⟨6, 81, [81], fun vs _ => vs = [.slice ab E.length cb]⟩, ⟨7, 82, [82], fun vs _ => vs = [.int .i64 (kk : Int)]⟩, ⟨8, 83, [83], fun vs _ => vs = [.slice ab kk cb]⟩, ⟨9, 84, [84], fun vs _ => vs = [.slice (some ⟨b6, 0, none⟩) E.length c6]⟩, ⟨10, 85, [85], fun vs _ => vs = [.slice af fn fc]⟩] (by kernel_rfl) (by kernel_rfl) ?_ (fun _ _ _ => trivial) G8.mono ?_ ?_ ?_ ?_
    · exact (Still.below 1 : Below w7.heap.size w7 (w7.drewN 1))
    · simp only [All]
      refine ⟨(fun _ _ _ _ h => h), (fun _ _ _ _ h => h), (fun _ _ _ _ h => h), (fun _ _ _ _ h => h), (fun _ _ _ _ h => h), (fun _ _ _ _ h => h), (fun _ _ _ _ h => h), trivial⟩
    · intro m c hc o ho a w' hG hfr hdep
      rcases m with _ | _ | _ | _ | _ | m
      · cases hc
        obtain rfl := oj ho
        have hb : Below w7.heap.size w7 w' := hG
        clear hfr hdep hG
        have hzz := hb.size
        go_wp2_with fail
        exact ⟨rfl, _, rfl, hb.trans ((blo _ _).mono hzz), _, rfl, Own.built w' w7.heap.size 5 1 0 #[] hzz rfl (by decide)⟩
      · cases hc
        obtain rfl := oj ho
        obtain ⟨hb, a0, g75, hO⟩ := hG
        have g75 : a.tmps.getD 75 undef = .slice a0 0 0 := g75
        have g76 : a.tmps[76]?.getD undef = .slice ab E.length cb := by simpa using hdep 0 _ rfl (by kernel_rfl)
        clear hfr hdep
        refine app_bs rfl _ _ rfl w7 w7.heap.size a0 0 0 [] g75 hO ab E.length cb E (by show a.tmps.getD 76 undef = _; simpa using g76) (hsb7.below hb) (by omega) hb.size hb ?_
        intro a3 c3 w3 hO3 g3 hb3
        rw [Nat.zero_add] at hO3
        try rw [Nat.zero_add]
        rw [List.nil_append] at hO3
        go_wp2
        exact ⟨rfl, _, rfl, hb3, a3, c3, rfl, hO3⟩
      · cases hc
        obtain rfl := oj ho
        obtain ⟨hb, a1, c1, g77, hO⟩ := hG
        have g78 : a.tmps[78]?.getD undef = .slice af fn fc := by simpa using hdep 1 _ rfl (by kernel_rfl)
        clear hfr hdep
        have hBz := hB7.trans (hb.mono hB7.size)
        go_wp2_with fail
        refine (hFJ.out w' hBz).mono ?_
        rintro e w3 ⟨aJ, cJ, rfl, hOJ, hb3⟩
        have hsJ := hOJ.sl
        have hO3 := hO.below hb3
        have hb73 := hb.trans (hb3.mono hb.size)
        go_wp2_with fail
        exact ⟨rfl, _, rfl, hb73, a1, c1, aJ, cJ, by simpa using g77, hO3, rfl, hsJ⟩
      · cases hc
        obtain rfl := oj ho
        obtain ⟨hb, a1, c1, aJ, cJ, g77, hO, g79, hsJ⟩ := hG
        have g77 : a.tmps.getD 77 undef = .slice a1 E.length c1 := g77
        have g79 : a.tmps.getD 79 undef = .slice aJ J.length cJ := g79
        clear hfr hdep
        refine app_bs rfl _ _ rfl w7 w7.heap.size a1 E.length c1 _ g77 hO aJ J.length cJ J g79 hsJ (by omega) hb.size hb ?_
        intro a3 c3 w3 hO3 g3 hb3
        go_wp2
        exact ⟨rfl, _, rfl, hb3, a3, c3, rfl, hO3⟩
      · cases hc
        obtain rfl := oj ho
        obtain ⟨hb, a1, c1, g80, hO⟩ := hG
        have g85 : a.tmps[85]?.getD undef = .slice af fn fc := by simpa using hdep 6 _ rfl (by kernel_rfl)
        clear hfr hdep
        have hBz := hB7.trans (hb.mono hB7.size)
        go_wp2_with fail
        refine (hFK.out w' hBz).mono ?_
        rintro e w3 ⟨aK, cK, rfl, hOK, hb3⟩
        have hsK := hOK.sl
        have hO3 := hO.below hb3
        have hb73 := hb.trans (hb3.mono hb.size)
        go_wp2_with fail
        exact ⟨rfl, _, rfl, hb73, a1, c1, aK, cK, by simpa using g80, hO3, rfl, hsK⟩
      · cases hc
    · simp only [All]
      refine ⟨?_, ?_, ?_, ?_, ?_, ?_, ?_, trivial⟩
      · intro o ho a' w' hfr hdep hst
        obtain rfl := oj ho
        have g14 : a'.tmps[14]?.getD undef = .slice ab E.length cb := by simpa using hfr 14 (by kernel_rfl)
        clear ho hfr hdep hst; go_wp2_with fail; exact ⟨rfl, _, rfl, br, rfl⟩
      · intro o ho a' w' hfr hdep hst
        obtain rfl := oj ho
        have g5 : a'.tmps[5]?.getD undef = .slice af fn fc := by simpa using hfr 5 (by kernel_rfl)
        clear ho hfr hdep hst; go_wp2_with fail; exact ⟨rfl, _, rfl, br, rfl⟩
      · intro o ho a' w' hfr hdep hst
        obtain rfl := oj ho
        have g14 : a'.tmps[14]?.getD undef = .slice ab E.length cb := by simpa using hfr 14 (by kernel_rfl)
        clear ho hfr hdep hst; go_wp2_with fail; exact ⟨rfl, _, rfl, br, rfl⟩
      · intro o ho a' w' hfr hdep hst
        obtain rfl := oj ho
        have g15 : a'.tmps[15]?.getD undef = .int .i64 (kk : Int) := by simpa using hfr 15 (by kernel_rfl)
        clear ho hfr hdep hst; go_wp2_with fail; exact ⟨rfl, _, rfl, br, rfl⟩
      · intro o ho a' w' hfr hdep hst
        obtain rfl := oj ho
        have g81 : a'.tmps[81]?.getD undef = .slice ab E.length cb := by simpa using hdep 2 _ rfl (by kernel_rfl)
        have g82 : a'.tmps[82]?.getD undef = .int .i64 (kk : Int) := by simpa using hdep 3 _ rfl (by kernel_rfl)
        obtain ⟨j, _, _, hG⟩ := hst
        clear ho hfr hdep; have hbz : Below w7.heap.size w7 w' := G8.bel hG
        clear hG
        refine cuthi_b 83 _ _ ab E.length cb E (by show a'.tmps.getD 81 undef = _; simpa using g81) (hsb7.below hbz) _ _ kk (by show a'.tmps.getD 82 undef = _; simpa using g82) rfl (Nat.le_of_lt hkl) ?_
        intro hz
        exact ⟨rfl, _, rfl, br, rfl⟩
      · intro o ho a' w' hfr hdep hst
        obtain rfl := oj ho
        have g16 : a'.tmps[16]?.getD undef = .slice (some ⟨b6, 0, none⟩) E.length c6 := by simpa using hfr 16 (by kernel_rfl)
        clear ho hfr hdep hst; go_wp2_with fail; exact ⟨rfl, _, rfl, br, rfl⟩
      · intro o ho a' w' hfr hdep hst
        obtain rfl := oj ho
        have g5 : a'.tmps[5]?.getD undef = .slice af fn fc := by simpa using hfr 5 (by kernel_rfl)
        clear ho hfr hdep hst; go_wp2_with fail; exact ⟨rfl, _, rfl, br, rfl⟩
    · intro g w8 hG hp
      obtain ⟨hb78, a8, c8, aK, cK, p80, hO8, p86, hsK⟩ := hG
      have p80 : g 80 = .slice a8 (E.length + J.length) c8 := by simpa using p80
      have p86 : g 86 = .slice aK K.length cK := by simpa using p86
      have p83 : g 83 = .slice ab kk cb := by have h := hp 4 _ rfl; simpa using h
      have p84 : g 84 = .slice (some ⟨b6, 0, none⟩) E.length c6 := by have h := hp 5 _ rfl; simpa using h
      clear hp
      simp only [List.drop_succ_cons, List.drop_zero, List.map_cons, List.map_nil, putAll, Act.put, List.setIfInBounds_toArray, List.set_cons_succ, List.set_cons_zero, p80, p83, p84, p86, List.cons_append, List.nil_append]
      clear p80 p83 p84 p86
      have hs80 := hO8.sl
      have hX8 := hX7.under hb78
      have hB8 := hB7.trans (hb78.mono hB7.size)
      have hsb8 := (hsb7.below hb78).take kk (Nat.le_of_lt hkl)
      have hsn8 := hsn7.below hb78
      rw [← List.map_append] at hs80
      rw [← List.map_take] at hsb8
      have xQ := Box.new w8 23 #[.slice a8 (E.length + J.length) c8, .slice ab kk cb, .slice (some ⟨b6, 0, none⟩) E.length c6, .slice aK K.length cK]
      have hbq := blo w8 (.cells #[.slice a8 (E.length + J.length) c8, .slice ab kk cb, .slice (some ⟨b6, 0, none⟩) E.length c6, .slice aK K.length cK] 23)
      have hq80 := hs80.below hbq
      have hqb8 := hsb8.below hbq
      have hqn8 := hsn8.below hbq
      have hqK := hsK.below hbq
      have hX9 := hX8.under hbq
      have hB9 := hB8.trans (hbq.mono hB8.size)
      clear hO8 hs80 hsb8 hsn8 hsK hsb7 hsn7 hX7 hX8 hB8 hbq hb78 hFJ hFK
      go_upto_region 9 with fail
      generalize w8.alloc (.cells #[.slice a8 (E.length + J.length) c8, .slice ab kk cb, .slice (some ⟨b6, 0, none⟩) E.length c6, .slice aK K.length cK] 23) = w9 at *
      obtain ⟨gQ, hgQ⟩ : ∃ gQ, Hid (w8.heap.size = gQ) := ⟨_, hide rfl⟩
      rw [hgQ.out] at xQ ⊢
      have HT4 : Hid (∀ k, k < 4 → ∃ (pa : Option Addr) (pn pc : Nat) (L : List UInt8), w9.cell? ⟨gQ, k, none⟩ = some (.slice pa pn pc) ∧ Sl w9 1 pa pn pc (L.map B8) ∧ L.length ≤ 90000000 ∧ (k = 0 → L = E ++ J) ∧ (k = 1 → L = E.take kk)) := hide (fun k hk => by
        rcases k with _ | _ | _ | _ | k
        · exact ⟨_, _, _, E ++ J, xQ.at_ rfl, hq80, by rw [List.length_append]; omega, fun _ => rfl, fun h => absurd h (by decide)⟩
        · exact ⟨_, _, _, E.take kk, xQ.at_ rfl, hqb8, by rw [List.length_take]; omega, fun h => absurd h (by decide), fun _ => rfl⟩
        · exact ⟨_, _, _, Bn, xQ.at_ rfl, hqn8, by rw [HBNL.out]; omega, fun h => absurd h (by decide), fun h => absurd h (by decide)⟩
        · exact ⟨_, _, _, K, xQ.at_ rfl, hqK, by omega, fun h => absurd h (by decide), fun h => absurd h (by decide)⟩
        · omega)
      have HR0 : Hid (decTa (E ++ J) = (ta, (E.length : Int), 0)) := hide (by
        have h := ta_round ta J HTB.out
        rw [hE.out] at h
        exact h.1)
      have HR1 : Hid ((decTa (E.take kk)).2.2 ≠ 0) := hide (by
        have h := ta_cuts ta kk HTB.out (by rw [hE.out]; exact hkl)
        rw [hE.out] at h
        rw [h]
        decide)
      have hgQ9 := xQ.lt
      clear xQ hq80 hqb8 hqn8 hqK HBNL hBn hkk HEB HTB HWB
      have hb99 := Below.refl w9.heap.size w9
      go_wp2_with fail
      go_loopg [18] 4 (fun gh v w' => ∃ k : Nat, k ≤ 4 ∧ gh = 4 - k ∧ v = .int .i64 (k : Int) ∧ Below w9.heap.size w9 w')
      case atStart => exact ⟨0, by omega, by omega, rfl, hb99⟩
      case round =>
        clear hb99
        obtain ⟨k, hk, hgk, rfl, hbk⟩ := hrel
        have HGK := hide hgk
        clear hgk
        by_cases hk4 : k < 4
        · have f1 : decide (k < 4) = true := decide_eq_true hk4
          have f1' : decide ((k : Int) < 4) = true := decide_eq_true (by omega)
          obtain ⟨pa, pn, pc, L, hcell, hsL, hLl, hL0, hL1⟩ := HT4.out k hk4
          have hcr := cell_below hcell hbk
          have hsLr := hsL.below hbk
          obtain ⟨tx, m, e0, hdx⟩ : ∃ (tx : Ta) (m e0 : Int), decTa L = (tx, m, e0) := ⟨_, _, _, rfl⟩
          have HDX := hide hdx
          have HL0 : Hid (k = 0 → e0 = 0 ∧ m = (E.length : Int)) := hide (fun h => by
            have h2 := hL0 h
            rw [h2, HR0.out] at hdx
            injection hdx with _ h3
            injection h3 with h3 h4
            exact ⟨h4.symm, h3.symm⟩)
          have HL1 : Hid (k = 1 → e0 ≠ 0) := hide (fun h => by
            have h2 := hL1 h
            have h3 := HR1.out
            rw [← h2, hdx] at h3
            exact h3)
          have hsh : (encTa tx).length ≤ 90000020 := by have h := dec_short L; rw [hdx] at h; simp only at h; omega
          have hwx : WhB tx := by have h := dec_whr L; rw [hdx] at h; exact h
          have HSH := hide hsh
          have HWX := hide hwx
          have hDt := hide (fun w' (h : Sl w' 1 pa pn pc (L.map B8)) => tab_Decode L pa pn pc w' h (by omega))
          have hDr := hide (fun w' (h : Sl w' 1 pa pn pc (L.map B8)) => ref6_Decode L pa pn pc w' h (by omega))
          rw [hdx] at hDt hDr
          clear hdx hsh hwx hL0 hL1 hsL hcell hLl
          go_wp2_with (first
            | (with_reducible refine index_rowF 95 40 _ _ 23 Tryd.underlying40 1 size_bytes1 gQ 0 4 4 rfl _ _ k rfl rfl hk4 ?_; rw [Nat.zero_add, Nat.mul_one])
            | (go_at_call 14; refine (hDt.out wr hsLr).mono ?_; rintro e w10 ⟨Hx, rfl, hTx, hb10⟩; refine hold ?_))
          refine hide ?_
          have hsL10 := hsLr.below hb10
          have hc10 := cell_below hcr hb10
          have hb910 := hbk.trans (hb10.mono hbk.size)
          clear hcr hsLr hbk hb10 hDt
          have Hm := hide hTx
          clear hTx
          obtain ⟨⟨a0, n0, c0⟩, ⟨a1, n1, c1⟩, ps0, ps1, ⟨ad, nd, cd⟩, ⟨ac, nc, cc⟩, ⟨an, nn, cn⟩, ⟨af2, nf, cf⟩, ⟨aw, nw, cw⟩⟩ := Hx
          unfold TH.v
          simp only [hdv]
          have Y1 := Box.new w10 29 #[.slice a0 n0 c0, .slice a1 n1 c1, .slice ad nd cd, .slice ac nc cc, .slice an nn cn, .slice af2 nf cf, .slice aw nw cw]
          have hbY := blo w10 (.cells #[.slice a0 n0 c0, .slice a1 n1 c1, .slice ad nd cd, .slice ac nc cc, .slice an nn cn, .slice af2 nf cf, .slice aw nw cw] 29)
          go_upto_region 13 with fail
          generalize w10.alloc (.cells #[.slice a0 n0 c0, .slice a1 n1 c1, .slice ad nd cd, .slice ac nc cc, .slice an nn cn, .slice af2 nf cf, .slice aw nw cw] 29) = w11 at *
          obtain ⟨Hx, hH⟩ : ∃ H : TH, H = ⟨(a0, n0, c0), (a1, n1, c1), ps0, ps1, (ad, nd, cd), (ac, nc, cc), (an, nn, cn), (af2, nf, cf), (aw, nw, cw)⟩ := ⟨_, rfl⟩
          have hXx : Box w11 w10.heap.size 29 (tcells Hx) := by rw [hH]; exact Y1
          have hTx : TaE w11 Hx tx := by rw [hH]; exact Hm.out.below hbY
          have hsL11 := hsL10.below hbY
          have hc11 := cell_below hc10 hbY
          have hb911 := hb910.trans (hbY.mono hb910.size)
          clear hH Hm hbY hsL10 hc10 hb910
          generalize w10.heap.size = gX at *
          clear Y1
          go_wp2_with (first
            | (with_reducible refine index_rowF 104 40 _ _ 23 Tryd.underlying40 1 size_bytes1 gQ 0 4 4 rfl _ _ k rfl rfl hk4 ?_; rw [Nat.zero_add, Nat.mul_one])
            | (go_at_call 15; refine (hDr.out w11 hsL11).mono ?_; rintro e w12 ⟨Hy, rfl, hTy, hb12⟩; refine hold ?_))
          refine hide ?_
          have hXx12 := hXx.under hb12
          have hTx12 := hTx.below hb12
          have hb912 := hb911.trans (hb12.mono hb911.size)
          clear hsL11 hc11 hXx hTx hb911 hb12 hDr
          have Hm := hide hTy
          clear hTy
          obtain ⟨⟨a0, n0, c0⟩, ⟨a1, n1, c1⟩, ps0, ps1, ⟨ad, nd, cd⟩, ⟨ac, nc, cc⟩, ⟨an, nn, cn⟩, ⟨af2, nf, cf⟩, ⟨aw, nw, cw⟩⟩ := Hy
          unfold TH.v
          simp only [hdv]
          have Y1 := Box.new w12 29 #[.slice a0 n0 c0, .slice a1 n1 c1, .slice ad nd cd, .slice ac nc cc, .slice an nn cn, .slice af2 nf cf, .slice aw nw cw]
          have hbY := blo w12 (.cells #[.slice a0 n0 c0, .slice a1 n1 c1, .slice ad nd cd, .slice ac nc cc, .slice an nn cn, .slice af2 nf cf, .slice aw nw cw] 29)
          go_upto_region 14 with fail
          generalize w12.alloc (.cells #[.slice a0 n0 c0, .slice a1 n1 c1, .slice ad nd cd, .slice ac nc cc, .slice an nn cn, .slice af2 nf cf, .slice aw nw cw] 29) = w13 at *
          obtain ⟨Hy, hH⟩ : ∃ H : TH, H = ⟨(a0, n0, c0), (a1, n1, c1), ps0, ps1, (ad, nd, cd), (ac, nc, cc), (an, nn, cn), (af2, nf, cf), (aw, nw, cw)⟩ := ⟨_, rfl⟩
          have hXy : Box w13 w12.heap.size 29 (tcells Hy) := by rw [hH]; exact Y1
          have hTy : TaE w13 Hy tx := by rw [hH]; exact Hm.out.below hbY
          have hXx13 := hXx12.under hbY
          have hTx13 := hTx12.below hbY
          have hb913 := hb912.trans (hbY.mono hb912.size)
          clear hH Hm hbY hXx12 hTx12 hb912
          generalize w12.heap.size = gY at *
          clear Y1
          obtain ⟨Ex, hEx⟩ : ∃ Ex, Hid (encTa tx = Ex) := ⟨_, hide rfl⟩
          have hRx := hide (fun (H : TH) w' (h : TaE w' H tx) => ref6_Encode H tx w' h HWX.out (by have := HSH.out; omega))
          rw [hEx.out] at hRx
          clear HDX HSH HWX
          by_cases hk0 : k = 0
          · subst hk0
            obtain ⟨hea, hma⟩ := HL0.out rfl
            subst hea hma
            have hq0 : (((0 : Nat) : Int) == 0) = true := by decide
            have hq1 : (((0 : Nat) : Int) == 1) = false := by decide
            have hmm : ((E.length : Int) != (E.length : Int)) = false := by simp
            clear HL0 HL1 HR0 HR1
            refine wp_region_free 37 [⟨0, 110, [110], fun vs _ => vs = [.int .i64 0]⟩, ⟨1, 111, [111], fun vs _ => vs = [.int .i64 0]⟩, ⟨2, 112, [112], fun vs _ => vs = [.bool false]⟩, ⟨3, 113, [113], fun vs _ => vs = [.bool false]⟩, ⟨4, 114, [114], fun vs _ => vs = [.int .i64 (E.length : Int)]⟩, ⟨5, 115, [115], fun vs _ => vs = [.int .i64 (E.length : Int)]⟩, ⟨6, 116, [116], fun vs _ => vs = [.bool false]⟩, ⟨7, 117, [117], fun vs _ => vs = [.bool false]⟩, ⟨8, 118, [118], fun vs _ => vs = [.bool false]⟩, ⟨9, 119, [119], fun vs _ => vs = [Hx.v]⟩, ⟨10, 120, [120], fun vs w' => ∃ a c, vs = [.slice a Ex.length c] ∧ Sl w' 1 a Ex.length c (Ex.map B8)⟩, ⟨11, 121, [121], fun vs _ => vs = [Hy.v]⟩, ⟨12, 122, [122], fun vs w' => ∃ a c, vs = [.slice a Ex.length c] ∧ Sl w' 1 a Ex.length c (Ex.map B8)⟩, ⟨13, 123, [123], fun vs _ => vs = [.bool true]⟩, ⟨14, 124, [124], fun vs _ => vs = [.bool false]⟩, ⟨15, 125, [125], fun vs _ => vs = [.bool false]⟩, ⟨16, 126, [126], fun vs _ => vs = [.bool false]⟩, ⟨17, 127, [127], fun vs _ => vs = [.int .i64 ((0 : Nat) : Int)]⟩, ⟨18, 128, [128], fun vs _ => vs = [.bool true]⟩, ⟨19, 129, [129], fun vs _ => vs = [.bool true]⟩, ⟨20, 130, [130], fun vs _ => vs = [.int .i64 0]⟩, ⟨21, 131, [131], fun vs _ => vs = [.bool false]⟩, ⟨22, 132, [132], fun vs _ => vs = [.bool false]⟩, ⟨23, 133, [133], fun vs _ => vs = [.int .i64 (E.length : Int)]⟩, ⟨24, 134, [134], fun vs _ => vs = [.slice ab E.length cb]⟩, ⟨25, 135, [135], fun vs _ => vs = [.int .i64 (E.length : Int)]⟩, ⟨26, 136, [136], fun vs _ => vs = [.bool false]⟩, ⟨27, 137, [137], fun vs _ => vs = [.bool false]⟩, ⟨28, 138, [138], fun vs _ => vs = [.bool false]⟩, ⟨29, 139, [139], fun vs _ => vs = [.bool false]⟩, ⟨30, 140, [140], fun vs _ => vs = [.bool false]⟩, ⟨31, 141, [141], fun vs _ => vs = [.int .i64 ((0 : Nat) : Int)]⟩, ⟨32, 142, [142], fun vs _ => vs = [.bool false]⟩, ⟨33, 143, [143], fun vs _ => vs = [.bool false]⟩, ⟨34, 144, [144], fun vs _ => vs = [undef]⟩, ⟨35, 145, [145], fun vs _ => vs = [undef]⟩, ⟨36, 146, [146], fun vs _ => vs = [.bool false]⟩] (by kernel_rfl) (by kernel_rfl) ?_ ?_ ?_
            · simp only [All]
              refine ⟨fun _ _ _ _ h => h, fun _ _ _ _ h => h, fun _ _ _ _ h => h, fun _ _ _ _ h => h, fun _ _ _ _ h => h, fun _ _ _ _ h => h, fun _ _ _ _ h => h, fun _ _ _ _ h => h, fun _ _ _ _ h => h, fun _ _ _ _ h => h, ?_, fun _ _ _ _ h => h, ?_, fun _ _ _ _ h => h, fun _ _ _ _ h => h, fun _ _ _ _ h => h, fun _ _ _ _ h => h, fun _ _ _ _ h => h, fun _ _ _ _ h => h, fun _ _ _ _ h => h, fun _ _ _ _ h => h, fun _ _ _ _ h => h, fun _ _ _ _ h => h, fun _ _ _ _ h => h, fun _ _ _ _ h => h, fun _ _ _ _ h => h, fun _ _ _ _ h => h, fun _ _ _ _ h => h, fun _ _ _ _ h => h, fun _ _ _ _ h => h, fun _ _ _ _ h => h, fun _ _ _ _ h => h, fun _ _ _ _ h => h, fun _ _ _ _ h => h, fun _ _ _ _ h => h, fun _ _ _ _ h => h, fun _ _ _ _ h => h, trivial⟩
              · rintro vs w2 w3 hb ⟨a, c, h1, h2⟩
                exact ⟨a, c, h1, h2.below hb⟩
              · rintro vs w2 w3 hb ⟨a, c, h1, h2⟩
                exact ⟨a, c, h1, h2.below hb⟩
            · simp only [All]
              refine ⟨?_, ?_, ?_, ?_, ?_, ?_, ?_, ?_, ?_, ?_, ?_, ?_, ?_, ?_, ?_, ?_, ?_, ?_, ?_, ?_, ?_, ?_, ?_, ?_, ?_, ?_, ?_, ?_, ?_, ?_, ?_, ?_, ?_, ?_, ?_, ?_, ?_, trivial⟩
              · intro o ho a' w' hb hfr hdep
                obtain rfl := oj ho
                have g21 : a'.tmps[21]?.getD undef = .int .i64 0 := by simpa using hfr 21 (by kernel_rfl)
                clear ho hfr hdep; go_wp2_with fail; exact ⟨rfl, _, rfl, br, rfl⟩
              · intro o ho a' w' hb hfr hdep
                obtain rfl := oj ho
                have g24 : a'.tmps[24]?.getD undef = .int .i64 0 := by simpa using hfr 24 (by kernel_rfl)
                clear ho hfr hdep; go_wp2_with fail; exact ⟨rfl, _, rfl, br, rfl⟩
              · intro o ho a' w' hb hfr hdep
                obtain rfl := oj ho
                have g110 : a'.tmps[110]?.getD undef = .int .i64 0 := by simpa using hdep 0 _ rfl (by kernel_rfl)
                have g111 : a'.tmps[111]?.getD undef = .int .i64 0 := by simpa using hdep 1 _ rfl (by kernel_rfl)
                clear ho hfr hdep; go_wp2_with fail; exact ⟨rfl, _, rfl, br, rfl⟩
              · intro o ho a' w' hb hfr hdep
                obtain rfl := oj ho
                have g112 : a'.tmps[112]?.getD undef = .bool false := by simpa using hdep 2 _ rfl (by kernel_rfl)
                clear ho hfr hdep; go_wp2_with fail; exact ⟨rfl, _, rfl, br, rfl⟩
              · intro o ho a' w' hb hfr hdep
                obtain rfl := oj ho
                have g20 : a'.tmps[20]?.getD undef = .int .i64 (E.length : Int) := by simpa using hfr 20 (by kernel_rfl)
                have g113 : a'.tmps[113]?.getD undef = .bool false := by simpa using hdep 3 _ rfl (by kernel_rfl)
                have q113 := opt_bool g113
                clear ho hfr hdep; refine unguard_any (by simp [Region.wanted, yielded, q113]) ?_
                go_wp2_with fail; exact ⟨rfl, _, rfl, br, rfl⟩
              · intro o ho a' w' hb hfr hdep
                obtain rfl := oj ho
                have g23 : a'.tmps[23]?.getD undef = .int .i64 (E.length : Int) := by simpa using hfr 23 (by kernel_rfl)
                have g113 : a'.tmps[113]?.getD undef = .bool false := by simpa using hdep 3 _ rfl (by kernel_rfl)
                have q113 := opt_bool g113
                clear ho hfr hdep; refine unguard_any (by simp [Region.wanted, yielded, q113]) ?_
                go_wp2_with fail; exact ⟨rfl, _, rfl, br, rfl⟩
              · intro o ho a' w' hb hfr hdep
                obtain rfl := oj ho
                have g114 : a'.tmps[114]?.getD undef = .int .i64 (E.length : Int) := by simpa using hdep 4 _ rfl (by kernel_rfl)
                have g115 : a'.tmps[115]?.getD undef = .int .i64 (E.length : Int) := by simpa using hdep 5 _ rfl (by kernel_rfl)
                have g113 : a'.tmps[113]?.getD undef = .bool false := by simpa using hdep 3 _ rfl (by kernel_rfl)
                have q113 := opt_bool g113
                clear ho hfr hdep; refine unguard_any (by simp [Region.wanted, yielded, q113]) ?_
                go_wp2_with fail; exact ⟨rfl, _, rfl, br, rfl⟩
              · intro o ho a' w' hb hfr hdep
                obtain rfl := oj ho
                have g113 : a'.tmps[113]?.getD undef = .bool false := by simpa using hdep 3 _ rfl (by kernel_rfl)
                have g116 : a'.tmps[116]?.getD undef = .bool false := by simpa using hdep 6 _ rfl (by kernel_rfl)
                clear ho hfr hdep; go_wp2_with fail; exact ⟨rfl, _, rfl, br, rfl⟩
              · intro o ho a' w' hb hfr hdep
                obtain rfl := oj ho
                have g117 : a'.tmps[117]?.getD undef = .bool false := by simpa using hdep 7 _ rfl (by kernel_rfl)
                clear ho hfr hdep; go_wp2_with fail; exact ⟨rfl, _, rfl, br, rfl⟩
              · intro o ho a' w' hb hfr hdep
                obtain rfl := oj ho
                have g19 : a'.tmps[19]?.getD undef = .pointer (some ⟨gX, 0, none⟩) := by simpa using hfr 19 (by kernel_rfl)
                have g118 : a'.tmps[118]?.getD undef = .bool false := by simpa using hdep 8 _ rfl (by kernel_rfl)
                have q118 := opt_bool g118
                clear ho hfr hdep; refine unguard_any (by simp [Region.wanted, yielded, q118]) ?_
                refine load_struct 119 29 _ 7 size_tables _ Tryd.underlying29 ⟨gX, 0, none⟩ (by show a'.tmps.getD 19 undef = _; simpa using g19) (tcells Hx) rfl (fun j u hj => by rw [Addr.add_lit, Nat.zero_add]; exact (hXx13.under hb).at_ hj) ?_
                exact ⟨rfl, _, rfl, br, rfl⟩
              · intro o ho a' w' hb hfr hdep
                obtain rfl := oj ho
                have g119 : a'.tmps[119]?.getD undef = Hx.v := by simpa using hdep 9 _ rfl (by kernel_rfl)
                have g118 : a'.tmps[118]?.getD undef = .bool false := by simpa using hdep 8 _ rfl (by kernel_rfl)
                have q118 := opt_bool g118
                clear ho hfr hdep; refine unguard_any (by simp [Region.wanted, yielded, q118]) ?_
                go_wp2_with fail
                refine (hRx.out Hx w' (hTx13.below hb)).mono ?_
                rintro e w2 ⟨a, c, rfl, hO, h2⟩
                have hO2 := hO.sl
                go_wp2_with fail
                exact ⟨rfl, _, rfl, h2, a, c, rfl, hO2⟩
              · intro o ho a' w' hb hfr hdep
                obtain rfl := oj ho
                have g22 : a'.tmps[22]?.getD undef = .pointer (some ⟨gY, 0, none⟩) := by simpa using hfr 22 (by kernel_rfl)
                have g118 : a'.tmps[118]?.getD undef = .bool false := by simpa using hdep 8 _ rfl (by kernel_rfl)
                have q118 := opt_bool g118
                clear ho hfr hdep; refine unguard_any (by simp [Region.wanted, yielded, q118]) ?_
                refine load_struct 121 29 _ 7 size_tables _ Tryd.underlying29 ⟨gY, 0, none⟩ (by show a'.tmps.getD 22 undef = _; simpa using g22) (tcells Hy) rfl (fun j u hj => by rw [Addr.add_lit, Nat.zero_add]; exact (hXy.under hb).at_ hj) ?_
                exact ⟨rfl, _, rfl, br, rfl⟩
              · intro o ho a' w' hb hfr hdep
                obtain rfl := oj ho
                have g121 : a'.tmps[121]?.getD undef = Hy.v := by simpa using hdep 11 _ rfl (by kernel_rfl)
                have g118 : a'.tmps[118]?.getD undef = .bool false := by simpa using hdep 8 _ rfl (by kernel_rfl)
                have q118 := opt_bool g118
                clear ho hfr hdep; refine unguard_any (by simp [Region.wanted, yielded, q118]) ?_
                go_wp2_with fail
                refine (hRx.out Hy w' (hTy.below hb)).mono ?_
                rintro e w2 ⟨a, c, rfl, hO, h2⟩
                have hO2 := hO.sl
                go_wp2_with fail
                exact ⟨rfl, _, rfl, h2, a, c, rfl, hO2⟩
              · intro o ho a' w' hb hfr hdep
                obtain rfl := oj ho
                obtain ⟨a120, c120, g120, hs120⟩ := hdep 10 _ rfl (by kernel_rfl)
                replace g120 : a'.tmps[120]?.getD undef = .slice a120 Ex.length c120 := by simpa using g120
                obtain ⟨a122, c122, g122, hs122⟩ := hdep 12 _ rfl (by kernel_rfl)
                replace g122 : a'.tmps[122]?.getD undef = .slice a122 Ex.length c122 := by simpa using g122
                have g118 : a'.tmps[118]?.getD undef = .bool false := by simpa using hdep 8 _ rfl (by kernel_rfl)
                have q118 := opt_bool g118
                clear ho hfr hdep; refine unguard_any (by simp [Region.wanted, yielded, q118]) ?_
                go_wp2_with fail
                refine (ref_Same Ex Ex _ _ _ _ _ _ w' hs120 hs122).mono ?_
                rintro e w2 hst
                rw [decide_eq_true (Eq.refl Ex)] at hst
                obtain ⟨rfl, n9, rfl⟩ := hst
                go_wp2_with fail
                exact ⟨rfl, _, rfl, Still.below n9, rfl⟩
              · intro o ho a' w' hb hfr hdep
                obtain rfl := oj ho
                have g123 : a'.tmps[123]?.getD undef = .bool true := by simpa using hdep 13 _ rfl (by kernel_rfl)
                have g118 : a'.tmps[118]?.getD undef = .bool false := by simpa using hdep 8 _ rfl (by kernel_rfl)
                have q118 := opt_bool g118
                clear ho hfr hdep; refine unguard_any (by simp [Region.wanted, yielded, q118]) ?_
                go_wp2_with fail; exact ⟨rfl, _, rfl, br, rfl⟩
              · intro o ho a' w' hb hfr hdep
                obtain rfl := oj ho
                have g118 : a'.tmps[118]?.getD undef = .bool false := by simpa using hdep 8 _ rfl (by kernel_rfl)
                have g124 : a'.tmps[124]?.getD undef = .bool false := by simpa using hdep 14 _ rfl (by kernel_rfl)
                clear ho hfr hdep; go_wp2_with fail; exact ⟨rfl, _, rfl, br, rfl⟩
              · intro o ho a' w' hb hfr hdep
                obtain rfl := oj ho
                have g125 : a'.tmps[125]?.getD undef = .bool false := by simpa using hdep 15 _ rfl (by kernel_rfl)
                clear ho hfr hdep; go_wp2_with fail; exact ⟨rfl, _, rfl, br, rfl⟩
              · intro o ho a' w' hb hfr hdep
                obtain rfl := oj ho
                have g18 : a'.tmps[18]?.getD undef = .int .i64 ((0 : Nat) : Int) := by simpa using hfr 18 (by kernel_rfl)
                have g126 : a'.tmps[126]?.getD undef = .bool false := by simpa using hdep 16 _ rfl (by kernel_rfl)
                have q126 := opt_bool g126
                clear ho hfr hdep; refine unguard_any (by simp [Region.wanted, yielded, q126]) ?_
                go_wp2_with fail; exact ⟨rfl, _, rfl, br, rfl⟩
              · intro o ho a' w' hb hfr hdep
                obtain rfl := oj ho
                have g127 : a'.tmps[127]?.getD undef = .int .i64 ((0 : Nat) : Int) := by simpa using hdep 17 _ rfl (by kernel_rfl)
                have g126 : a'.tmps[126]?.getD undef = .bool false := by simpa using hdep 16 _ rfl (by kernel_rfl)
                have q126 := opt_bool g126
                clear ho hfr hdep; refine unguard_any (by simp [Region.wanted, yielded, q126]) ?_
                go_wp2_with fail; exact ⟨rfl, _, rfl, br, rfl⟩
              · intro o ho a' w' hb hfr hdep
                obtain rfl := oj ho
                have g128 : a'.tmps[128]?.getD undef = .bool true := by simpa using hdep 18 _ rfl (by kernel_rfl)
                have g126 : a'.tmps[126]?.getD undef = .bool false := by simpa using hdep 16 _ rfl (by kernel_rfl)
                have q126 := opt_bool g126
                clear ho hfr hdep; refine unguard_any (by simp [Region.wanted, yielded, q126]) ?_
                go_wp2_with fail; exact ⟨rfl, _, rfl, br, rfl⟩
              · intro o ho a' w' hb hfr hdep
                obtain rfl := oj ho
                have g21 : a'.tmps[21]?.getD undef = .int .i64 0 := by simpa using hfr 21 (by kernel_rfl)
                have g129 : a'.tmps[129]?.getD undef = .bool true := by simpa using hdep 19 _ rfl (by kernel_rfl)
                have q129 := opt_bool g129
                clear ho hfr hdep; refine unguard_any (by simp [Region.wanted, yielded, q129]) ?_
                go_wp2_with fail; exact ⟨rfl, _, rfl, br, rfl⟩
              · intro o ho a' w' hb hfr hdep
                obtain rfl := oj ho
                have g130 : a'.tmps[130]?.getD undef = .int .i64 0 := by simpa using hdep 20 _ rfl (by kernel_rfl)
                have g129 : a'.tmps[129]?.getD undef = .bool true := by simpa using hdep 19 _ rfl (by kernel_rfl)
                have q129 := opt_bool g129
                clear ho hfr hdep; refine unguard_any (by simp [Region.wanted, yielded, q129]) ?_
                go_wp2_with fail; exact ⟨rfl, _, rfl, br, rfl⟩
              · intro o ho a' w' hb hfr hdep
                obtain rfl := oj ho
                have g131 : a'.tmps[131]?.getD undef = .bool false := by simpa using hdep 21 _ rfl (by kernel_rfl)
                have g129 : a'.tmps[129]?.getD undef = .bool true := by simpa using hdep 19 _ rfl (by kernel_rfl)
                have q129 := opt_bool g129
                clear ho hfr hdep; refine unguard_any (by simp [Region.wanted, yielded, q129]) ?_
                go_wp2_with fail; exact ⟨rfl, _, rfl, br, rfl⟩
              · intro o ho a' w' hb hfr hdep
                obtain rfl := oj ho
                have g20 : a'.tmps[20]?.getD undef = .int .i64 (E.length : Int) := by simpa using hfr 20 (by kernel_rfl)
                have g132 : a'.tmps[132]?.getD undef = .bool false := by simpa using hdep 22 _ rfl (by kernel_rfl)
                have q132 := opt_bool g132
                clear ho hfr hdep; refine unguard_any (by simp [Region.wanted, yielded, q132]) ?_
                go_wp2_with fail; exact ⟨rfl, _, rfl, br, rfl⟩
              · intro o ho a' w' hb hfr hdep
                obtain rfl := oj ho
                have g14 : a'.tmps[14]?.getD undef = .slice ab E.length cb := by simpa using hfr 14 (by kernel_rfl)
                have g132 : a'.tmps[132]?.getD undef = .bool false := by simpa using hdep 22 _ rfl (by kernel_rfl)
                have q132 := opt_bool g132
                clear ho hfr hdep; refine unguard_any (by simp [Region.wanted, yielded, q132]) ?_
                go_wp2_with fail; exact ⟨rfl, _, rfl, br, rfl⟩
              · intro o ho a' w' hb hfr hdep
                obtain rfl := oj ho
                have g134 : a'.tmps[134]?.getD undef = .slice ab E.length cb := by simpa using hdep 24 _ rfl (by kernel_rfl)
                have g132 : a'.tmps[132]?.getD undef = .bool false := by simpa using hdep 22 _ rfl (by kernel_rfl)
                have q132 := opt_bool g132
                clear ho hfr hdep; refine unguard_any (by simp [Region.wanted, yielded, q132]) ?_
                go_wp2_with fail; exact ⟨rfl, _, rfl, br, rfl⟩
              · intro o ho a' w' hb hfr hdep
                obtain rfl := oj ho
                have g133 : a'.tmps[133]?.getD undef = .int .i64 (E.length : Int) := by simpa using hdep 23 _ rfl (by kernel_rfl)
                have g135 : a'.tmps[135]?.getD undef = .int .i64 (E.length : Int) := by simpa using hdep 25 _ rfl (by kernel_rfl)
                have g132 : a'.tmps[132]?.getD undef = .bool false := by simpa using hdep 22 _ rfl (by kernel_rfl)
                have q132 := opt_bool g132
                clear ho hfr hdep; refine unguard_any (by simp [Region.wanted, yielded, q132]) ?_
                go_wp2_with fail; exact ⟨rfl, _, rfl, br, rfl⟩
              · intro o ho a' w' hb hfr hdep
                obtain rfl := oj ho
                have g132 : a'.tmps[132]?.getD undef = .bool false := by simpa using hdep 22 _ rfl (by kernel_rfl)
                have g136 : a'.tmps[136]?.getD undef = .bool false := by simpa using hdep 26 _ rfl (by kernel_rfl)
                have g129 : a'.tmps[129]?.getD undef = .bool true := by simpa using hdep 19 _ rfl (by kernel_rfl)
                have q129 := opt_bool g129
                clear ho hfr hdep; refine unguard_any (by simp [Region.wanted, yielded, q129]) ?_
                go_wp2_with fail; exact ⟨rfl, _, rfl, br, rfl⟩
              · intro o ho a' w' hb hfr hdep
                obtain rfl := oj ho
                have g129 : a'.tmps[129]?.getD undef = .bool true := by simpa using hdep 19 _ rfl (by kernel_rfl)
                have g137 : a'.tmps[137]?.getD undef = .bool false := by simpa using hdep 27 _ rfl (by kernel_rfl)
                have g126 : a'.tmps[126]?.getD undef = .bool false := by simpa using hdep 16 _ rfl (by kernel_rfl)
                have q126 := opt_bool g126
                clear ho hfr hdep; refine unguard_any (by simp [Region.wanted, yielded, q126]) ?_
                go_wp2_with fail; exact ⟨rfl, _, rfl, br, rfl⟩
              · intro o ho a' w' hb hfr hdep
                obtain rfl := oj ho
                have g126 : a'.tmps[126]?.getD undef = .bool false := by simpa using hdep 16 _ rfl (by kernel_rfl)
                have g138 : a'.tmps[138]?.getD undef = .bool false := by simpa using hdep 28 _ rfl (by kernel_rfl)
                clear ho hfr hdep; go_wp2_with fail; exact ⟨rfl, _, rfl, br, rfl⟩
              · intro o ho a' w' hb hfr hdep
                obtain rfl := oj ho
                have g139 : a'.tmps[139]?.getD undef = .bool false := by simpa using hdep 29 _ rfl (by kernel_rfl)
                clear ho hfr hdep; go_wp2_with fail; exact ⟨rfl, _, rfl, br, rfl⟩
              · intro o ho a' w' hb hfr hdep
                obtain rfl := oj ho
                have g18 : a'.tmps[18]?.getD undef = .int .i64 ((0 : Nat) : Int) := by simpa using hfr 18 (by kernel_rfl)
                have g140 : a'.tmps[140]?.getD undef = .bool false := by simpa using hdep 30 _ rfl (by kernel_rfl)
                have q140 := opt_bool g140
                clear ho hfr hdep; refine unguard_any (by simp [Region.wanted, yielded, q140]) ?_
                go_wp2_with fail; exact ⟨rfl, _, rfl, br, rfl⟩
              · intro o ho a' w' hb hfr hdep
                obtain rfl := oj ho
                have g141 : a'.tmps[141]?.getD undef = .int .i64 ((0 : Nat) : Int) := by simpa using hdep 31 _ rfl (by kernel_rfl)
                have g140 : a'.tmps[140]?.getD undef = .bool false := by simpa using hdep 30 _ rfl (by kernel_rfl)
                have q140 := opt_bool g140
                clear ho hfr hdep; refine unguard_any (by simp [Region.wanted, yielded, q140]) ?_
                go_wp2_with fail; exact ⟨rfl, _, rfl, br, rfl⟩
              · intro o ho a' w' hb hfr hdep
                obtain rfl := oj ho
                have g142 : a'.tmps[142]?.getD undef = .bool false := by simpa using hdep 32 _ rfl (by kernel_rfl)
                have g140 : a'.tmps[140]?.getD undef = .bool false := by simpa using hdep 30 _ rfl (by kernel_rfl)
                have q140 := opt_bool g140
                clear ho hfr hdep; refine unguard_any (by simp [Region.wanted, yielded, q140]) ?_
                go_wp2_with fail; exact ⟨rfl, _, rfl, br, rfl⟩
              · intro o ho a' w' hb hfr hdep
                obtain rfl := oj ho
                have g21 : a'.tmps[21]?.getD undef = .int .i64 0 := by simpa using hfr 21 (by kernel_rfl)
                have g143 : a'.tmps[143]?.getD undef = .bool false := by simpa using hdep 33 _ rfl (by kernel_rfl)
                have q143 := opt_bool g143
                clear ho hfr hdep; go_wp2_with fail; exact ⟨rfl, _, rfl, br, rfl⟩
              · intro o ho a' w' hb hfr hdep
                obtain rfl := oj ho
                have g144 : a'.tmps[144]?.getD undef = undef := by simpa using hdep 34 _ rfl (by kernel_rfl)
                have g143 : a'.tmps[143]?.getD undef = .bool false := by simpa using hdep 33 _ rfl (by kernel_rfl)
                have q143 := opt_bool g143
                clear ho hfr hdep; go_wp2_with fail; exact ⟨rfl, _, rfl, br, rfl⟩
              · intro o ho a' w' hb hfr hdep
                obtain rfl := oj ho
                have g143 : a'.tmps[143]?.getD undef = .bool false := by simpa using hdep 33 _ rfl (by kernel_rfl)
                have g145 : a'.tmps[145]?.getD undef = undef := by simpa using hdep 35 _ rfl (by kernel_rfl)
                have g140 : a'.tmps[140]?.getD undef = .bool false := by simpa using hdep 30 _ rfl (by kernel_rfl)
                have q140 := opt_bool g140
                clear ho hfr hdep; refine unguard_any (by simp [Region.wanted, yielded, q140]) ?_
                go_wp2_with fail; exact ⟨rfl, _, rfl, br, rfl⟩
            · intro g w14 hb14 hp
              have p146 : g 146 = .bool false := by have h := hp 36 _ rfl; simpa using h
              have p140 : g 140 = .bool false := by have h := hp 30 _ rfl; simpa using h
              clear hp
              simp only [List.drop_succ_cons, List.drop_zero, List.map_cons, List.map_nil, putAll, Act.put, List.setIfInBounds_toArray, List.set_cons_succ, List.set_cons_zero, p146, p140]
              clear p146 p140
              have hb914 := hb913.trans (hb14.mono hb913.size)
              clear hXx13 hTx13 hXy hTy hb913 hb14 hRx
              go_wp2_with fail
              go_roundg (4 - (0 + 1))
              case measure => have := HGK.out; omega
              case rel => exact ⟨0 + 1, by omega, rfl, by go_num, hb914⟩

          · by_cases hk1 : k = 1
            · subst hk1
              have he1 : (e0 == 0) = false := by have h := HL1.out rfl; simpa using h
              have hq0 : (((1 : Nat) : Int) == 0) = false := by decide
              have hq1 : (((1 : Nat) : Int) == 1) = true := by decide
              have hee : (e0 != e0) = false := by simp
              have hmm : (m != m) = false := by simp
              clear HL0 HL1 HR0 HR1 hk0
              refine wp_region_free 37 [⟨0, 110, [110], fun vs _ => vs = [.int .i64 e0]⟩, ⟨1, 111, [111], fun vs _ => vs = [.int .i64 e0]⟩, ⟨2, 112, [112], fun vs _ => vs = [.bool false]⟩, ⟨3, 113, [113], fun vs _ => vs = [.bool false]⟩, ⟨4, 114, [114], fun vs _ => vs = [.int .i64 m]⟩, ⟨5, 115, [115], fun vs _ => vs = [.int .i64 m]⟩, ⟨6, 116, [116], fun vs _ => vs = [.bool false]⟩, ⟨7, 117, [117], fun vs _ => vs = [.bool false]⟩, ⟨8, 118, [118], fun vs _ => vs = [.bool false]⟩, ⟨9, 119, [119], fun vs _ => vs = [Hx.v]⟩, ⟨10, 120, [120], fun vs w' => ∃ a c, vs = [.slice a Ex.length c] ∧ Sl w' 1 a Ex.length c (Ex.map B8)⟩, ⟨11, 121, [121], fun vs _ => vs = [Hy.v]⟩, ⟨12, 122, [122], fun vs w' => ∃ a c, vs = [.slice a Ex.length c] ∧ Sl w' 1 a Ex.length c (Ex.map B8)⟩, ⟨13, 123, [123], fun vs _ => vs = [.bool true]⟩, ⟨14, 124, [124], fun vs _ => vs = [.bool false]⟩, ⟨15, 125, [125], fun vs _ => vs = [.bool false]⟩, ⟨16, 126, [126], fun vs _ => vs = [.bool false]⟩, ⟨17, 127, [127], fun vs _ => vs = [.int .i64 ((1 : Nat) : Int)]⟩, ⟨18, 128, [128], fun vs _ => vs = [.bool false]⟩, ⟨19, 129, [129], fun vs _ => vs = [.bool false]⟩, ⟨20, 130, [130], fun vs _ => vs = [undef]⟩, ⟨21, 131, [131], fun vs _ => vs = [undef]⟩, ⟨22, 132, [132], fun vs _ => vs = [undef]⟩, ⟨23, 133, [133], fun vs _ => vs = [undef]⟩, ⟨24, 134, [134], fun vs _ => vs = [undef]⟩, ⟨25, 135, [135], fun vs _ => vs = [undef]⟩, ⟨26, 136, [136], fun vs _ => vs = [undef]⟩, ⟨27, 137, [137], fun vs _ => vs = [undef]⟩, ⟨28, 138, [138], fun vs _ => vs = [.bool false]⟩, ⟨29, 139, [139], fun vs _ => vs = [.bool false]⟩, ⟨30, 140, [140], fun vs _ => vs = [.bool false]⟩, ⟨31, 141, [141], fun vs _ => vs = [.int .i64 ((1 : Nat) : Int)]⟩, ⟨32, 142, [142], fun vs _ => vs = [.bool true]⟩, ⟨33, 143, [143], fun vs _ => vs = [.bool true]⟩, ⟨34, 144, [144], fun vs _ => vs = [.int .i64 e0]⟩, ⟨35, 145, [145], fun vs _ => vs = [.bool false]⟩, ⟨36, 146, [146], fun vs _ => vs = [.bool false]⟩] (by kernel_rfl) (by kernel_rfl) ?_ ?_ ?_
              · simp only [All]
                refine ⟨fun _ _ _ _ h => h, fun _ _ _ _ h => h, fun _ _ _ _ h => h, fun _ _ _ _ h => h, fun _ _ _ _ h => h, fun _ _ _ _ h => h, fun _ _ _ _ h => h, fun _ _ _ _ h => h, fun _ _ _ _ h => h, fun _ _ _ _ h => h, ?_, fun _ _ _ _ h => h, ?_, fun _ _ _ _ h => h, fun _ _ _ _ h => h, fun _ _ _ _ h => h, fun _ _ _ _ h => h, fun _ _ _ _ h => h, fun _ _ _ _ h => h, fun _ _ _ _ h => h, fun _ _ _ _ h => h, fun _ _ _ _ h => h, fun _ _ _ _ h => h, fun _ _ _ _ h => h, fun _ _ _ _ h => h, fun _ _ _ _ h => h, fun _ _ _ _ h => h, fun _ _ _ _ h => h, fun _ _ _ _ h => h, fun _ _ _ _ h => h, fun _ _ _ _ h => h, fun _ _ _ _ h => h, fun _ _ _ _ h => h, fun _ _ _ _ h => h, fun _ _ _ _ h => h, fun _ _ _ _ h => h, fun _ _ _ _ h => h, trivial⟩
                · rintro vs w2 w3 hb ⟨a, c, h1, h2⟩
                  exact ⟨a, c, h1, h2.below hb⟩
                · rintro vs w2 w3 hb ⟨a, c, h1, h2⟩
                  exact ⟨a, c, h1, h2.below hb⟩
              · simp only [All]
                refine ⟨?_, ?_, ?_, ?_, ?_, ?_, ?_, ?_, ?_, ?_, ?_, ?_, ?_, ?_, ?_, ?_, ?_, ?_, ?_, ?_, ?_, ?_, ?_, ?_, ?_, ?_, ?_, ?_, ?_, ?_, ?_, ?_, ?_, ?_, ?_, ?_, ?_, trivial⟩
                · intro o ho a' w' hb hfr hdep
                  obtain rfl := oj ho
                  have g21 : a'.tmps[21]?.getD undef = .int .i64 e0 := by simpa using hfr 21 (by kernel_rfl)
                  clear ho hfr hdep; go_wp2_with fail; exact ⟨rfl, _, rfl, br, rfl⟩
                · intro o ho a' w' hb hfr hdep
                  obtain rfl := oj ho
                  have g24 : a'.tmps[24]?.getD undef = .int .i64 e0 := by simpa using hfr 24 (by kernel_rfl)
                  clear ho hfr hdep; go_wp2_with fail; exact ⟨rfl, _, rfl, br, rfl⟩
                · intro o ho a' w' hb hfr hdep
                  obtain rfl := oj ho
                  have g110 : a'.tmps[110]?.getD undef = .int .i64 e0 := by simpa using hdep 0 _ rfl (by kernel_rfl)
                  have g111 : a'.tmps[111]?.getD undef = .int .i64 e0 := by simpa using hdep 1 _ rfl (by kernel_rfl)
                  clear ho hfr hdep; go_wp2_with fail; exact ⟨rfl, _, rfl, br, rfl⟩
                · intro o ho a' w' hb hfr hdep
                  obtain rfl := oj ho
                  have g112 : a'.tmps[112]?.getD undef = .bool false := by simpa using hdep 2 _ rfl (by kernel_rfl)
                  clear ho hfr hdep; go_wp2_with fail; exact ⟨rfl, _, rfl, br, rfl⟩
                · intro o ho a' w' hb hfr hdep
                  obtain rfl := oj ho
                  have g20 : a'.tmps[20]?.getD undef = .int .i64 m := by simpa using hfr 20 (by kernel_rfl)
                  have g113 : a'.tmps[113]?.getD undef = .bool false := by simpa using hdep 3 _ rfl (by kernel_rfl)
                  have q113 := opt_bool g113
                  clear ho hfr hdep; refine unguard_any (by simp [Region.wanted, yielded, q113]) ?_
                  go_wp2_with fail; exact ⟨rfl, _, rfl, br, rfl⟩
                · intro o ho a' w' hb hfr hdep
                  obtain rfl := oj ho
                  have g23 : a'.tmps[23]?.getD undef = .int .i64 m := by simpa using hfr 23 (by kernel_rfl)
                  have g113 : a'.tmps[113]?.getD undef = .bool false := by simpa using hdep 3 _ rfl (by kernel_rfl)
                  have q113 := opt_bool g113
                  clear ho hfr hdep; refine unguard_any (by simp [Region.wanted, yielded, q113]) ?_
                  go_wp2_with fail; exact ⟨rfl, _, rfl, br, rfl⟩
                · intro o ho a' w' hb hfr hdep
                  obtain rfl := oj ho
                  have g114 : a'.tmps[114]?.getD undef = .int .i64 m := by simpa using hdep 4 _ rfl (by kernel_rfl)
                  have g115 : a'.tmps[115]?.getD undef = .int .i64 m := by simpa using hdep 5 _ rfl (by kernel_rfl)
                  have g113 : a'.tmps[113]?.getD undef = .bool false := by simpa using hdep 3 _ rfl (by kernel_rfl)
                  have q113 := opt_bool g113
                  clear ho hfr hdep; refine unguard_any (by simp [Region.wanted, yielded, q113]) ?_
                  go_wp2_with fail; exact ⟨rfl, _, rfl, br, rfl⟩
                · intro o ho a' w' hb hfr hdep
                  obtain rfl := oj ho
                  have g113 : a'.tmps[113]?.getD undef = .bool false := by simpa using hdep 3 _ rfl (by kernel_rfl)
                  have g116 : a'.tmps[116]?.getD undef = .bool false := by simpa using hdep 6 _ rfl (by kernel_rfl)
                  clear ho hfr hdep; go_wp2_with fail; exact ⟨rfl, _, rfl, br, rfl⟩
                · intro o ho a' w' hb hfr hdep
                  obtain rfl := oj ho
                  have g117 : a'.tmps[117]?.getD undef = .bool false := by simpa using hdep 7 _ rfl (by kernel_rfl)
                  clear ho hfr hdep; go_wp2_with fail; exact ⟨rfl, _, rfl, br, rfl⟩
                · intro o ho a' w' hb hfr hdep
                  obtain rfl := oj ho
                  have g19 : a'.tmps[19]?.getD undef = .pointer (some ⟨gX, 0, none⟩) := by simpa using hfr 19 (by kernel_rfl)
                  have g118 : a'.tmps[118]?.getD undef = .bool false := by simpa using hdep 8 _ rfl (by kernel_rfl)
                  have q118 := opt_bool g118
                  clear ho hfr hdep; refine unguard_any (by simp [Region.wanted, yielded, q118]) ?_
                  refine load_struct 119 29 _ 7 size_tables _ Tryd.underlying29 ⟨gX, 0, none⟩ (by show a'.tmps.getD 19 undef = _; simpa using g19) (tcells Hx) rfl (fun j u hj => by rw [Addr.add_lit, Nat.zero_add]; exact (hXx13.under hb).at_ hj) ?_
                  exact ⟨rfl, _, rfl, br, rfl⟩
                · intro o ho a' w' hb hfr hdep
                  obtain rfl := oj ho
                  have g119 : a'.tmps[119]?.getD undef = Hx.v := by simpa using hdep 9 _ rfl (by kernel_rfl)
                  have g118 : a'.tmps[118]?.getD undef = .bool false := by simpa using hdep 8 _ rfl (by kernel_rfl)
                  have q118 := opt_bool g118
                  clear ho hfr hdep; refine unguard_any (by simp [Region.wanted, yielded, q118]) ?_
                  go_wp2_with fail
                  refine (hRx.out Hx w' (hTx13.below hb)).mono ?_
                  rintro e w2 ⟨a, c, rfl, hO, h2⟩
                  have hO2 := hO.sl
                  go_wp2_with fail
                  exact ⟨rfl, _, rfl, h2, a, c, rfl, hO2⟩
                · intro o ho a' w' hb hfr hdep
                  obtain rfl := oj ho
                  have g22 : a'.tmps[22]?.getD undef = .pointer (some ⟨gY, 0, none⟩) := by simpa using hfr 22 (by kernel_rfl)
                  have g118 : a'.tmps[118]?.getD undef = .bool false := by simpa using hdep 8 _ rfl (by kernel_rfl)
                  have q118 := opt_bool g118
                  clear ho hfr hdep; refine unguard_any (by simp [Region.wanted, yielded, q118]) ?_
                  refine load_struct 121 29 _ 7 size_tables _ Tryd.underlying29 ⟨gY, 0, none⟩ (by show a'.tmps.getD 22 undef = _; simpa using g22) (tcells Hy) rfl (fun j u hj => by rw [Addr.add_lit, Nat.zero_add]; exact (hXy.under hb).at_ hj) ?_
                  exact ⟨rfl, _, rfl, br, rfl⟩
                · intro o ho a' w' hb hfr hdep
                  obtain rfl := oj ho
                  have g121 : a'.tmps[121]?.getD undef = Hy.v := by simpa using hdep 11 _ rfl (by kernel_rfl)
                  have g118 : a'.tmps[118]?.getD undef = .bool false := by simpa using hdep 8 _ rfl (by kernel_rfl)
                  have q118 := opt_bool g118
                  clear ho hfr hdep; refine unguard_any (by simp [Region.wanted, yielded, q118]) ?_
                  go_wp2_with fail
                  refine (hRx.out Hy w' (hTy.below hb)).mono ?_
                  rintro e w2 ⟨a, c, rfl, hO, h2⟩
                  have hO2 := hO.sl
                  go_wp2_with fail
                  exact ⟨rfl, _, rfl, h2, a, c, rfl, hO2⟩
                · intro o ho a' w' hb hfr hdep
                  obtain rfl := oj ho
                  obtain ⟨a120, c120, g120, hs120⟩ := hdep 10 _ rfl (by kernel_rfl)
                  replace g120 : a'.tmps[120]?.getD undef = .slice a120 Ex.length c120 := by simpa using g120
                  obtain ⟨a122, c122, g122, hs122⟩ := hdep 12 _ rfl (by kernel_rfl)
                  replace g122 : a'.tmps[122]?.getD undef = .slice a122 Ex.length c122 := by simpa using g122
                  have g118 : a'.tmps[118]?.getD undef = .bool false := by simpa using hdep 8 _ rfl (by kernel_rfl)
                  have q118 := opt_bool g118
                  clear ho hfr hdep; refine unguard_any (by simp [Region.wanted, yielded, q118]) ?_
                  go_wp2_with fail
                  refine (ref_Same Ex Ex _ _ _ _ _ _ w' hs120 hs122).mono ?_
                  rintro e w2 hst
                  rw [decide_eq_true (Eq.refl Ex)] at hst
                  obtain ⟨rfl, n9, rfl⟩ := hst
                  go_wp2_with fail
                  exact ⟨rfl, _, rfl, Still.below n9, rfl⟩
                · intro o ho a' w' hb hfr hdep
                  obtain rfl := oj ho
                  have g123 : a'.tmps[123]?.getD undef = .bool true := by simpa using hdep 13 _ rfl (by kernel_rfl)
                  have g118 : a'.tmps[118]?.getD undef = .bool false := by simpa using hdep 8 _ rfl (by kernel_rfl)
                  have q118 := opt_bool g118
                  clear ho hfr hdep; refine unguard_any (by simp [Region.wanted, yielded, q118]) ?_
                  go_wp2_with fail; exact ⟨rfl, _, rfl, br, rfl⟩
                · intro o ho a' w' hb hfr hdep
                  obtain rfl := oj ho
                  have g118 : a'.tmps[118]?.getD undef = .bool false := by simpa using hdep 8 _ rfl (by kernel_rfl)
                  have g124 : a'.tmps[124]?.getD undef = .bool false := by simpa using hdep 14 _ rfl (by kernel_rfl)
                  clear ho hfr hdep; go_wp2_with fail; exact ⟨rfl, _, rfl, br, rfl⟩
                · intro o ho a' w' hb hfr hdep
                  obtain rfl := oj ho
                  have g125 : a'.tmps[125]?.getD undef = .bool false := by simpa using hdep 15 _ rfl (by kernel_rfl)
                  clear ho hfr hdep; go_wp2_with fail; exact ⟨rfl, _, rfl, br, rfl⟩
                · intro o ho a' w' hb hfr hdep
                  obtain rfl := oj ho
                  have g18 : a'.tmps[18]?.getD undef = .int .i64 ((1 : Nat) : Int) := by simpa using hfr 18 (by kernel_rfl)
                  have g126 : a'.tmps[126]?.getD undef = .bool false := by simpa using hdep 16 _ rfl (by kernel_rfl)
                  have q126 := opt_bool g126
                  clear ho hfr hdep; refine unguard_any (by simp [Region.wanted, yielded, q126]) ?_
                  go_wp2_with fail; exact ⟨rfl, _, rfl, br, rfl⟩
                · intro o ho a' w' hb hfr hdep
                  obtain rfl := oj ho
                  have g127 : a'.tmps[127]?.getD undef = .int .i64 ((1 : Nat) : Int) := by simpa using hdep 17 _ rfl (by kernel_rfl)
                  have g126 : a'.tmps[126]?.getD undef = .bool false := by simpa using hdep 16 _ rfl (by kernel_rfl)
                  have q126 := opt_bool g126
                  clear ho hfr hdep; refine unguard_any (by simp [Region.wanted, yielded, q126]) ?_
                  go_wp2_with fail; exact ⟨rfl, _, rfl, br, rfl⟩
                · intro o ho a' w' hb hfr hdep
                  obtain rfl := oj ho
                  have g128 : a'.tmps[128]?.getD undef = .bool false := by simpa using hdep 18 _ rfl (by kernel_rfl)
                  have g126 : a'.tmps[126]?.getD undef = .bool false := by simpa using hdep 16 _ rfl (by kernel_rfl)
                  have q126 := opt_bool g126
                  clear ho hfr hdep; refine unguard_any (by simp [Region.wanted, yielded, q126]) ?_
                  go_wp2_with fail; exact ⟨rfl, _, rfl, br, rfl⟩
                · intro o ho a' w' hb hfr hdep
                  obtain rfl := oj ho
                  have g21 : a'.tmps[21]?.getD undef = .int .i64 e0 := by simpa using hfr 21 (by kernel_rfl)
                  have g129 : a'.tmps[129]?.getD undef = .bool false := by simpa using hdep 19 _ rfl (by kernel_rfl)
                  have q129 := opt_bool g129
                  clear ho hfr hdep; go_wp2_with fail; exact ⟨rfl, _, rfl, br, rfl⟩
                · intro o ho a' w' hb hfr hdep
                  obtain rfl := oj ho
                  have g130 : a'.tmps[130]?.getD undef = undef := by simpa using hdep 20 _ rfl (by kernel_rfl)
                  have g129 : a'.tmps[129]?.getD undef = .bool false := by simpa using hdep 19 _ rfl (by kernel_rfl)
                  have q129 := opt_bool g129
                  clear ho hfr hdep; go_wp2_with fail; exact ⟨rfl, _, rfl, br, rfl⟩
                · intro o ho a' w' hb hfr hdep
                  obtain rfl := oj ho
                  have g131 : a'.tmps[131]?.getD undef = undef := by simpa using hdep 21 _ rfl (by kernel_rfl)
                  have g129 : a'.tmps[129]?.getD undef = .bool false := by simpa using hdep 19 _ rfl (by kernel_rfl)
                  have q129 := opt_bool g129
                  clear ho hfr hdep; go_wp2_with fail; exact ⟨rfl, _, rfl, br, rfl⟩
                · intro o ho a' w' hb hfr hdep
                  obtain rfl := oj ho
                  have g20 : a'.tmps[20]?.getD undef = .int .i64 m := by simpa using hfr 20 (by kernel_rfl)
                  have g132 : a'.tmps[132]?.getD undef = undef := by simpa using hdep 22 _ rfl (by kernel_rfl)
                  clear ho hfr hdep; rcases opt_undef g132 with q132 | q132
                  · refine skip_any (by simp [Region.wanted, yielded, q132]) ?_
                    exact ⟨rfl, _, rfl, br, rfl⟩
                  · refine skip_any (by simp [Region.wanted, yielded, q132, undef]) ?_
                    exact ⟨rfl, _, rfl, br, rfl⟩
                · intro o ho a' w' hb hfr hdep
                  obtain rfl := oj ho
                  have g14 : a'.tmps[14]?.getD undef = .slice ab E.length cb := by simpa using hfr 14 (by kernel_rfl)
                  have g132 : a'.tmps[132]?.getD undef = undef := by simpa using hdep 22 _ rfl (by kernel_rfl)
                  clear ho hfr hdep; rcases opt_undef g132 with q132 | q132
                  · refine skip_any (by simp [Region.wanted, yielded, q132]) ?_
                    exact ⟨rfl, _, rfl, br, rfl⟩
                  · refine skip_any (by simp [Region.wanted, yielded, q132, undef]) ?_
                    exact ⟨rfl, _, rfl, br, rfl⟩
                · intro o ho a' w' hb hfr hdep
                  obtain rfl := oj ho
                  have g134 : a'.tmps[134]?.getD undef = undef := by simpa using hdep 24 _ rfl (by kernel_rfl)
                  have g132 : a'.tmps[132]?.getD undef = undef := by simpa using hdep 22 _ rfl (by kernel_rfl)
                  clear ho hfr hdep; rcases opt_undef g132 with q132 | q132
                  · refine skip_any (by simp [Region.wanted, yielded, q132]) ?_
                    exact ⟨rfl, _, rfl, br, rfl⟩
                  · refine skip_any (by simp [Region.wanted, yielded, q132, undef]) ?_
                    exact ⟨rfl, _, rfl, br, rfl⟩
                · intro o ho a' w' hb hfr hdep
                  obtain rfl := oj ho
                  have g133 : a'.tmps[133]?.getD undef = undef := by simpa using hdep 23 _ rfl (by kernel_rfl)
                  have g135 : a'.tmps[135]?.getD undef = undef := by simpa using hdep 25 _ rfl (by kernel_rfl)
                  have g132 : a'.tmps[132]?.getD undef = undef := by simpa using hdep 22 _ rfl (by kernel_rfl)
                  clear ho hfr hdep; rcases opt_undef g132 with q132 | q132
                  · refine skip_any (by simp [Region.wanted, yielded, q132]) ?_
                    exact ⟨rfl, _, rfl, br, rfl⟩
                  · refine skip_any (by simp [Region.wanted, yielded, q132, undef]) ?_
                    exact ⟨rfl, _, rfl, br, rfl⟩
                · intro o ho a' w' hb hfr hdep
                  obtain rfl := oj ho
                  have g132 : a'.tmps[132]?.getD undef = undef := by simpa using hdep 22 _ rfl (by kernel_rfl)
                  have g136 : a'.tmps[136]?.getD undef = undef := by simpa using hdep 26 _ rfl (by kernel_rfl)
                  have g129 : a'.tmps[129]?.getD undef = .bool false := by simpa using hdep 19 _ rfl (by kernel_rfl)
                  have q129 := opt_bool g129
                  clear ho hfr hdep; go_wp2_with fail; exact ⟨rfl, _, rfl, br, rfl⟩
                · intro o ho a' w' hb hfr hdep
                  obtain rfl := oj ho
                  have g129 : a'.tmps[129]?.getD undef = .bool false := by simpa using hdep 19 _ rfl (by kernel_rfl)
                  have g137 : a'.tmps[137]?.getD undef = undef := by simpa using hdep 27 _ rfl (by kernel_rfl)
                  have g126 : a'.tmps[126]?.getD undef = .bool false := by simpa using hdep 16 _ rfl (by kernel_rfl)
                  have q126 := opt_bool g126
                  clear ho hfr hdep; refine unguard_any (by simp [Region.wanted, yielded, q126]) ?_
                  go_wp2_with fail; exact ⟨rfl, _, rfl, br, rfl⟩
                · intro o ho a' w' hb hfr hdep
                  obtain rfl := oj ho
                  have g126 : a'.tmps[126]?.getD undef = .bool false := by simpa using hdep 16 _ rfl (by kernel_rfl)
                  have g138 : a'.tmps[138]?.getD undef = .bool false := by simpa using hdep 28 _ rfl (by kernel_rfl)
                  clear ho hfr hdep; go_wp2_with fail; exact ⟨rfl, _, rfl, br, rfl⟩
                · intro o ho a' w' hb hfr hdep
                  obtain rfl := oj ho
                  have g139 : a'.tmps[139]?.getD undef = .bool false := by simpa using hdep 29 _ rfl (by kernel_rfl)
                  clear ho hfr hdep; go_wp2_with fail; exact ⟨rfl, _, rfl, br, rfl⟩
                · intro o ho a' w' hb hfr hdep
                  obtain rfl := oj ho
                  have g18 : a'.tmps[18]?.getD undef = .int .i64 ((1 : Nat) : Int) := by simpa using hfr 18 (by kernel_rfl)
                  have g140 : a'.tmps[140]?.getD undef = .bool false := by simpa using hdep 30 _ rfl (by kernel_rfl)
                  have q140 := opt_bool g140
                  clear ho hfr hdep; refine unguard_any (by simp [Region.wanted, yielded, q140]) ?_
                  go_wp2_with fail; exact ⟨rfl, _, rfl, br, rfl⟩
                · intro o ho a' w' hb hfr hdep
                  obtain rfl := oj ho
                  have g141 : a'.tmps[141]?.getD undef = .int .i64 ((1 : Nat) : Int) := by simpa using hdep 31 _ rfl (by kernel_rfl)
                  have g140 : a'.tmps[140]?.getD undef = .bool false := by simpa using hdep 30 _ rfl (by kernel_rfl)
                  have q140 := opt_bool g140
                  clear ho hfr hdep; refine unguard_any (by simp [Region.wanted, yielded, q140]) ?_
                  go_wp2_with fail; exact ⟨rfl, _, rfl, br, rfl⟩
                · intro o ho a' w' hb hfr hdep
                  obtain rfl := oj ho
                  have g142 : a'.tmps[142]?.getD undef = .bool true := by simpa using hdep 32 _ rfl (by kernel_rfl)
                  have g140 : a'.tmps[140]?.getD undef = .bool false := by simpa using hdep 30 _ rfl (by kernel_rfl)
                  have q140 := opt_bool g140
                  clear ho hfr hdep; refine unguard_any (by simp [Region.wanted, yielded, q140]) ?_
                  go_wp2_with fail; exact ⟨rfl, _, rfl, br, rfl⟩
                · intro o ho a' w' hb hfr hdep
                  obtain rfl := oj ho
                  have g21 : a'.tmps[21]?.getD undef = .int .i64 e0 := by simpa using hfr 21 (by kernel_rfl)
                  have g143 : a'.tmps[143]?.getD undef = .bool true := by simpa using hdep 33 _ rfl (by kernel_rfl)
                  have q143 := opt_bool g143
                  clear ho hfr hdep; refine unguard_any (by simp [Region.wanted, yielded, q143]) ?_
                  go_wp2_with fail; exact ⟨rfl, _, rfl, br, rfl⟩
                · intro o ho a' w' hb hfr hdep
                  obtain rfl := oj ho
                  have g144 : a'.tmps[144]?.getD undef = .int .i64 e0 := by simpa using hdep 34 _ rfl (by kernel_rfl)
                  have g143 : a'.tmps[143]?.getD undef = .bool true := by simpa using hdep 33 _ rfl (by kernel_rfl)
                  have q143 := opt_bool g143
                  clear ho hfr hdep; refine unguard_any (by simp [Region.wanted, yielded, q143]) ?_
                  go_wp2_with fail; exact ⟨rfl, _, rfl, br, rfl⟩
                · intro o ho a' w' hb hfr hdep
                  obtain rfl := oj ho
                  have g143 : a'.tmps[143]?.getD undef = .bool true := by simpa using hdep 33 _ rfl (by kernel_rfl)
                  have g145 : a'.tmps[145]?.getD undef = .bool false := by simpa using hdep 35 _ rfl (by kernel_rfl)
                  have g140 : a'.tmps[140]?.getD undef = .bool false := by simpa using hdep 30 _ rfl (by kernel_rfl)
                  have q140 := opt_bool g140
                  clear ho hfr hdep; refine unguard_any (by simp [Region.wanted, yielded, q140]) ?_
                  go_wp2_with fail; exact ⟨rfl, _, rfl, br, rfl⟩
              · intro g w14 hb14 hp
                have p146 : g 146 = .bool false := by have h := hp 36 _ rfl; simpa using h
                have p140 : g 140 = .bool false := by have h := hp 30 _ rfl; simpa using h
                clear hp
                simp only [List.drop_succ_cons, List.drop_zero, List.map_cons, List.map_nil, putAll, Act.put, List.setIfInBounds_toArray, List.set_cons_succ, List.set_cons_zero, p146, p140]
                clear p146 p140
                have hb914 := hb913.trans (hb14.mono hb913.size)
                clear hXx13 hTx13 hXy hTy hb913 hb14 hRx
                go_wp2_with fail
                go_roundg (4 - (1 + 1))
                case measure => have := HGK.out; omega
                case rel => exact ⟨1 + 1, by omega, rfl, by go_num, hb914⟩

            · have hq0 : ((k : Int) == 0) = false := beq_eq_false_iff_ne.2 (by omega)
              have hq1 : ((k : Int) == 1) = false := beq_eq_false_iff_ne.2 (by omega)
              have hee : (e0 != e0) = false := by simp
              have hmm : (m != m) = false := by simp
              clear HL0 HL1 HR0 HR1 hk0 hk1
              refine wp_region_free 37 [⟨0, 110, [110], fun vs _ => vs = [.int .i64 e0]⟩, ⟨1, 111, [111], fun vs _ => vs = [.int .i64 e0]⟩, ⟨2, 112, [112], fun vs _ => vs = [.bool false]⟩, ⟨3, 113, [113], fun vs _ => vs = [.bool false]⟩, ⟨4, 114, [114], fun vs _ => vs = [.int .i64 m]⟩, ⟨5, 115, [115], fun vs _ => vs = [.int .i64 m]⟩, ⟨6, 116, [116], fun vs _ => vs = [.bool false]⟩, ⟨7, 117, [117], fun vs _ => vs = [.bool false]⟩, ⟨8, 118, [118], fun vs _ => vs = [.bool false]⟩, ⟨9, 119, [119], fun vs _ => vs = [Hx.v]⟩, ⟨10, 120, [120], fun vs w' => ∃ a c, vs = [.slice a Ex.length c] ∧ Sl w' 1 a Ex.length c (Ex.map B8)⟩, ⟨11, 121, [121], fun vs _ => vs = [Hy.v]⟩, ⟨12, 122, [122], fun vs w' => ∃ a c, vs = [.slice a Ex.length c] ∧ Sl w' 1 a Ex.length c (Ex.map B8)⟩, ⟨13, 123, [123], fun vs _ => vs = [.bool true]⟩, ⟨14, 124, [124], fun vs _ => vs = [.bool false]⟩, ⟨15, 125, [125], fun vs _ => vs = [.bool false]⟩, ⟨16, 126, [126], fun vs _ => vs = [.bool false]⟩, ⟨17, 127, [127], fun vs _ => vs = [.int .i64 (k : Int)]⟩, ⟨18, 128, [128], fun vs _ => vs = [.bool false]⟩, ⟨19, 129, [129], fun vs _ => vs = [.bool false]⟩, ⟨20, 130, [130], fun vs _ => vs = [undef]⟩, ⟨21, 131, [131], fun vs _ => vs = [undef]⟩, ⟨22, 132, [132], fun vs _ => vs = [undef]⟩, ⟨23, 133, [133], fun vs _ => vs = [undef]⟩, ⟨24, 134, [134], fun vs _ => vs = [undef]⟩, ⟨25, 135, [135], fun vs _ => vs = [undef]⟩, ⟨26, 136, [136], fun vs _ => vs = [undef]⟩, ⟨27, 137, [137], fun vs _ => vs = [undef]⟩, ⟨28, 138, [138], fun vs _ => vs = [.bool false]⟩, ⟨29, 139, [139], fun vs _ => vs = [.bool false]⟩, ⟨30, 140, [140], fun vs _ => vs = [.bool false]⟩, ⟨31, 141, [141], fun vs _ => vs = [.int .i64 (k : Int)]⟩, ⟨32, 142, [142], fun vs _ => vs = [.bool false]⟩, ⟨33, 143, [143], fun vs _ => vs = [.bool false]⟩, ⟨34, 144, [144], fun vs _ => vs = [undef]⟩, ⟨35, 145, [145], fun vs _ => vs = [undef]⟩, ⟨36, 146, [146], fun vs _ => vs = [.bool false]⟩] (by kernel_rfl) (by kernel_rfl) ?_ ?_ ?_
              · simp only [All]
                refine ⟨fun _ _ _ _ h => h, fun _ _ _ _ h => h, fun _ _ _ _ h => h, fun _ _ _ _ h => h, fun _ _ _ _ h => h, fun _ _ _ _ h => h, fun _ _ _ _ h => h, fun _ _ _ _ h => h, fun _ _ _ _ h => h, fun _ _ _ _ h => h, ?_, fun _ _ _ _ h => h, ?_, fun _ _ _ _ h => h, fun _ _ _ _ h => h, fun _ _ _ _ h => h, fun _ _ _ _ h => h, fun _ _ _ _ h => h, fun _ _ _ _ h => h, fun _ _ _ _ h => h, fun _ _ _ _ h => h, fun _ _ _ _ h => h, fun _ _ _ _ h => h, fun _ _ _ _ h => h, fun _ _ _ _ h => h, fun _ _ _ _ h => h, fun _ _ _ _ h => h, fun _ _ _ _ h => h, fun _ _ _ _ h => h, fun _ _ _ _ h => h, fun _ _ _ _ h => h, fun _ _ _ _ h => h, fun _ _ _ _ h => h, fun _ _ _ _ h => h, fun _ _ _ _ h => h, fun _ _ _ _ h => h, fun _ _ _ _ h => h, trivial⟩
                · rintro vs w2 w3 hb ⟨a, c, h1, h2⟩
                  exact ⟨a, c, h1, h2.below hb⟩
                · rintro vs w2 w3 hb ⟨a, c, h1, h2⟩
                  exact ⟨a, c, h1, h2.below hb⟩
              · simp only [All]
                refine ⟨?_, ?_, ?_, ?_, ?_, ?_, ?_, ?_, ?_, ?_, ?_, ?_, ?_, ?_, ?_, ?_, ?_, ?_, ?_, ?_, ?_, ?_, ?_, ?_, ?_, ?_, ?_, ?_, ?_, ?_, ?_, ?_, ?_, ?_, ?_, ?_, ?_, trivial⟩
                · intro o ho a' w' hb hfr hdep
                  obtain rfl := oj ho
                  have g21 : a'.tmps[21]?.getD undef = .int .i64 e0 := by simpa using hfr 21 (by kernel_rfl)
                  clear ho hfr hdep; go_wp2_with fail; exact ⟨rfl, _, rfl, br, rfl⟩
                · intro o ho a' w' hb hfr hdep
                  obtain rfl := oj ho
                  have g24 : a'.tmps[24]?.getD undef = .int .i64 e0 := by simpa using hfr 24 (by kernel_rfl)
                  clear ho hfr hdep; go_wp2_with fail; exact ⟨rfl, _, rfl, br, rfl⟩
                · intro o ho a' w' hb hfr hdep
                  obtain rfl := oj ho
                  have g110 : a'.tmps[110]?.getD undef = .int .i64 e0 := by simpa using hdep 0 _ rfl (by kernel_rfl)
                  have g111 : a'.tmps[111]?.getD undef = .int .i64 e0 := by simpa using hdep 1 _ rfl (by kernel_rfl)
                  clear ho hfr hdep; go_wp2_with fail; exact ⟨rfl, _, rfl, br, rfl⟩
                · intro o ho a' w' hb hfr hdep
                  obtain rfl := oj ho
                  have g112 : a'.tmps[112]?.getD undef = .bool false := by simpa using hdep 2 _ rfl (by kernel_rfl)
                  clear ho hfr hdep; go_wp2_with fail; exact ⟨rfl, _, rfl, br, rfl⟩
                · intro o ho a' w' hb hfr hdep
                  obtain rfl := oj ho
                  have g20 : a'.tmps[20]?.getD undef = .int .i64 m := by simpa using hfr 20 (by kernel_rfl)
                  have g113 : a'.tmps[113]?.getD undef = .bool false := by simpa using hdep 3 _ rfl (by kernel_rfl)
                  have q113 := opt_bool g113
                  clear ho hfr hdep; refine unguard_any (by simp [Region.wanted, yielded, q113]) ?_
                  go_wp2_with fail; exact ⟨rfl, _, rfl, br, rfl⟩
                · intro o ho a' w' hb hfr hdep
                  obtain rfl := oj ho
                  have g23 : a'.tmps[23]?.getD undef = .int .i64 m := by simpa using hfr 23 (by kernel_rfl)
                  have g113 : a'.tmps[113]?.getD undef = .bool false := by simpa using hdep 3 _ rfl (by kernel_rfl)
                  have q113 := opt_bool g113
                  clear ho hfr hdep; refine unguard_any (by simp [Region.wanted, yielded, q113]) ?_
                  go_wp2_with fail; exact ⟨rfl, _, rfl, br, rfl⟩
                · intro o ho a' w' hb hfr hdep
                  obtain rfl := oj ho
                  have g114 : a'.tmps[114]?.getD undef = .int .i64 m := by simpa using hdep 4 _ rfl (by kernel_rfl)
                  have g115 : a'.tmps[115]?.getD undef = .int .i64 m := by simpa using hdep 5 _ rfl (by kernel_rfl)
                  have g113 : a'.tmps[113]?.getD undef = .bool false := by simpa using hdep 3 _ rfl (by kernel_rfl)
                  have q113 := opt_bool g113
                  clear ho hfr hdep; refine unguard_any (by simp [Region.wanted, yielded, q113]) ?_
                  go_wp2_with fail; exact ⟨rfl, _, rfl, br, rfl⟩
                · intro o ho a' w' hb hfr hdep
                  obtain rfl := oj ho
                  have g113 : a'.tmps[113]?.getD undef = .bool false := by simpa using hdep 3 _ rfl (by kernel_rfl)
                  have g116 : a'.tmps[116]?.getD undef = .bool false := by simpa using hdep 6 _ rfl (by kernel_rfl)
                  clear ho hfr hdep; go_wp2_with fail; exact ⟨rfl, _, rfl, br, rfl⟩
                · intro o ho a' w' hb hfr hdep
                  obtain rfl := oj ho
                  have g117 : a'.tmps[117]?.getD undef = .bool false := by simpa using hdep 7 _ rfl (by kernel_rfl)
                  clear ho hfr hdep; go_wp2_with fail; exact ⟨rfl, _, rfl, br, rfl⟩
                · intro o ho a' w' hb hfr hdep
                  obtain rfl := oj ho
                  have g19 : a'.tmps[19]?.getD undef = .pointer (some ⟨gX, 0, none⟩) := by simpa using hfr 19 (by kernel_rfl)
                  have g118 : a'.tmps[118]?.getD undef = .bool false := by simpa using hdep 8 _ rfl (by kernel_rfl)
                  have q118 := opt_bool g118
                  clear ho hfr hdep; refine unguard_any (by simp [Region.wanted, yielded, q118]) ?_
                  refine load_struct 119 29 _ 7 size_tables _ Tryd.underlying29 ⟨gX, 0, none⟩ (by show a'.tmps.getD 19 undef = _; simpa using g19) (tcells Hx) rfl (fun j u hj => by rw [Addr.add_lit, Nat.zero_add]; exact (hXx13.under hb).at_ hj) ?_
                  exact ⟨rfl, _, rfl, br, rfl⟩
                · intro o ho a' w' hb hfr hdep
                  obtain rfl := oj ho
                  have g119 : a'.tmps[119]?.getD undef = Hx.v := by simpa using hdep 9 _ rfl (by kernel_rfl)
                  have g118 : a'.tmps[118]?.getD undef = .bool false := by simpa using hdep 8 _ rfl (by kernel_rfl)
                  have q118 := opt_bool g118
                  clear ho hfr hdep; refine unguard_any (by simp [Region.wanted, yielded, q118]) ?_
                  go_wp2_with fail
                  refine (hRx.out Hx w' (hTx13.below hb)).mono ?_
                  rintro e w2 ⟨a, c, rfl, hO, h2⟩
                  have hO2 := hO.sl
                  go_wp2_with fail
                  exact ⟨rfl, _, rfl, h2, a, c, rfl, hO2⟩
                · intro o ho a' w' hb hfr hdep
                  obtain rfl := oj ho
                  have g22 : a'.tmps[22]?.getD undef = .pointer (some ⟨gY, 0, none⟩) := by simpa using hfr 22 (by kernel_rfl)
                  have g118 : a'.tmps[118]?.getD undef = .bool false := by simpa using hdep 8 _ rfl (by kernel_rfl)
                  have q118 := opt_bool g118
                  clear ho hfr hdep; refine unguard_any (by simp [Region.wanted, yielded, q118]) ?_
                  refine load_struct 121 29 _ 7 size_tables _ Tryd.underlying29 ⟨gY, 0, none⟩ (by show a'.tmps.getD 22 undef = _; simpa using g22) (tcells Hy) rfl (fun j u hj => by rw [Addr.add_lit, Nat.zero_add]; exact (hXy.under hb).at_ hj) ?_
                  exact ⟨rfl, _, rfl, br, rfl⟩
                · intro o ho a' w' hb hfr hdep
                  obtain rfl := oj ho
                  have g121 : a'.tmps[121]?.getD undef = Hy.v := by simpa using hdep 11 _ rfl (by kernel_rfl)
                  have g118 : a'.tmps[118]?.getD undef = .bool false := by simpa using hdep 8 _ rfl (by kernel_rfl)
                  have q118 := opt_bool g118
                  clear ho hfr hdep; refine unguard_any (by simp [Region.wanted, yielded, q118]) ?_
                  go_wp2_with fail
                  refine (hRx.out Hy w' (hTy.below hb)).mono ?_
                  rintro e w2 ⟨a, c, rfl, hO, h2⟩
                  have hO2 := hO.sl
                  go_wp2_with fail
                  exact ⟨rfl, _, rfl, h2, a, c, rfl, hO2⟩
                · intro o ho a' w' hb hfr hdep
                  obtain rfl := oj ho
                  obtain ⟨a120, c120, g120, hs120⟩ := hdep 10 _ rfl (by kernel_rfl)
                  replace g120 : a'.tmps[120]?.getD undef = .slice a120 Ex.length c120 := by simpa using g120
                  obtain ⟨a122, c122, g122, hs122⟩ := hdep 12 _ rfl (by kernel_rfl)
                  replace g122 : a'.tmps[122]?.getD undef = .slice a122 Ex.length c122 := by simpa using g122
                  have g118 : a'.tmps[118]?.getD undef = .bool false := by simpa using hdep 8 _ rfl (by kernel_rfl)
                  have q118 := opt_bool g118
                  clear ho hfr hdep; refine unguard_any (by simp [Region.wanted, yielded, q118]) ?_
                  go_wp2_with fail
                  refine (ref_Same Ex Ex _ _ _ _ _ _ w' hs120 hs122).mono ?_
                  rintro e w2 hst
                  rw [decide_eq_true (Eq.refl Ex)] at hst
                  obtain ⟨rfl, n9, rfl⟩ := hst
                  go_wp2_with fail
                  exact ⟨rfl, _, rfl, Still.below n9, rfl⟩
                · intro o ho a' w' hb hfr hdep
                  obtain rfl := oj ho
                  have g123 : a'.tmps[123]?.getD undef = .bool true := by simpa using hdep 13 _ rfl (by kernel_rfl)
                  have g118 : a'.tmps[118]?.getD undef = .bool false := by simpa using hdep 8 _ rfl (by kernel_rfl)
                  have q118 := opt_bool g118
                  clear ho hfr hdep; refine unguard_any (by simp [Region.wanted, yielded, q118]) ?_
                  go_wp2_with fail; exact ⟨rfl, _, rfl, br, rfl⟩
                · intro o ho a' w' hb hfr hdep
                  obtain rfl := oj ho
                  have g118 : a'.tmps[118]?.getD undef = .bool false := by simpa using hdep 8 _ rfl (by kernel_rfl)
                  have g124 : a'.tmps[124]?.getD undef = .bool false := by simpa using hdep 14 _ rfl (by kernel_rfl)
                  clear ho hfr hdep; go_wp2_with fail; exact ⟨rfl, _, rfl, br, rfl⟩
                · intro o ho a' w' hb hfr hdep
                  obtain rfl := oj ho
                  have g125 : a'.tmps[125]?.getD undef = .bool false := by simpa using hdep 15 _ rfl (by kernel_rfl)
                  clear ho hfr hdep; go_wp2_with fail; exact ⟨rfl, _, rfl, br, rfl⟩
                · intro o ho a' w' hb hfr hdep
                  obtain rfl := oj ho
                  have g18 : a'.tmps[18]?.getD undef = .int .i64 (k : Int) := by simpa using hfr 18 (by kernel_rfl)
                  have g126 : a'.tmps[126]?.getD undef = .bool false := by simpa using hdep 16 _ rfl (by kernel_rfl)
                  have q126 := opt_bool g126
                  clear ho hfr hdep; refine unguard_any (by simp [Region.wanted, yielded, q126]) ?_
                  go_wp2_with fail; exact ⟨rfl, _, rfl, br, rfl⟩
                · intro o ho a' w' hb hfr hdep
                  obtain rfl := oj ho
                  have g127 : a'.tmps[127]?.getD undef = .int .i64 (k : Int) := by simpa using hdep 17 _ rfl (by kernel_rfl)
                  have g126 : a'.tmps[126]?.getD undef = .bool false := by simpa using hdep 16 _ rfl (by kernel_rfl)
                  have q126 := opt_bool g126
                  clear ho hfr hdep; refine unguard_any (by simp [Region.wanted, yielded, q126]) ?_
                  go_wp2_with fail; exact ⟨rfl, _, rfl, br, rfl⟩
                · intro o ho a' w' hb hfr hdep
                  obtain rfl := oj ho
                  have g128 : a'.tmps[128]?.getD undef = .bool false := by simpa using hdep 18 _ rfl (by kernel_rfl)
                  have g126 : a'.tmps[126]?.getD undef = .bool false := by simpa using hdep 16 _ rfl (by kernel_rfl)
                  have q126 := opt_bool g126
                  clear ho hfr hdep; refine unguard_any (by simp [Region.wanted, yielded, q126]) ?_
                  go_wp2_with fail; exact ⟨rfl, _, rfl, br, rfl⟩
                · intro o ho a' w' hb hfr hdep
                  obtain rfl := oj ho
                  have g21 : a'.tmps[21]?.getD undef = .int .i64 e0 := by simpa using hfr 21 (by kernel_rfl)
                  have g129 : a'.tmps[129]?.getD undef = .bool false := by simpa using hdep 19 _ rfl (by kernel_rfl)
                  have q129 := opt_bool g129
                  clear ho hfr hdep; go_wp2_with fail; exact ⟨rfl, _, rfl, br, rfl⟩
                · intro o ho a' w' hb hfr hdep
                  obtain rfl := oj ho
                  have g130 : a'.tmps[130]?.getD undef = undef := by simpa using hdep 20 _ rfl (by kernel_rfl)
                  have g129 : a'.tmps[129]?.getD undef = .bool false := by simpa using hdep 19 _ rfl (by kernel_rfl)
                  have q129 := opt_bool g129
                  clear ho hfr hdep; go_wp2_with fail; exact ⟨rfl, _, rfl, br, rfl⟩
                · intro o ho a' w' hb hfr hdep
                  obtain rfl := oj ho
                  have g131 : a'.tmps[131]?.getD undef = undef := by simpa using hdep 21 _ rfl (by kernel_rfl)
                  have g129 : a'.tmps[129]?.getD undef = .bool false := by simpa using hdep 19 _ rfl (by kernel_rfl)
                  have q129 := opt_bool g129
                  clear ho hfr hdep; go_wp2_with fail; exact ⟨rfl, _, rfl, br, rfl⟩
                · intro o ho a' w' hb hfr hdep
                  obtain rfl := oj ho
                  have g20 : a'.tmps[20]?.getD undef = .int .i64 m := by simpa using hfr 20 (by kernel_rfl)
                  have g132 : a'.tmps[132]?.getD undef = undef := by simpa using hdep 22 _ rfl (by kernel_rfl)
                  clear ho hfr hdep; rcases opt_undef g132 with q132 | q132
                  · refine skip_any (by simp [Region.wanted, yielded, q132]) ?_
                    exact ⟨rfl, _, rfl, br, rfl⟩
                  · refine skip_any (by simp [Region.wanted, yielded, q132, undef]) ?_
                    exact ⟨rfl, _, rfl, br, rfl⟩
                · intro o ho a' w' hb hfr hdep
                  obtain rfl := oj ho
                  have g14 : a'.tmps[14]?.getD undef = .slice ab E.length cb := by simpa using hfr 14 (by kernel_rfl)
                  have g132 : a'.tmps[132]?.getD undef = undef := by simpa using hdep 22 _ rfl (by kernel_rfl)
                  clear ho hfr hdep; rcases opt_undef g132 with q132 | q132
                  · refine skip_any (by simp [Region.wanted, yielded, q132]) ?_
                    exact ⟨rfl, _, rfl, br, rfl⟩
                  · refine skip_any (by simp [Region.wanted, yielded, q132, undef]) ?_
                    exact ⟨rfl, _, rfl, br, rfl⟩
                · intro o ho a' w' hb hfr hdep
                  obtain rfl := oj ho
                  have g134 : a'.tmps[134]?.getD undef = undef := by simpa using hdep 24 _ rfl (by kernel_rfl)
                  have g132 : a'.tmps[132]?.getD undef = undef := by simpa using hdep 22 _ rfl (by kernel_rfl)
                  clear ho hfr hdep; rcases opt_undef g132 with q132 | q132
                  · refine skip_any (by simp [Region.wanted, yielded, q132]) ?_
                    exact ⟨rfl, _, rfl, br, rfl⟩
                  · refine skip_any (by simp [Region.wanted, yielded, q132, undef]) ?_
                    exact ⟨rfl, _, rfl, br, rfl⟩
                · intro o ho a' w' hb hfr hdep
                  obtain rfl := oj ho
                  have g133 : a'.tmps[133]?.getD undef = undef := by simpa using hdep 23 _ rfl (by kernel_rfl)
                  have g135 : a'.tmps[135]?.getD undef = undef := by simpa using hdep 25 _ rfl (by kernel_rfl)
                  have g132 : a'.tmps[132]?.getD undef = undef := by simpa using hdep 22 _ rfl (by kernel_rfl)
                  clear ho hfr hdep; rcases opt_undef g132 with q132 | q132
                  · refine skip_any (by simp [Region.wanted, yielded, q132]) ?_
                    exact ⟨rfl, _, rfl, br, rfl⟩
                  · refine skip_any (by simp [Region.wanted, yielded, q132, undef]) ?_
                    exact ⟨rfl, _, rfl, br, rfl⟩
                · intro o ho a' w' hb hfr hdep
                  obtain rfl := oj ho
                  have g132 : a'.tmps[132]?.getD undef = undef := by simpa using hdep 22 _ rfl (by kernel_rfl)
                  have g136 : a'.tmps[136]?.getD undef = undef := by simpa using hdep 26 _ rfl (by kernel_rfl)
                  have g129 : a'.tmps[129]?.getD undef = .bool false := by simpa using hdep 19 _ rfl (by kernel_rfl)
                  have q129 := opt_bool g129
                  clear ho hfr hdep; go_wp2_with fail; exact ⟨rfl, _, rfl, br, rfl⟩
                · intro o ho a' w' hb hfr hdep
                  obtain rfl := oj ho
                  have g129 : a'.tmps[129]?.getD undef = .bool false := by simpa using hdep 19 _ rfl (by kernel_rfl)
                  have g137 : a'.tmps[137]?.getD undef = undef := by simpa using hdep 27 _ rfl (by kernel_rfl)
                  have g126 : a'.tmps[126]?.getD undef = .bool false := by simpa using hdep 16 _ rfl (by kernel_rfl)
                  have q126 := opt_bool g126
                  clear ho hfr hdep; refine unguard_any (by simp [Region.wanted, yielded, q126]) ?_
                  go_wp2_with fail; exact ⟨rfl, _, rfl, br, rfl⟩
                · intro o ho a' w' hb hfr hdep
                  obtain rfl := oj ho
                  have g126 : a'.tmps[126]?.getD undef = .bool false := by simpa using hdep 16 _ rfl (by kernel_rfl)
                  have g138 : a'.tmps[138]?.getD undef = .bool false := by simpa using hdep 28 _ rfl (by kernel_rfl)
                  clear ho hfr hdep; go_wp2_with fail; exact ⟨rfl, _, rfl, br, rfl⟩
                · intro o ho a' w' hb hfr hdep
                  obtain rfl := oj ho
                  have g139 : a'.tmps[139]?.getD undef = .bool false := by simpa using hdep 29 _ rfl (by kernel_rfl)
                  clear ho hfr hdep; go_wp2_with fail; exact ⟨rfl, _, rfl, br, rfl⟩
                · intro o ho a' w' hb hfr hdep
                  obtain rfl := oj ho
                  have g18 : a'.tmps[18]?.getD undef = .int .i64 (k : Int) := by simpa using hfr 18 (by kernel_rfl)
                  have g140 : a'.tmps[140]?.getD undef = .bool false := by simpa using hdep 30 _ rfl (by kernel_rfl)
                  have q140 := opt_bool g140
                  clear ho hfr hdep; refine unguard_any (by simp [Region.wanted, yielded, q140]) ?_
                  go_wp2_with fail; exact ⟨rfl, _, rfl, br, rfl⟩
                · intro o ho a' w' hb hfr hdep
                  obtain rfl := oj ho
                  have g141 : a'.tmps[141]?.getD undef = .int .i64 (k : Int) := by simpa using hdep 31 _ rfl (by kernel_rfl)
                  have g140 : a'.tmps[140]?.getD undef = .bool false := by simpa using hdep 30 _ rfl (by kernel_rfl)
                  have q140 := opt_bool g140
                  clear ho hfr hdep; refine unguard_any (by simp [Region.wanted, yielded, q140]) ?_
                  go_wp2_with fail; exact ⟨rfl, _, rfl, br, rfl⟩
                · intro o ho a' w' hb hfr hdep
                  obtain rfl := oj ho
                  have g142 : a'.tmps[142]?.getD undef = .bool false := by simpa using hdep 32 _ rfl (by kernel_rfl)
                  have g140 : a'.tmps[140]?.getD undef = .bool false := by simpa using hdep 30 _ rfl (by kernel_rfl)
                  have q140 := opt_bool g140
                  clear ho hfr hdep; refine unguard_any (by simp [Region.wanted, yielded, q140]) ?_
                  go_wp2_with fail; exact ⟨rfl, _, rfl, br, rfl⟩
                · intro o ho a' w' hb hfr hdep
                  obtain rfl := oj ho
                  have g21 : a'.tmps[21]?.getD undef = .int .i64 e0 := by simpa using hfr 21 (by kernel_rfl)
                  have g143 : a'.tmps[143]?.getD undef = .bool false := by simpa using hdep 33 _ rfl (by kernel_rfl)
                  have q143 := opt_bool g143
                  clear ho hfr hdep; go_wp2_with fail; exact ⟨rfl, _, rfl, br, rfl⟩
                · intro o ho a' w' hb hfr hdep
                  obtain rfl := oj ho
                  have g144 : a'.tmps[144]?.getD undef = undef := by simpa using hdep 34 _ rfl (by kernel_rfl)
                  have g143 : a'.tmps[143]?.getD undef = .bool false := by simpa using hdep 33 _ rfl (by kernel_rfl)
                  have q143 := opt_bool g143
                  clear ho hfr hdep; go_wp2_with fail; exact ⟨rfl, _, rfl, br, rfl⟩
                · intro o ho a' w' hb hfr hdep
                  obtain rfl := oj ho
                  have g143 : a'.tmps[143]?.getD undef = .bool false := by simpa using hdep 33 _ rfl (by kernel_rfl)
                  have g145 : a'.tmps[145]?.getD undef = undef := by simpa using hdep 35 _ rfl (by kernel_rfl)
                  have g140 : a'.tmps[140]?.getD undef = .bool false := by simpa using hdep 30 _ rfl (by kernel_rfl)
                  have q140 := opt_bool g140
                  clear ho hfr hdep; refine unguard_any (by simp [Region.wanted, yielded, q140]) ?_
                  go_wp2_with fail; exact ⟨rfl, _, rfl, br, rfl⟩
              · intro g w14 hb14 hp
                have p146 : g 146 = .bool false := by have h := hp 36 _ rfl; simpa using h
                have p140 : g 140 = .bool false := by have h := hp 30 _ rfl; simpa using h
                clear hp
                simp only [List.drop_succ_cons, List.drop_zero, List.map_cons, List.map_nil, putAll, Act.put, List.setIfInBounds_toArray, List.set_cons_succ, List.set_cons_zero, p146, p140]
                clear p146 p140
                have hb914 := hb913.trans (hb14.mono hb913.size)
                clear hXx13 hTx13 hXy hTy hb913 hb14 hRx
                go_wp2_with fail
                go_roundg (4 - (k + 1))
                case measure => have := HGK.out; omega
                case rel => exact ⟨k + 1, by omega, rfl, by go_num, hb914⟩

        · obtain rfl : k = 4 := by omega
          have f1' : decide (((4 : Nat) : Int) < 4) = false := by decide
          have hX10 := hX9.under hbk
          have hB10 := hB9.trans (hbk.mono hB9.size)
          clear hX9 HT4 HR0 HR1 hgQ9 hbk
          go_wp2_with (go_at_call 5; refine (ref_TablesQ n HN.out.1 HN.out.2 wr).mono ?_; rintro e w14 ⟨Hu, tu, rfl, hTu, hGu, hb14⟩; refine hold ?_)
          refine hide ?_
          have hB14 := hB10.trans (hb14.mono hB10.size)
          have HGU := hide hGu
          clear hGu hX10 hB10 hb14
          have hnu0 := hTu.l0.n_eq
          have hpu0 : Hu.p0.length ≤ 95 := by have h1 := HGU.out.few; rw [← hTu.e0] at h1; unfold rus at h1; rw [List.length_map] at h1; exact h1
          have HPU := hide hpu0
          have Hm := hide hTu
          clear hTu
          obtain ⟨⟨a0, n0, c0⟩, ⟨a1, n1, c1⟩, ps0, ps1, ⟨ad, nd, cd⟩, ⟨ac, nc, cc⟩, ⟨an, nn, cn⟩, ⟨af2, nf, cf⟩, ⟨aw, nw, cw⟩⟩ := Hu
          have hnu : n0 = ps0.length := hnu0
          clear hnu0 hpu0
          subst hnu
          unfold TH.v
          simp only [hdv]
          have Y1 := (Box.new w14 29 #[.slice a0 ps0.length c0, .slice a1 n1 c1, .slice ad nd cd, .slice ac nc cc, .slice an nn cn, .slice af2 nf cf, .slice aw nw cw]).alloc (.cells #[.slice a0 ps0.length c0, .slice a1 n1 c1, .slice ad nd cd, .slice ac nc cc, .slice an nn cn, .slice af2 nf cf, .slice aw nw cw] 29)
          have Y2 := Box.new (w14.alloc (.cells #[.slice a0 ps0.length c0, .slice a1 n1 c1, .slice ad nd cd, .slice ac nc cc, .slice an nn cn, .slice af2 nf cf, .slice aw nw cw] 29)) 29 #[.slice a0 ps0.length c0, .slice a1 n1 c1, .slice ad nd cd, .slice ac nc cc, .slice an nn cn, .slice af2 nf cf, .slice aw nw cw]
          have hbY := (blo w14 (.cells #[.slice a0 ps0.length c0, .slice a1 n1 c1, .slice ad nd cd, .slice ac nc cc, .slice an nn cn, .slice af2 nf cf, .slice aw nw cw] 29)).trans ((blo (w14.alloc (.cells #[.slice a0 ps0.length c0, .slice a1 n1 c1, .slice ad nd cd, .slice ac nc cc, .slice an nn cn, .slice af2 nf cf, .slice aw nw cw] 29)) (.cells #[.slice a0 ps0.length c0, .slice a1 n1 c1, .slice ad nd cd, .slice ac nc cc, .slice an nn cn, .slice af2 nf cf, .slice aw nw cw] 29)).mono (blo w14 (.cells #[.slice a0 ps0.length c0, .slice a1 n1 c1, .slice ad nd cd, .slice ac nc cc, .slice an nn cn, .slice af2 nf cf, .slice aw nw cw] 29)).size)
          have ez : (w14.alloc (.cells #[.slice a0 ps0.length c0, .slice a1 n1 c1, .slice ad nd cd, .slice ac nc cc, .slice an nn cn, .slice af2 nf cf, .slice aw nw cw] 29)).heap.size = w14.heap.size + 1 := size_alloc_2 _ _
          rw [ez] at Y2
          clear ez
          go_upto_region 18 with fail
          generalize (w14.alloc (.cells #[.slice a0 ps0.length c0, .slice a1 n1 c1, .slice ad nd cd, .slice ac nc cc, .slice an nn cn, .slice af2 nf cf, .slice aw nw cw] 29)).alloc (.cells #[.slice a0 ps0.length c0, .slice a1 n1 c1, .slice ad nd cd, .slice ac nc cc, .slice an nn cn, .slice af2 nf cf, .slice aw nw cw] 29) = w15 at *
          obtain ⟨gU, hgU⟩ : ∃ gU, Hid (w14.heap.size = gU) := ⟨_, hide rfl⟩
          obtain ⟨gM, hgM⟩ : ∃ gM, Hid (gU + 1 = gM) := ⟨_, hide rfl⟩
          rw [hgU.out] at Y1 Y2 ⊢
          rw [hgM.out] at Y2 ⊢
          have hTu : TaIs w15 ⟨(a0, ps0.length, c0), (a1, n1, c1), ps0, ps1, (ad, nd, cd), (ac, nc, cc), (an, nn, cn), (af2, nf, cf), (aw, nw, cw)⟩ tu := Hm.out.below hbY
          have HBY15 := hide hbY
          clear hbY
          have k0 := Y1.at_ (j := 0) rfl
          have hrow0 := hTu.l0.top
          have hown0 : Own (w15.alloc (.cells #[] 45)) w15.heap.size 45 3 (some ⟨w15.heap.size, 0, none⟩) 0 0 [] := Own.built w15 w15.heap.size 45 3 0 #[] (Nat.le_refl _) rfl (by decide)
          have hbe := blo w15 (.cells #[] 45)
          have hrowe := hrow0.below hbe
          have hze := hbe.size
          have hpl := HPU.out
          have k0e := cell_below k0 hbe
          have hOne : Hid (∀ u ∈ ps0.flatMap rc, u.oneCell' = true) := hide (fun u hu => by obtain ⟨p, _, hp⟩ := List.mem_flatMap.1 hu; exact rc_one p u hp)
          go_wp2_with (first
            | (with_reducible refine index_arrF 153 27 _ _ 26 2 Tryd.underlying27 size_tab6 gU 0 rfl _ _ 0 rfl rfl (by decide) ?_)
            | (at_builtin; refine hold ?_))
          refine hide ?_
          refine append_own rfl _ _ 24 rfl 45 zeroRule 3 48 Tryd.underlying24 info_rule rfl w15 w15.heap.size (some ⟨w15.heap.size, 0, none⟩) 0 0 [] rfl hown0 a0 ps0.length c0 (ps0.flatMap rc) rfl hrowe hOne.out (by omega) (by unfold maxLen; omega) hze hbe ?_
          intro a16 c16 w16 hO16 g16 hb16
          rw [Nat.zero_add] at hO16
          rw [List.nil_append] at hO16
          simp only [Act.put, List.setIfInBounds_toArray, List.set_cons_succ, List.set_cons_zero, Nat.zero_add]
          clear hown0 hbe hrowe hze k0e g16 hrow0 k0 hOne
          obtain ⟨q, hq⟩ : ∃ q : RH, q = (qqq, (some ⟨w16.heap.size, 0, none⟩, 1, 1)) := ⟨_, rfl⟩
          have hrq : rc q = [.string ⟨#[113, 113, 113]⟩, .int .i64 0, .slice (some ⟨w16.heap.size, 0, none⟩) 1 1] := by rw [hq]; rfl
          have x17 := Box.new w16 5 #[.int .u8 9]
          have x18 := x17.alloc (.cells #[.string ⟨#[113, 113, 113]⟩, .int .i64 0, .slice (some ⟨w16.heap.size, 0, none⟩) 1 1] 45)
          have y18 := Box.new (w16.alloc (.cells #[.int .u8 9] 5)) 45 #[.string ⟨#[113, 113, 113]⟩, .int .i64 0, .slice (some ⟨w16.heap.size, 0, none⟩) 1 1]
          rw [size_alloc_2] at y18
          have hb1618 := (blo w16 (.cells #[.int .u8 9] 5)).trans ((blo (w16.alloc (.cells #[.int .u8 9] 5)) (.cells #[.string ⟨#[113, 113, 113]⟩, .int .i64 0, .slice (some ⟨w16.heap.size, 0, none⟩) 1 1] 45)).mono (blo w16 (.cells #[.int .u8 9] 5)).size)
          have hO18 := hO16.below hb1618
          have hb18 := hb16.trans (hb1618.mono hb16.size)
          have HNE := hide (fun b (hb : w16.heap.size ≤ b) => own_map hO16 hb)
          have hz16 : w15.heap.size ≤ w16.heap.size := hb16.size
          clear x17 hO16
          have HRQ := hide hrq
          have HQ := hide hq
          clear hq hrq
          go_wp2_with (at_builtin; refine hold ?_)
          refine hide ?_
          generalize (w16.alloc (.cells #[.int .u8 9] 5)).alloc (.cells #[.string ⟨#[113, 113, 113]⟩, .int .i64 0, .slice (some ⟨w16.heap.size, 0, none⟩) 1 1] 45) = w18 at *
          have hsq : Sl w18 3 (some ⟨w16.heap.size + 1, 0, none⟩) 1 1 (rc q) := by
            rw [HRQ.out]
            exact y18.sl 0 1 1 3 _ rfl (Nat.le_refl _) (by decide) (fun j u h => by rw [Nat.zero_add]; exact h)
          have hs9 : Sl w18 1 (some ⟨w16.heap.size, 0, none⟩) 1 1 (([9] : List UInt8).map B8) := x18.sl 0 1 1 1 _ rfl (Nat.le_refl _) (by decide) (fun j u h => by rw [Nat.zero_add]; exact h)
          clear x18 y18 hb1618
          refine append_own rfl _ _ 24 rfl 45 zeroRule 3 48 Tryd.underlying24 info_rule rfl w15 w15.heap.size a16 ps0.length c16 _ rfl hO18 (some ⟨w16.heap.size + 1, 0, none⟩) 1 1 (rc q) rfl hsq (rc_one q) (by omega) (by unfold maxLen; omega) hb18.size hb18 ?_
          intro a19 c19 w19 hO19 g19 hb19
          simp only [Act.put, List.setIfInBounds_toArray, List.set_cons_succ, List.set_cons_zero]
          have hs19 := hs9.grown g19 (fun p hp => by cases hp; exact HNE.out _ (Nat.le_refl _))
          have hgU15 := Y1.lt
          have hgM15 := Y2.lt
          have xU19 := Y1.below hb19 hgU15
          have xM19 := Y2.below hb19 hgM15
          clear hO18 hb18 HNE hs9 g19 hsq Y1 Y2 hb16
          go_wp2_with (first
            | (with_reducible refine index_arrF 163 27 _ _ 26 2 Tryd.underlying27 size_tab6 gM 0 rfl _ _ 0 rfl rfl (by decide) ?_)
            | (with_reducible refine hold_storeF ?_))
          refine hide ?_
          refine store_box 26 _ _ 29 gM 0 [.slice a0 ps0.length c0, .slice a1 n1 c1, .slice ad nd cd, .slice ac nc cc, .slice an nn cn, .slice af2 nf cf, .slice aw nw cw] [.slice a19 (ps0.length + 1) c19] (.agg #[.slice a19 (ps0.length + 1) c19]) size_tab6 xM19 (by rfl) (by rfl) rfl (by show 0 + 1 ≤ 7; decide) (by simp [Value.oneCell']) ?_
          intro w20 xM20 hg20 hz20
          have xM20 : Box w20 gM 29 [.slice a19 (ps0.length + 1) c19, .slice a1 n1 c1, .slice ad nd cd, .slice ac nc cc, .slice an nn cn, .slice af2 nf cf, .slice aw nw cw] := xM20
          simp only [Act.put, List.setIfInBounds_toArray, List.set_cons_succ, List.set_cons_zero]
          have hUM : gU ≠ gM := by have := hgM.out; omega
          have xU20 := xU19.grown hg20 (fun e => hUM (by injection e))
          have hgM14 : w14.heap.size ≤ gM := by have h1 := hgM.out; have h2 := hgU.out; omega
          have hb1420 : Below w14.heap.size w14 w20 := (HBY15.out.trans (hb19.mono HBY15.out.size)).grown hg20 (HBY15.out.trans (hb19.mono HBY15.out.size)).size (fun k hk => by cases hk; exact hgM14)
          have hTu20 := Hm.out.below hb1420
          have hB20 := hB14.trans (hb1420.mono hB14.size)
          have hs920 := hs19.grown hg20 (fun p hp e => by cases hp; injection e with e; have h1 := hb19.size; have h2 : w16.heap.size = gM := e; omega)
          have hO20 := hO19.sl.grown hg20 (fun p hp e => by
            subst hp
            have h1 := hO19.base.1
            injection e with e
            omega)
          obtain ⟨Hq, hHq⟩ : ∃ H : TH, H = ⟨(a19, ps0.length + 1, c19), (a1, n1, c1), ps0 ++ [q], ps1, (ad, nd, cd), (ac, nc, cc), (an, nn, cn), (af2, nf, cf), (aw, nw, cw)⟩ := ⟨_, rfl⟩
          obtain ⟨Hu, hHu⟩ : ∃ H : TH, H = ⟨(a0, ps0.length, c0), (a1, n1, c1), ps0, ps1, (ad, nd, cd), (ac, nc, cc), (an, nn, cn), (af2, nf, cf), (aw, nw, cw)⟩ := ⟨_, rfl⟩
          have hTq : TaIs w20 Hq (moreT tu) := by
            rw [hHq]
            refine ⟨⟨by rw [List.flatMap_append, List.flatMap_singleton]; exact hO20, fun p hp => ?_⟩, hTu20.l1, ?_, hTu20.e1, hTu20.d, hTu20.c, hTu20.n, hTu20.f, hTu20.s⟩
            · rcases List.mem_append.1 hp with hp | hp
              · exact hTu20.l0.row p hp
              · rw [List.mem_singleton] at hp
                subst hp
                rw [HQ.out]
                exact ⟨hs920, (by decide : (3 : Nat) ≤ 1000)⟩
            · show rus (ps0 ++ [q]) = tu.l0 ++ [qqq]
              have h := hTu20.e0
              have h : rus ps0 = tu.l0 := h
              unfold rus at h ⊢
              rw [List.map_append, h, HQ.out]
              rfl
          have hTu20 : TaIs w20 Hu tu := by rw [hHu]; exact hTu20
          have xU20 : Box w20 gU 29 (tcells Hu) := by rw [hHu]; exact xU20
          have xM20 : Box w20 gM 29 (tcells Hq) := by rw [hHq]; exact xM20
          clear hHq hHu hO19 hO20 hs19 hs920 hg20 hz20 xU19 xM19 hb19 hUM hz16 hTu Hm HBY15 hB14 hb1420 hgM14 hgU15 hgM15 HQ HRQ hpl HPU
          obtain ⟨S, HSS⟩ : ∃ S, Hid (symsL l = S) := ⟨_, hide rfl⟩
          have hSok := symsL_ok l
          have hSq : ∀ x ∈ symsL l, low x.c ≠ 113 := symsS_q (fun x => aroundF_lt (by decide)) l [] 0 (fun x h => by cases h)
          rw [HSS.out] at hSok hSq
          have hS24 := hSok.2
          have hS24' : S.length ≤ 1000000 := by omega
          have HSQ := hide hSq
          clear hSok hSq
          have hSy := hide (fun w' (h : Sl w' 1 a ln lc (l.map I64)) => ref_Syms l HL64.out a ln lc w' h)
          rw [HSS.out] at hSy
          have hsa := HS.out.below hB20
          go_wp2_with (go_at_call 16; refine (hSy.out w20 hsa).mono ?_; rintro e w21 ⟨aS, cS, rfl, hOS, hb21⟩; refine hold ?_)
          refine hide ?_
          have hSS := hOS.sl
          have xU21 := xU20.under hb21
          have xM21 := xM20.under hb21
          have hTu21 := hTu20.below hb21
          have hTq21 := hTq.below hb21
          have hB21 := hB20.trans (hb21.mono hB20.size)
          clear hSy hsa hOS xU20 xM20 hTu20 hTq hB20 hb21
          have hbL := Below.refl w21.heap.size w21
          go_wp2_with fail
          go_loopg [28] S.length (fun gh v w' => ∃ i : Nat, i ≤ S.length ∧ gh = S.length - i ∧ v = .int .i64 (i : Int) ∧ Below w21.heap.size w21 w')
          case atStart => exact ⟨0, Nat.zero_le _, rfl, rfl, hbL⟩
          case round =>
            clear hbL
            obtain ⟨i, hi, hgi, rfl, hbi⟩ := hrel
            have HGI := hide hgi
            clear hgi
            by_cases hiS : i < S.length
            · have f2 : decide (i < S.length) = true := decide_eq_true hiS
              have f2' : decide ((i : Int) < (S.length : Int)) = true := decide_eq_true (by omega)
              obtain ⟨L, HL⟩ : ∃ L, Hid (stepsL tu ⟨0, false, false⟩ S (i : Int) = L) := ⟨_, hide rfl⟩
              have HL2 : Hid (stepsL (moreT tu) ⟨0, false, false⟩ S (i : Int) = L) := hide (by rw [← HL.out]; exact steps_more HGU.out.g.ok HGU.out.few HGU.out.noq _ HSQ.out _)
              have hL1000 : L.length ≤ 1000 := by rw [← HL.out]; exact steps_few _ _ _ _
              have hXUr := xU21.under hbi
              have hXMr := xM21.under hbi
              have hTur := hTu21.below hbi
              have hTqr := hTq21.below hbi
              have hSr := hSS.below hbi
              go_wp2_with fail
              refine wp_region_free 13 [⟨0, 172, [172], fun vs _ => vs = [Hu.v]⟩, ⟨1, 173, [173], fun vs _ => vs = [.agg #[.int .i64 0, .bool false, .bool false]]⟩, ⟨2, 174, [174], fun vs _ => vs = [.slice aS S.length cS]⟩, ⟨3, 175, [175], fun vs _ => vs = [.int .i64 (i : Int)]⟩, ⟨4, 176, [176], FStn L.length L⟩, ⟨5, 177, [177], FStn L.length L⟩, ⟨6, 178, [178], fun vs _ => vs = [Hq.v]⟩, ⟨7, 179, [179], fun vs _ => vs = [.agg #[.int .i64 0, .bool false, .bool false]]⟩, ⟨8, 180, [180], fun vs _ => vs = [.slice aS S.length cS]⟩, ⟨9, 181, [181], fun vs _ => vs = [.int .i64 (i : Int)]⟩, ⟨10, 182, [182], FStn L.length L⟩, ⟨11, 183, [183], FStn L.length L⟩, ⟨12, 184, [184], fun vs _ => vs = [.bool true]⟩] (by kernel_rfl) (by kernel_rfl) ?_ ?_ ?_
              · simp only [All]
                refine ⟨fun _ _ _ _ h => h, fun _ _ _ _ h => h, fun _ _ _ _ h => h, fun _ _ _ _ h => h, ?_, ?_, fun _ _ _ _ h => h, fun _ _ _ _ h => h, fun _ _ _ _ h => h, fun _ _ _ _ h => h, ?_, ?_, fun _ _ _ _ h => h, trivial⟩
                · exact fun _ _ _ hb h => h.below hb
                · exact fun _ _ _ hb h => h.below hb
                · exact fun _ _ _ hb h => h.below hb
                · exact fun _ _ _ hb h => h.below hb
              · simp only [All]
                refine ⟨?_, ?_, ?_, ?_, ?_, ?_, ?_, ?_, ?_, ?_, ?_, ?_, ?_, trivial⟩
                · intro o ho a' w' hb hfr hdep
                  obtain rfl := oj ho
                  have g25 : a'.tmps[25]?.getD undef = .pointer (some ⟨gU, 0, none⟩) := by simpa using hfr 25 (by kernel_rfl)
                  clear ho hfr hdep; refine load_struct 172 29 _ 7 size_tables _ Tryd.underlying29 ⟨gU, 0, none⟩ (by show a'.tmps.getD 25 undef = _; simpa using g25) (tcells Hu) rfl (fun j u hj => by rw [Addr.add_lit, Nat.zero_add]; exact (hXUr.under hb).at_ hj) ?_
                  exact ⟨rfl, _, rfl, br, rfl⟩
                · intro o ho a' w' hb hfr hdep
                  obtain rfl := oj ho
                  clear ho hfr hdep; go_wp2_with fail; exact ⟨rfl, _, rfl, br, rfl⟩
                · intro o ho a' w' hb hfr hdep
                  obtain rfl := oj ho
                  have g27 : a'.tmps[27]?.getD undef = .slice aS S.length cS := by simpa using hfr 27 (by kernel_rfl)
                  clear ho hfr hdep; go_wp2_with fail; exact ⟨rfl, _, rfl, br, rfl⟩
                · intro o ho a' w' hb hfr hdep
                  obtain rfl := oj ho
                  have g28 : a'.tmps[28]?.getD undef = .int .i64 (i : Int) := by simpa using hfr 28 (by kernel_rfl)
                  clear ho hfr hdep; go_wp2_with fail; exact ⟨rfl, _, rfl, br, rfl⟩
                · intro o ho a' w' hb hfr hdep
                  obtain rfl := oj ho
                  have g172 : a'.tmps[172]?.getD undef = Hu.v := by simpa using hdep 0 _ rfl (by kernel_rfl)
                  have g173 : a'.tmps[173]?.getD undef = .agg #[.int .i64 0, .bool false, .bool false] := by simpa using hdep 1 _ rfl (by kernel_rfl)
                  have g174 : a'.tmps[174]?.getD undef = .slice aS S.length cS := by simpa using hdep 2 _ rfl (by kernel_rfl)
                  have g175 : a'.tmps[175]?.getD undef = .int .i64 (i : Int) := by simpa using hdep 3 _ rfl (by kernel_rfl)
                  clear ho hfr hdep; go_wp2_with fail
                  refine (steps_of Hu tu ⟨0, false, false⟩ S (i : Int) HL.out _ _ _ hS24' _ (hTur.below hb) (hSr.below hb)).mono ?_
                  rintro e w2 ⟨a, c, ps, rfl, h1, h2⟩
                  go_wp2_with fail
                  exact ⟨rfl, _, rfl, h2, a, c, ps, rfl, h1⟩
                · intro o ho a' w' hb hfr hdep
                  obtain rfl := oj ho
                  obtain ⟨a176, c176, ps176, g176, hs176⟩ := hdep 4 _ rfl (by kernel_rfl)
                  replace g176 : a'.tmps[176]?.getD undef = .slice a176 L.length c176 := by simpa using g176
                  clear ho hfr hdep; go_wp2_with fail
                  refine (law_plain L ps176 a176 L.length c176 hL1000 _ hs176).mono ?_
                  rintro e w2 ⟨a, c, ps, rfl, h1, h2⟩
                  go_wp2_with fail
                  exact ⟨rfl, _, rfl, h2, a, c, ps, rfl, h1⟩
                · intro o ho a' w' hb hfr hdep
                  obtain rfl := oj ho
                  have g26 : a'.tmps[26]?.getD undef = .pointer (some ⟨gM, 0, none⟩) := by simpa using hfr 26 (by kernel_rfl)
                  clear ho hfr hdep; refine load_struct 178 29 _ 7 size_tables _ Tryd.underlying29 ⟨gM, 0, none⟩ (by show a'.tmps.getD 26 undef = _; simpa using g26) (tcells Hq) rfl (fun j u hj => by rw [Addr.add_lit, Nat.zero_add]; exact (hXMr.under hb).at_ hj) ?_
                  exact ⟨rfl, _, rfl, br, rfl⟩
                · intro o ho a' w' hb hfr hdep
                  obtain rfl := oj ho
                  clear ho hfr hdep; go_wp2_with fail; exact ⟨rfl, _, rfl, br, rfl⟩
                · intro o ho a' w' hb hfr hdep
                  obtain rfl := oj ho
                  have g27 : a'.tmps[27]?.getD undef = .slice aS S.length cS := by simpa using hfr 27 (by kernel_rfl)
                  clear ho hfr hdep; go_wp2_with fail; exact ⟨rfl, _, rfl, br, rfl⟩
                · intro o ho a' w' hb hfr hdep
                  obtain rfl := oj ho
                  have g28 : a'.tmps[28]?.getD undef = .int .i64 (i : Int) := by simpa using hfr 28 (by kernel_rfl)
                  clear ho hfr hdep; go_wp2_with fail; exact ⟨rfl, _, rfl, br, rfl⟩
                · intro o ho a' w' hb hfr hdep
                  obtain rfl := oj ho
                  have g178 : a'.tmps[178]?.getD undef = Hq.v := by simpa using hdep 6 _ rfl (by kernel_rfl)
                  have g179 : a'.tmps[179]?.getD undef = .agg #[.int .i64 0, .bool false, .bool false] := by simpa using hdep 7 _ rfl (by kernel_rfl)
                  have g180 : a'.tmps[180]?.getD undef = .slice aS S.length cS := by simpa using hdep 8 _ rfl (by kernel_rfl)
                  have g181 : a'.tmps[181]?.getD undef = .int .i64 (i : Int) := by simpa using hdep 9 _ rfl (by kernel_rfl)
                  clear ho hfr hdep; go_wp2_with fail
                  refine (steps_of Hq (moreT tu) ⟨0, false, false⟩ S (i : Int) HL2.out _ _ _ hS24' _ (hTqr.below hb) (hSr.below hb)).mono ?_
                  rintro e w2 ⟨a, c, ps, rfl, h1, h2⟩
                  go_wp2_with fail
                  exact ⟨rfl, _, rfl, h2, a, c, ps, rfl, h1⟩
                · intro o ho a' w' hb hfr hdep
                  obtain rfl := oj ho
                  obtain ⟨a182, c182, ps182, g182, hs182⟩ := hdep 10 _ rfl (by kernel_rfl)
                  replace g182 : a'.tmps[182]?.getD undef = .slice a182 L.length c182 := by simpa using g182
                  clear ho hfr hdep; go_wp2_with fail
                  refine (law_plain L ps182 a182 L.length c182 hL1000 _ hs182).mono ?_
                  rintro e w2 ⟨a, c, ps, rfl, h1, h2⟩
                  go_wp2_with fail
                  exact ⟨rfl, _, rfl, h2, a, c, ps, rfl, h1⟩
                · intro o ho a' w' hb hfr hdep
                  obtain rfl := oj ho
                  obtain ⟨a177, c177, ps177, g177, hs177⟩ := hdep 5 _ rfl (by kernel_rfl)
                  replace g177 : a'.tmps[177]?.getD undef = .slice a177 L.length c177 := by simpa using g177
                  obtain ⟨a183, c183, ps183, g183, hs183⟩ := hdep 11 _ rfl (by kernel_rfl)
                  replace g183 : a'.tmps[183]?.getD undef = .slice a183 L.length c183 := by simpa using g183
                  clear ho hfr hdep; go_wp2_with fail
                  refine (ref_SameSteps L ps177 ps183 a177 a183 L.length c177 c183 hL1000 _ hs177 hs183).mono ?_
                  rintro e w2 ⟨rfl, h2⟩
                  go_wp2_with fail
                  exact ⟨rfl, _, rfl, h2, rfl⟩
              · intro g w24 hb24 hp
                have p184 : g 184 = .bool true := by have h := hp 12 _ rfl; simpa using h
                clear hp
                simp only [List.drop_succ_cons, List.drop_zero, List.map_cons, List.map_nil, putAll, Act.put, List.setIfInBounds_toArray, List.set_cons_succ, List.set_cons_zero, p184]
                clear p184
                have hbz := hbi.trans (hb24.mono hbi.size)
                clear hXUr hXMr hTur hTqr hSr hb24
                go_wp2_with fail
                go_roundg (S.length - (i + 1))
                case measure => have := HGI.out; omega
                case rel => exact ⟨i + 1, by omega, rfl, by go_num, hbz⟩

            · obtain rfl : i = S.length := by omega
              have f2' : decide ((S.length : Int) < (S.length : Int)) = false := by simp
              have hBz := hB21.trans (hbi.mono hB21.size)
              clear hSS xU21 xM21 hTu21 hTq21 hB21 hbi
              go_wp2_with (go_at_call 20; refine (law06_lives wr).mono ?_; rintro e w25 ⟨rfl, hb25⟩; refine hold ?_)
              refine hide ?_
              have hBf := hBz.trans (hb25.mono hBz.size)
              go_wp2_with fail
              go_ret
              exact ⟨rfl, hBf⟩

end Go.Proofs.YtfagjaabladgpaaDoor
