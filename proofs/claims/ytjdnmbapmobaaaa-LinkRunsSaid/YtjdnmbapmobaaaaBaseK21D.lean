/- The contracts of the functions that the law reaches, joined into one text. -/
import Derived.Test.YtjdnmbapmobaaaaBaseK21C
import Derived.Lib.MinMax
import Derived.Lib.SliceRun
import Derived.Lib.SlBytesConst
set_option linter.unusedVariables false
set_option linter.unusedSimpArgs false

/- the text K10 -/
section
/- Chapter 37: Out. -/
set_option linter.unusedVariables false
namespace Go.Proofs.Ytjdnmbapmobaaaa
open Go.RowKit Go.Dx Go.Al
theorem run_hi_e (w : World) (a : Option Addr) (n c : Nat) (ku : IntKind) (u : Nat) (hun : u ≤ c) : (Instr.sliceAt 28 (.slice a n c) none (some (.int ku (u : Int))) none).run Try.prog w = .ok (.slice a u c) w := by
  obtain ⟨i0, hi0, hs0⟩ := Option.map_eq_some_iff.1 (show (Try.prog.info? 33).map (·.size) = some 1 by kernel_rfl)
  have h3 : (0 : Int) ≤ u ∧ (u : Int) ≤ c := by omega
  simp [Instr.sliceAt, Instr.slice, Instr.sliceBounds, Instr.sliceBound, asIntOf, run_underlying Try.underlying28, sizeOf, typeInfo, hi0, h3, hun]
  intro _
  cases a with
  | none => rfl
  | some p => simp [Addr.add]
theorem cut_hi_e {w : World} {ops : Array Oper} {rest : List Oper} {act : Act} {Q : Exit → Act → World → Prop} {ty : TypeId} {pos : String} {after : Array Edge} (d : Nat) (x hi : Operand)
    (a : Option Addr) (n c : Nat) (hx : act.eval x = .slice a n c) (ku : IntKind) (u : Nat) (hu : act.eval hi = .int ku (u : Int)) (hun : u ≤ c)
    (hK : wpList Try.prog ops Q rest (act.put (some d) (.slice a u c)) w) :
    wpList Try.prog ops Q ({ dst := some d, op := .slice 28 x none (some hi) none, type := ty, pos := pos, after := after, guard := none } :: rest) act w := by
  refine wpList_plain rfl fun K hK' => ?_
  obtain ⟨i0, hi0, hs0⟩ := Option.map_eq_some_iff.1 (show (Try.prog.info? 33).map (·.size) = some 1 by kernel_rfl)
  have hrun := run_hi_e w a n c ku u hun
  unfold Oper.wp
  simp only [execOp, Option.map_none, Option.map_some, hx, hu, Sem.run_bind, hrun, Result.andThen, Sem.run_pure]
  exact hK' _ _ hK
theorem quiet_hi_e {w : World} {ops : Array Oper} {rest : List Oper} {act : Act} {Q : Act → Prop} {ty : TypeId} {pos : String} {after : Array Edge} (d : Nat) (x hi : Operand)
    (a : Option Addr) (n c : Nat) (hx : act.eval x = .slice a n c) (ku : IntKind) (u : Nat) (hu : act.eval hi = .int ku (u : Int)) (hun : u ≤ c)
    (hK : wpQuiet Try.prog ops (fun w' => ∃ n, w' = w.drewN n) Q rest (act.put (some d) (.slice a u c))) :
    wpQuiet Try.prog ops (fun w' => ∃ n, w' = w.drewN n) Q ({ dst := some d, op := .slice 28 x none (some hi) none, type := ty, pos := pos, after := after, guard := none } :: rest) act := by
  refine quiet_val rfl _ (fun m => ?_) hK
  have hrun := run_hi_e (w.drewN m) a n c ku u hun
  simp only [execOp, Option.map_none, Option.map_some, hx, hu, Sem.run_bind, hrun, Result.andThen, Sem.run_pure]
/-- rows that a call owns, each in a block of its own -/
structure ORows (w : World) (B : Nat) (hs : List Hd) (p : List (List UInt8)) : Prop where
  len : hs.length = p.length
  row : ∀ (i : Nat) (h : Hd) (r : List UInt8), hs[i]? = some h → p[i]? = some r → Own w B 5 1 h.1 h.2.1 h.2.2 (r.map B8)
  apart : ∀ (i j : Nat) (x y : Hd), hs[i]? = some x → hs[j]? = some y → i ≠ j → ∀ q q', x.1 = some q → y.1 = some q' → q.block ≠ q'.block
theorem ORows.nil (w : World) (B : Nat) : ORows w B [] [] := ⟨rfl, (fun i h r h1 => by cases h1), (fun i j x y h1 => by cases h1)⟩
theorem ORows.below {w w' : World} {B : Nat} {hs : List Hd} {p : List (List UInt8)} (h : ORows w B hs p) (hb : Below w.heap.size w w') : ORows w' B hs p :=
  ⟨h.len, fun i x r h1 h2 => (h.row i x r h1 h2).below hb, h.apart⟩
theorem ORows.kept {w w' : World} {B : Nat} {row : Option Nat} {hs : List Hd} {p : List (List UInt8)} (h : ORows w B hs p) (hg : w.grownBy w' row) (hn : ∀ b, row = some b → NoB w b) : ORows w' B hs p :=
  ⟨h.len, fun i x r h1 h2 => own_u8_kept (h.row i x r h1 h2) hg hn, h.apart⟩
theorem ORows.rows {w : World} {B : Nat} {hs : List Hd} {p : List (List UInt8)} (h : ORows w B hs p) : Rows w hs p :=
  ⟨h.len, fun i x r h1 h2 => ⟨(h.row i x r h1 h2).sl, own_kindB (h.row i x r h1 h2)⟩⟩
theorem ORows.push {w w' : World} {B B' : Nat} {hs : List Hd} {p : List (List UInt8)} {y : Hd} {r : List UInt8} (h : ORows w B hs p) (hb : Below w.heap.size w w') (hB : B ≤ B') (hB' : w.heap.size ≤ B') (hy : Own w' B' 5 1 y.1 y.2.1 y.2.2 (r.map B8)) : ORows w' B (hs ++ [y]) (p ++ [r]) := by
  have hlt : ∀ (i : Nat) (x : Hd), hs[i]? = some x → ∀ q, x.1 = some q → q.block < w.heap.size := fun i x hx q hq => by
    have hi := (List.getElem?_eq_some_iff.1 hx).1
    have := h.row i x _ hx (List.getElem?_eq_getElem (by rw [← h.len]; exact hi))
    exact (World.ownsRow.lt this _ (by rw [hq]; rfl)).2
  have hge : ∀ q, y.1 = some q → B' ≤ q.block := fun q hq => (World.ownsRow.lt hy _ (by rw [hq]; rfl)).1
  have sp : ∀ (i : Nat) (x : Hd), (hs ++ [y])[i]? = some x → (hs[i]? = some x ∧ i < hs.length) ∨ (x = y ∧ i = hs.length) := fun i x hx => by
    rw [List.getElem?_append] at hx
    by_cases hi : i < hs.length
    · rw [if_pos hi] at hx; exact .inl ⟨hx, hi⟩
    · rw [if_neg hi] at hx
      have := (List.getElem?_eq_some_iff.1 hx).1
      simp at this
      have e : i - hs.length = 0 := by omega
      rw [e] at hx
      simp at hx
      exact .inr ⟨hx.symm, by omega⟩
  refine ⟨by simp [h.len], fun i x s h1 h2 => ?_, fun i j x z h1 h2 hij q q' hq hq' => ?_⟩
  · rcases sp i x h1 with ⟨h3, hi⟩ | ⟨rfl, rfl⟩
    · rw [List.getElem?_append_left (by rw [← h.len]; exact hi)] at h2
      exact (h.row i x s h3 h2).below hb
    · rw [h.len, List.getElem?_append_right (Nat.le_refl _), Nat.sub_self] at h2
      simp at h2
      subst h2
      exact hy.mono hB
  · rcases sp i x h1 with ⟨h3, hi⟩ | ⟨rfl, rfl⟩
    · rcases sp j z h2 with ⟨h4, hj⟩ | ⟨rfl, rfl⟩
      · exact h.apart i j x z h3 h4 hij q q' hq hq'
      · have := hlt i x h3 q hq
        have := hge q' hq'
        omega
    · rcases sp j z h2 with ⟨h4, hj⟩ | ⟨rfl, rfl⟩
      · have := hlt j z h4 q' hq'
        have := hge q hq
        omega
      · exact absurd rfl hij
theorem outTo_succ (e : En) (k : Nat) : outTo e (k + 1) = outTo e k ++ [sealL e.key (pkB ⟨e.acked + k + 1, e.del, e.wait.getD k []⟩)] := by simp [outTo, List.range_succ]
theorem outTo_len (e : En) (k : Nat) : (outTo e k).length = k := by simp [outTo]
theorem pkB_le (s k : Int) (r : List UInt8) (hr : r.length ≤ 900) : (pkB ⟨s, k, r⟩).length ≤ 1000 := by
  unfold pkB
  have h1 := encInts_le [s, k]
  have h3 := encInt_le ((r.length : Nat) : Int)
  unfold encBytes
  simp only [List.length_append, List.length_cons, List.length_nil] at *
  omega
theorem size_bl : (Try.prog.info? 4).map (·.size) = some 1 := by kernel_rfl
theorem _root_.Go.Dx.Sl.nil0 (w : World) : Sl w 1 none 0 0 (([] : List UInt8).map B8) := ⟨rfl, Nat.le_refl _, Nat.zero_le _, (fun _ => rfl), (fun p hp => by cases hp)⟩
theorem EndM.setbox {w w2 : World} {p : Nat} {a : Option Addr} {c : Nat} {hs : List Hd} {m : Nat} {ms : List (Nat × Hd)} {e : En} (h : EndM w p a c hs m ms e) (e' : En) (hw : e'.wait = e.wait) (hh : e'.held = e.held)
    (x : Box w2 p 65 [.int .i64 (e'.win : Int), V64 e'.key, .slice a e'.wait.length c, .int .i64 (e'.acked : Int), .int .i64 (e'.del : Int), .map (some m), .bool e'.ow, .int .i64 (e'.forged : Int)]) (g2 : w.grownBy w2 (some p)) : EndM w2 p a c hs m ms e' :=
  h.step ⟨rfl, rfl, rfl, Nat.le_refl _, fun _ _ _ => rfl⟩ (by rw [hw]; exact h.top) (fun q hq => .inl ⟨q, hq, rfl⟩) (by rw [hw]; exact h.row) hh x g2
set_option maxRecDepth 100000 in
set_option maxHeartbeats 2000000 in
theorem lk_OutM (p : Nat) (aw : Option Addr) (cw : Nat) (hs' : List Hd) (m : Nat) (ms : List (Nat × Hd)) (e : En) (w : World) (h : EndM w p aw cw hs' m ms e) (hwl : e.wait.length ≤ 1000) (hrl : ∀ r ∈ e.wait, r.length ≤ 900) (hdl : e.del ≤ 100000) (hal : e.acked ≤ 100000) (hwin : e.win ≤ 16) :
    Calls Try.prog 13 #[.pointer (some ⟨p, 0, none⟩)] w fun r w' => ∃ a c hs, r = .returned (.slice a (outE e).length c) ∧ Own w' w.heap.size 33 1 a (outE e).length c (hs.map hv) ∧ ORows w' w.heap.size hs (outE e) ∧ EndM w' p aw cw hs' m ms (outS e) ∧ Fr [p] w w' := by
  obtain ⟨win, key, wait, acked, del, held, ow, forged⟩ := e
  obtain ⟨k, hk⟩ : ∃ k, Hid (wait.length = k) := ⟨_, rfl⟩
  have hk2 : k ≤ 1000 := by rw [← hk.out]; exact hwl
  have HR := hide hrl
  have HD := hide hdl
  have HA := hide hal
  have HW := hide hwin
  have hx := h.box
  simp only [hk.out] at hx
  have c0 := hide (hx.at_ (j := 0) rfl)
  have c1 := hide (hx.at_ (j := 1) rfl)
  have c2 := hide (hx.at_ (j := 2) rfl)
  have c3 := hide (hx.at_ (j := 3) rfl)
  have c4 := hide (hx.at_ (j := 4) rfl)
  have c6 := hide (hx.at_ (j := 6) rfl)
  have h0 := hide h
  clear hx h hwl hrl hdl hal hwin
  have h := h0
  clear h0
  obtain ⟨E0, hE0⟩ : ∃ E0, Hid (E0 = (⟨win, key, wait, acked, del, held, ow, forged⟩ : En)) := ⟨_, rfl⟩
  obtain ⟨K, hK⟩ : ∃ K, Hid (min k win = K) := ⟨_, rfl⟩
  have hKk : K ≤ k := by rw [← hK.out]; omega
  have hkc : K ≤ cw := by have := h.out.top.sl.le; have h2 : wait.length = k := hk.out; simp only at this; omega
  have hKm : min (k : Int) (win : Int) = (K : Int) := by rw [← hK.out]; omega
  go_enter Try.func13, Try.ntmps13
  go_wp2_with fail
  have hb : Hid (∀ n, Below w.heap.size w (w.drewN n)) := hide (fun n => Still.below n)
  have q0 := c0.out
  have q2 := c2.out
  go_quiet (refine quiet_hi_e 20 _ _ aw k cw rfl .i64 K rfl hkc ?_)
  have b2 := hb.out nq
  clear q0 q2 hb
  generalize w.drewN nq = w2 at *
  go_wp2_with fail
  go_loopg [3, 22] K (fun gh v3 v22 w' => ∃ (i : Nat) (a : Option Addr) (c : Nat) (hs : List Hd), i ≤ K ∧ gh = K - i ∧ v3 = .slice a i c ∧ v22 = .int .i64 (i : Int) ∧ Own w' w.heap.size 33 1 a i c (hs.map hv) ∧ ORows w' w.heap.size hs (outTo E0 i) ∧ Below w.heap.size w w')
  case atStart => exact ⟨0, none, 0, [], by omega, by omega, rfl, rfl, Own.nil _ _ _ _, ORows.nil _ _, b2⟩
  case round =>
    clear b2
    obtain ⟨i, aO, cO, hO, hiK, hg, rfl, rfl, oO, rO, hbw⟩ := hrel
    have HG := hide hg
    have oO0 := hide oO
    have rO0 := hide rO
    have hbw0 := hide hbw
    clear hg oO rO hbw
    have oO := oO0
    have rO := rO0
    have hbw := hbw0
    clear oO0 rO0 hbw0
    by_cases hlt : i < K
    · have d0 : decide ((i : Int) < (K : Int)) = true := decide_eq_true (by omega)
      obtain ⟨r, hr⟩ : ∃ r, wait[i]? = some r := ⟨_, List.getElem?_eq_getElem (by have := hk.out; omega)⟩
      obtain ⟨⟨ya, yn, yc⟩, hy⟩ : ∃ y, hs'[i]? = some y := ⟨_, List.getElem?_eq_getElem (by have h1 : hs'.length = wait.length := h.out.row.1; have := hk.out; omega)⟩
      obtain ⟨gw, rfl⟩ := own_zero h.out.top (by have := hk.out; show 0 < wait.length; omega)
      have hE := h.out.below hbw.out
      have q25 : wr.cell? ⟨gw, i, none⟩ = some (.slice ya yn yc) := by
        have h1 := hE.top.sl.cell _ rfl i (hv (ya, yn, yc)) (box_at hy)
        rw [Addr.add_lit, Nat.zero_add] at h1
        exact h1
      have sy := hide ((hE.row.2 i _ r hy hr).1)
      have hrl := HR.out r (List.mem_of_getElem? hr)
      have hdl := HD.out
      have hal := HA.out
      obtain ⟨PK, hPK⟩ : ∃ PK : Pk, Hid (PK = ⟨(acked : Int) + (i : Int) + 1, (del : Int), r⟩) := ⟨_, rfl⟩
      obtain ⟨X, HX⟩ : ∃ X, Hid (pkB PK = X) := ⟨_, rfl⟩
      obtain ⟨R, HR0⟩ : ∃ R, Hid (sealL key X = R) := ⟨_, rfl⟩
      have hXl : Hid (X.length ≤ 1000) := hide (by rw [← HX.out, hPK.out]; exact pkB_le _ _ r hrl)
      have HT : Hid (outTo E0 (i + 1) = outTo E0 i ++ [R]) := hide (by
        rw [outTo_succ, hE0.out, ← HR0.out, ← HX.out, hPK.out]
        have e1 : wait.getD i [] = r := by rw [List.getD_eq_getElem?_getD, hr]; rfl
        simp only [e1])
      have HBY : Hid (∀ a n c w, Sl w 1 a n c (r.map B8) → Calls Try.prog 33 #[.agg #[.int .i64 ((acked : Int) + (i : Int) + 1), .int .i64 (del : Int), .slice a n c]] w (Gives 5 1 X.length (X.map B8) w)) := hide (fun a n c w hs => lk_bytes ⟨(acked : Int) + (i : Int) + 1, (del : Int), r⟩ (by show _ ≤ (acked : Int) + (i : Int) + 1 ∧ (acked : Int) + (i : Int) + 1 ≤ _; omega) (by show _ ≤ (del : Int) ∧ (del : Int) ≤ _; omega) hrl a n c w hs (by rw [← HX.out, hPK.out]))
      clear hr hy hE hrl hdl HX hPK PK
      go_wp2_with fail
      refine wp_region_free 21 [⟨0, 27, [27], fun vs _ => vs = [.slice aO i cO]⟩, ⟨1, 28, [28], fun vs _ => vs = [.pointer (some ⟨p, 0, none⟩)]⟩, ⟨2, 29, [29], fun vs _ => vs = [.pointer (some ⟨p, 0, none⟩)]⟩, ⟨3, 30, [30], fun vs _ => vs = [.pointer (some ⟨p, 1, none⟩)]⟩, ⟨4, 31, [31], fun vs _ => vs = [V64 key]⟩, ⟨5, 32, [32], fun vs _ => vs = [.pointer (some ⟨p, 0, none⟩)]⟩, ⟨6, 33, [33], fun vs _ => vs = [.pointer (some ⟨p, 0, none⟩)]⟩, ⟨7, 34, [34], fun vs _ => vs = [.pointer (some ⟨p, 3, none⟩)]⟩, ⟨8, 35, [35], fun vs _ => vs = [.int .i64 (acked : Int)]⟩, ⟨9, 36, [36], fun vs _ => vs = [.int .i64 (i : Int)]⟩, ⟨10, 37, [37], fun vs _ => vs = [.int .i64 ((acked : Int) + (i : Int))]⟩, ⟨11, 38, [38], fun vs _ => vs = [.int .i64 ((acked : Int) + (i : Int) + 1)]⟩, ⟨12, 39, [39], fun vs _ => vs = [.pointer (some ⟨p, 0, none⟩)]⟩, ⟨13, 40, [40], fun vs _ => vs = [.pointer (some ⟨p, 0, none⟩)]⟩, ⟨14, 41, [41], fun vs _ => vs = [.pointer (some ⟨p, 4, none⟩)]⟩, ⟨15, 42, [42], fun vs _ => vs = [.int .i64 (del : Int)]⟩, ⟨16, 43, [43], fun vs _ => vs = [.slice ya yn yc]⟩, ⟨17, 44, [44], fun vs _ => vs = [.agg #[.int .i64 ((acked : Int) + (i : Int) + 1), .int .i64 (del : Int), .slice ya yn yc]]⟩, ⟨18, 45, [45], fun vs w' => ∃ a c, vs = [.slice a X.length c] ∧ Sl w' 1 a X.length c (X.map B8)⟩, ⟨19, 46, [46], fun vs w' => ∃ a c, vs = [.slice a R.length c] ∧ Own w' wr.heap.size 5 1 a R.length c (R.map B8)⟩, ⟨20, 47, [47], fun vs w' => ∃ gB a c, vs = [.slice (some ⟨gB, 0, none⟩) 1 1] ∧ Sl w' 1 (some ⟨gB, 0, none⟩) 1 1 [.slice a R.length c] ∧ Own w' wr.heap.size 5 1 a R.length c (R.map B8)⟩] (by kernel_rfl) (by kernel_rfl) ?_ ?_ ?_
      · simp only [All]
        refine ⟨fun _ _ _ _ h => h, fun _ _ _ _ h => h, fun _ _ _ _ h => h, fun _ _ _ _ h => h, fun _ _ _ _ h => h, fun _ _ _ _ h => h, fun _ _ _ _ h => h, fun _ _ _ _ h => h, fun _ _ _ _ h => h, fun _ _ _ _ h => h, fun _ _ _ _ h => h, fun _ _ _ _ h => h, fun _ _ _ _ h => h, fun _ _ _ _ h => h, fun _ _ _ _ h => h, fun _ _ _ _ h => h, fun _ _ _ _ h => h, fun _ _ _ _ h => h, ?_, ?_, ?_, trivial⟩
        · rintro vs w w' hb ⟨a, c, h1, h2⟩
          exact ⟨a, c, h1, h2.below hb⟩
        · rintro vs w w' hb ⟨a, c, h1, h2⟩
          exact ⟨a, c, h1, h2.below hb⟩
        · rintro vs w w' hb ⟨gB, a, c, h1, h2, h3⟩
          exact ⟨gB, a, c, h1, h2.below hb, h3.below hb⟩
      · simp only [All]
        refine ⟨?_, ?_, ?_, ?_, ?_, ?_, ?_, ?_, ?_, ?_, ?_, ?_, ?_, ?_, ?_, ?_, ?_, ?_, ?_, ?_, ?_, trivial⟩
        · intro o ho a' w' hb hfr hdep
          obtain rfl := Option.some.inj ho
          have g3 : a'.tmps[3]?.getD undef = .slice aO i cO := by have h := hfr 3 (by kernel_rfl); simpa using h
          clear ho hfr hdep
          go_wp2_with fail
          exact ⟨rfl, _, rfl, Below.refl _ _, rfl⟩
        · intro o ho a' w' hb hfr hdep
          obtain rfl := Option.some.inj ho
          have g0 : a'.tmps[0]?.getD undef = .pointer (some ⟨p, 0, none⟩) := by have h := hfr 0 (by kernel_rfl); simpa using h
          clear ho hfr hdep
          go_wp2_with fail
          exact ⟨rfl, _, rfl, Below.refl _ _, rfl⟩
        · intro o ho a' w' hb hfr hdep
          obtain rfl := Option.some.inj ho
          have g28 : a'.tmps[28]?.getD undef = .pointer (some ⟨p, 0, none⟩) := by have h := hdep 1 _ rfl (by kernel_rfl); simpa using h
          clear ho hfr hdep
          go_wp2_with fail
          exact ⟨rfl, _, rfl, Below.refl _ _, rfl⟩
        · intro o ho a' w' hb hfr hdep
          obtain rfl := Option.some.inj ho
          have g29 : a'.tmps[29]?.getD undef = .pointer (some ⟨p, 0, none⟩) := by have h := hdep 2 _ rfl (by kernel_rfl); simpa using h
          clear ho hfr hdep
          go_wp2_with fail
          exact ⟨rfl, _, rfl, Below.refl _ _, rfl⟩
        · intro o ho a' w' hb hfr hdep
          obtain rfl := Option.some.inj ho
          have g30 : a'.tmps[30]?.getD undef = .pointer (some ⟨p, 1, none⟩) := by have h := hdep 3 _ rfl (by kernel_rfl); simpa using h
          clear ho hfr hdep
          have hcl := cell_blw c1.out (hbw.out.trans (hb.mono hbw.out.size))
          go_wp2_with fail
          exact ⟨rfl, _, rfl, Below.refl _ _, rfl⟩
        · intro o ho a' w' hb hfr hdep
          obtain rfl := Option.some.inj ho
          have g0 : a'.tmps[0]?.getD undef = .pointer (some ⟨p, 0, none⟩) := by have h := hfr 0 (by kernel_rfl); simpa using h
          clear ho hfr hdep
          go_wp2_with fail
          exact ⟨rfl, _, rfl, Below.refl _ _, rfl⟩
        · intro o ho a' w' hb hfr hdep
          obtain rfl := Option.some.inj ho
          have g32 : a'.tmps[32]?.getD undef = .pointer (some ⟨p, 0, none⟩) := by have h := hdep 5 _ rfl (by kernel_rfl); simpa using h
          clear ho hfr hdep
          go_wp2_with fail
          exact ⟨rfl, _, rfl, Below.refl _ _, rfl⟩
        · intro o ho a' w' hb hfr hdep
          obtain rfl := Option.some.inj ho
          have g33 : a'.tmps[33]?.getD undef = .pointer (some ⟨p, 0, none⟩) := by have h := hdep 6 _ rfl (by kernel_rfl); simpa using h
          clear ho hfr hdep
          go_wp2_with fail
          exact ⟨rfl, _, rfl, Below.refl _ _, rfl⟩
        · intro o ho a' w' hb hfr hdep
          obtain rfl := Option.some.inj ho
          have g34 : a'.tmps[34]?.getD undef = .pointer (some ⟨p, 3, none⟩) := by have h := hdep 7 _ rfl (by kernel_rfl); simpa using h
          clear ho hfr hdep
          have hcl := cell_blw c3.out (hbw.out.trans (hb.mono hbw.out.size))
          go_wp2_with fail
          exact ⟨rfl, _, rfl, Below.refl _ _, rfl⟩
        · intro o ho a' w' hb hfr hdep
          obtain rfl := Option.some.inj ho
          have g4 : a'.tmps[4]?.getD undef = .int .i64 (i : Int) := by have h := hfr 4 (by kernel_rfl); simpa using h
          clear ho hfr hdep
          go_wp2_with fail
          exact ⟨rfl, _, rfl, Below.refl _ _, rfl⟩
        · intro o ho a' w' hb hfr hdep
          obtain rfl := Option.some.inj ho
          have g35 : a'.tmps[35]?.getD undef = .int .i64 (acked : Int) := by have h := hdep 8 _ rfl (by kernel_rfl); simpa using h
          have g36 : a'.tmps[36]?.getD undef = .int .i64 (i : Int) := by have h := hdep 9 _ rfl (by kernel_rfl); simpa using h
          clear ho hfr hdep
          go_wp2_with fail
          exact ⟨rfl, _, rfl, Below.refl _ _, rfl⟩
        · intro o ho a' w' hb hfr hdep
          obtain rfl := Option.some.inj ho
          have g37 : a'.tmps[37]?.getD undef = .int .i64 ((acked : Int) + (i : Int)) := by have h := hdep 10 _ rfl (by kernel_rfl); simpa using h
          clear ho hfr hdep
          go_wp2_with fail
          exact ⟨rfl, _, rfl, Below.refl _ _, rfl⟩
        · intro o ho a' w' hb hfr hdep
          obtain rfl := Option.some.inj ho
          have g0 : a'.tmps[0]?.getD undef = .pointer (some ⟨p, 0, none⟩) := by have h := hfr 0 (by kernel_rfl); simpa using h
          clear ho hfr hdep
          go_wp2_with fail
          exact ⟨rfl, _, rfl, Below.refl _ _, rfl⟩
        · intro o ho a' w' hb hfr hdep
          obtain rfl := Option.some.inj ho
          have g39 : a'.tmps[39]?.getD undef = .pointer (some ⟨p, 0, none⟩) := by have h := hdep 12 _ rfl (by kernel_rfl); simpa using h
          clear ho hfr hdep
          go_wp2_with fail
          exact ⟨rfl, _, rfl, Below.refl _ _, rfl⟩
        · intro o ho a' w' hb hfr hdep
          obtain rfl := Option.some.inj ho
          have g40 : a'.tmps[40]?.getD undef = .pointer (some ⟨p, 0, none⟩) := by have h := hdep 13 _ rfl (by kernel_rfl); simpa using h
          clear ho hfr hdep
          go_wp2_with fail
          exact ⟨rfl, _, rfl, Below.refl _ _, rfl⟩
        · intro o ho a' w' hb hfr hdep
          obtain rfl := Option.some.inj ho
          have g41 : a'.tmps[41]?.getD undef = .pointer (some ⟨p, 4, none⟩) := by have h := hdep 14 _ rfl (by kernel_rfl); simpa using h
          clear ho hfr hdep
          have hcl := cell_blw c4.out (hbw.out.trans (hb.mono hbw.out.size))
          go_wp2_with fail
          exact ⟨rfl, _, rfl, Below.refl _ _, rfl⟩
        · intro o ho a' w' hb hfr hdep
          obtain rfl := Option.some.inj ho
          have g5 : a'.tmps[5]?.getD undef = .slice ya yn yc := by have h := hfr 5 (by kernel_rfl); simpa using h
          clear ho hfr hdep
          go_wp2_with fail
          exact ⟨rfl, _, rfl, Below.refl _ _, rfl⟩
        · intro o ho a' w' hb hfr hdep
          obtain rfl := Option.some.inj ho
          have g38 : a'.tmps[38]?.getD undef = .int .i64 ((acked : Int) + (i : Int) + 1) := by have h := hdep 11 _ rfl (by kernel_rfl); simpa using h
          have g42 : a'.tmps[42]?.getD undef = .int .i64 (del : Int) := by have h := hdep 15 _ rfl (by kernel_rfl); simpa using h
          have g43 : a'.tmps[43]?.getD undef = .slice ya yn yc := by have h := hdep 16 _ rfl (by kernel_rfl); simpa using h
          clear ho hfr hdep
          go_wp2_with fail
          exact ⟨rfl, _, rfl, Below.refl _ _, rfl⟩
        · intro o ho a' w' hb hfr hdep
          obtain rfl := Option.some.inj ho
          have g44 : a'.tmps[44]?.getD undef = .agg #[.int .i64 ((acked : Int) + (i : Int) + 1), .int .i64 (del : Int), .slice ya yn yc] := by have h := hdep 17 _ rfl (by kernel_rfl); simpa using h
          clear ho hfr hdep
          go_wp2_with fail
          refine (HBY.out _ _ _ _ (sy.out.below hb)).mono ?_
          rintro e w2 ⟨a2, c2, rfl, o2, h2⟩
          go_wp2_with fail
          exact ⟨rfl, _, rfl, h2, _, _, rfl, o2.sl⟩
        · intro o ho a' w' hb hfr hdep
          obtain rfl := Option.some.inj ho
          have g31 : a'.tmps[31]?.getD undef = V64 key := by have h := hdep 4 _ rfl (by kernel_rfl); simpa using h
          obtain ⟨aX, cX, hX, sX⟩ := hdep 18 _ rfl (by kernel_rfl)
          have g45 : a'.tmps[45]?.getD undef = .slice aX X.length cX := by simpa using hX
          clear ho hfr hdep
          go_wp2_with fail
          refine (lk_Seal key X _ _ _ _ sX hXl.out HR0.out).mono ?_
          rintro e w2 ⟨a2, c2, rfl, o2, h2⟩
          go_wp2_with fail
          exact ⟨rfl, _, rfl, h2, _, _, rfl, o2.mono hb.size⟩
        · intro o ho a' w' hb hfr hdep
          obtain rfl := Option.some.inj ho
          obtain ⟨aR, cR, hR, oR⟩ := hdep 19 _ rfl (by kernel_rfl)
          have g46 : a'.tmps[46]?.getD undef = .slice aR R.length cR := by simpa using hR
          clear ho hfr hdep
          go_wp2_with fail
          exact ⟨rfl, _, rfl, sblo _ _, _, rfl, aR, cR, Sl.fresh _ _ 1 1 [.slice aR R.length cR] rfl (by decide), oR.alloc _⟩
      · intro g0 w7 hb hp'
        obtain ⟨gB, aR, cR, pB, sB, oR⟩ := hp' 20 _ rfl
        have pO := hp' 0 _ rfl
        clear hp'
        simp at pB pO
        simp only [List.drop_succ_cons, List.drop_zero, List.map_cons, List.map_nil, putAll, Act.put, List.setIfInBounds_toArray, List.set_cons_succ, List.set_cons_zero, List.cons_append, List.nil_append, pB, pO]
        have b7 := hbw.out.trans (hb.mono hbw.out.size)
        have t7 := oO.out.below hb
        have r7 := hide (rO.out.push (y := (aR, R.length, cR)) hb hbw.out.size (Nat.le_refl _) oR)
        clear pB pO
        go_wp2_with (at_builtin; refine app_e rfl _ _ rfl w w.heap.size aO i cO hO rfl t7 (aR, R.length, cR) (some ⟨gB, 0, none⟩) 1 rfl sB (by omega) b7.size b7 ?_; intro a8 c8 w8 ho8 hg8 hf8 b8; have r8 := hide (r7.out.kept hg8 (fun b hb => by cases haO : aO with | none => rw [haO] at hb; cases hb | some q => rw [haO] at hb t7; simp at hb; subst hb; exact NoB.own t7 (by decide))); clear t7 r7)
        go_roundg (K - (i + 1))
        case measure => have := HG.out; omega
        case rel => exact ⟨i + 1, a8, c8, hO ++ [(aR, R.length, cR)], by omega, rfl, rfl, by go_num, ho8, by rw [HT.out]; exact r8.out, b8⟩

    · obtain rfl : i = K := by omega
      have hmin : min wait.length win = i := by rw [hk.out]; exact hK.out
      have d0 : decide ((i : Int) < (i : Int)) = false := by simp
      have q6 := cell_blw c6.out hbw.out
      by_cases hK0 : i = 0
      · have d7 : ((i : Int) == 0) = true := by rw [hK0]; rfl
        cases ow
        · have hLL : Hid (outE ⟨win, key, wait, acked, del, held, false, forged⟩ = outTo E0 i) := hide (by
            unfold outE
            simp only [hmin]
            rw [if_pos hK0, hK0]
            rfl)
          have hLLn := outTo_len E0 i
          clear hmin hK0
          have xwr := hide (h.out.box.under hbw.out)
          have xx := xwr.out
          simp only [hk.out] at xx
          go_wp2_with (with_reducible refine store_cell 4 _ _ 65 p 6 [.int .i64 (win : Int), V64 key, .slice aw k cw, .int .i64 (acked : Int), .int .i64 (del : Int), .map (some m), .bool false, .int .i64 (forged : Int)] (.bool false) size_bl xx rfl rfl rfl rfl (by simp) ?_; intro w9 x9 g9 s9)
          go_ret
          have hE : EndM wr p aw cw hs' m ms _ := h.out.below hbw.out
          have hno : ∀ b, some p = some b → NoB wr b := fun b hb => by injection hb with hb; subst hb; exact NoB.box hE.box (by decide)
          rw [hLL.out, hLLn]
          refine ⟨aO, cO, rfl, hO, own_same oO.out (fun q hq => ?_), ORows.kept (rO.out) g9 hno, hE.setbox _ rfl rfl ?_ g9, (Fr.of hbw.out).grown g9 (fun b hb => by cases hb; exact .inl (by simp))⟩
          · have h1 := World.ownsRow.lt oO.out _ (by rw [hq]; rfl)
            refine g9.block q.block h1.2 (fun e0 => ?_)
            injection e0 with e0
            have h2 := h.out.box.lt
            omega
          · have hx := x9
            simp only [List.set_cons_succ, List.set_cons_zero] at hx
            show Box w9 p _ [_, _, .slice aw wait.length cw, _, _, _, _, _]
            rw [hk.out]
            exact hx
        · have hdl := HD.out
          obtain ⟨X, HX⟩ : ∃ X, Hid (pkB ⟨0, (del : Int), []⟩ = X) := ⟨_, rfl⟩
          obtain ⟨R, HR0⟩ : ∃ R, Hid (sealL key X = R) := ⟨_, rfl⟩
          have hXl : Hid (X.length ≤ 1000) := hide (by rw [← HX.out]; exact pkB_le _ _ [] (by decide))
          have hLL : Hid (outE ⟨win, key, wait, acked, del, held, true, forged⟩ = [R]) := hide (by
            unfold outE
            simp only [hmin]
            rw [if_pos hK0, if_pos trivial, ← HR0.out, ← HX.out])
          have hLLn : [R].length = 1 := rfl
          have HBY : Hid (∀ a n c w, Sl w 1 a n c (([] : List UInt8).map B8) → Calls Try.prog 33 #[.agg #[.int .i64 0, .int .i64 (del : Int), .slice a n c]] w (Gives 5 1 X.length (X.map B8) w)) := hide (fun a n c w hs => lk_bytes ⟨0, (del : Int), []⟩ (by show _ ≤ (0 : Int) ∧ (0 : Int) ≤ _; omega) (by show _ ≤ (del : Int) ∧ (del : Int) ≤ _; omega) (Nat.zero_le _) a n c w hs HX.out)
          have rO1 : Hid (ORows wr w.heap.size hO []) := hide (by have h1 := rO.out; rw [hK0] at h1; exact h1)
          clear rO
          have rO := rO1
          clear rO1 hmin hdl
          subst hK0
          go_wp2_with fail
          refine wp_region_free 13 [⟨0, 59, [59], fun vs _ => vs = [.slice aO 0 cO]⟩, ⟨1, 60, [60], fun vs _ => vs = [.pointer (some ⟨p, 0, none⟩)]⟩, ⟨2, 61, [61], fun vs _ => vs = [.pointer (some ⟨p, 0, none⟩)]⟩, ⟨3, 62, [62], fun vs _ => vs = [.pointer (some ⟨p, 1, none⟩)]⟩, ⟨4, 63, [63], fun vs _ => vs = [V64 key]⟩, ⟨5, 64, [64], fun vs _ => vs = [.pointer (some ⟨p, 0, none⟩)]⟩, ⟨6, 65, [65], fun vs _ => vs = [.pointer (some ⟨p, 0, none⟩)]⟩, ⟨7, 66, [66], fun vs _ => vs = [.pointer (some ⟨p, 4, none⟩)]⟩, ⟨8, 67, [67], fun vs _ => vs = [.int .i64 (del : Int)]⟩, ⟨9, 68, [68], fun vs _ => vs = [.agg #[.int .i64 0, .int .i64 (del : Int), .slice none 0 0]]⟩, ⟨10, 69, [69], fun vs w' => ∃ a c, vs = [.slice a X.length c] ∧ Sl w' 1 a X.length c (X.map B8)⟩, ⟨11, 70, [70], fun vs w' => ∃ a c, vs = [.slice a R.length c] ∧ Own w' wr.heap.size 5 1 a R.length c (R.map B8)⟩, ⟨12, 71, [71], fun vs w' => ∃ gB a c, vs = [.slice (some ⟨gB, 0, none⟩) 1 1] ∧ Sl w' 1 (some ⟨gB, 0, none⟩) 1 1 [.slice a R.length c] ∧ Own w' wr.heap.size 5 1 a R.length c (R.map B8)⟩] (by kernel_rfl) (by kernel_rfl) ?_ ?_ ?_
          · simp only [All]
            refine ⟨fun _ _ _ _ h => h, fun _ _ _ _ h => h, fun _ _ _ _ h => h, fun _ _ _ _ h => h, fun _ _ _ _ h => h, fun _ _ _ _ h => h, fun _ _ _ _ h => h, fun _ _ _ _ h => h, fun _ _ _ _ h => h, fun _ _ _ _ h => h, ?_, ?_, ?_, trivial⟩
            · rintro vs w w' hb ⟨a, c, h1, h2⟩
              exact ⟨a, c, h1, h2.below hb⟩
            · rintro vs w w' hb ⟨a, c, h1, h2⟩
              exact ⟨a, c, h1, h2.below hb⟩
            · rintro vs w w' hb ⟨gB, a, c, h1, h2, h3⟩
              exact ⟨gB, a, c, h1, h2.below hb, h3.below hb⟩
          · simp only [All]
            refine ⟨?_, ?_, ?_, ?_, ?_, ?_, ?_, ?_, ?_, ?_, ?_, ?_, ?_, trivial⟩
            · intro o ho a' w' hb hfr hdep
              obtain rfl := Option.some.inj ho
              have g3 : a'.tmps[3]?.getD undef = .slice aO 0 cO := by have h := hfr 3 (by kernel_rfl); simpa using h
              clear ho hfr hdep
              go_wp2_with fail
              exact ⟨rfl, _, rfl, Below.refl _ _, rfl⟩
            · intro o ho a' w' hb hfr hdep
              obtain rfl := Option.some.inj ho
              have g0 : a'.tmps[0]?.getD undef = .pointer (some ⟨p, 0, none⟩) := by have h := hfr 0 (by kernel_rfl); simpa using h
              clear ho hfr hdep
              go_wp2_with fail
              exact ⟨rfl, _, rfl, Below.refl _ _, rfl⟩
            · intro o ho a' w' hb hfr hdep
              obtain rfl := Option.some.inj ho
              have g60 : a'.tmps[60]?.getD undef = .pointer (some ⟨p, 0, none⟩) := by have h := hdep 1 _ rfl (by kernel_rfl); simpa using h
              clear ho hfr hdep
              go_wp2_with fail
              exact ⟨rfl, _, rfl, Below.refl _ _, rfl⟩
            · intro o ho a' w' hb hfr hdep
              obtain rfl := Option.some.inj ho
              have g61 : a'.tmps[61]?.getD undef = .pointer (some ⟨p, 0, none⟩) := by have h := hdep 2 _ rfl (by kernel_rfl); simpa using h
              clear ho hfr hdep
              go_wp2_with fail
              exact ⟨rfl, _, rfl, Below.refl _ _, rfl⟩
            · intro o ho a' w' hb hfr hdep
              obtain rfl := Option.some.inj ho
              have g62 : a'.tmps[62]?.getD undef = .pointer (some ⟨p, 1, none⟩) := by have h := hdep 3 _ rfl (by kernel_rfl); simpa using h
              clear ho hfr hdep
              have hcl := cell_blw c1.out (hbw.out.trans (hb.mono hbw.out.size))
              go_wp2_with fail
              exact ⟨rfl, _, rfl, Below.refl _ _, rfl⟩
            · intro o ho a' w' hb hfr hdep
              obtain rfl := Option.some.inj ho
              have g0 : a'.tmps[0]?.getD undef = .pointer (some ⟨p, 0, none⟩) := by have h := hfr 0 (by kernel_rfl); simpa using h
              clear ho hfr hdep
              go_wp2_with fail
              exact ⟨rfl, _, rfl, Below.refl _ _, rfl⟩
            · intro o ho a' w' hb hfr hdep
              obtain rfl := Option.some.inj ho
              have g64 : a'.tmps[64]?.getD undef = .pointer (some ⟨p, 0, none⟩) := by have h := hdep 5 _ rfl (by kernel_rfl); simpa using h
              clear ho hfr hdep
              go_wp2_with fail
              exact ⟨rfl, _, rfl, Below.refl _ _, rfl⟩
            · intro o ho a' w' hb hfr hdep
              obtain rfl := Option.some.inj ho
              have g65 : a'.tmps[65]?.getD undef = .pointer (some ⟨p, 0, none⟩) := by have h := hdep 6 _ rfl (by kernel_rfl); simpa using h
              clear ho hfr hdep
              go_wp2_with fail
              exact ⟨rfl, _, rfl, Below.refl _ _, rfl⟩
            · intro o ho a' w' hb hfr hdep
              obtain rfl := Option.some.inj ho
              have g66 : a'.tmps[66]?.getD undef = .pointer (some ⟨p, 4, none⟩) := by have h := hdep 7 _ rfl (by kernel_rfl); simpa using h
              clear ho hfr hdep
              have hcl := cell_blw c4.out (hbw.out.trans (hb.mono hbw.out.size))
              go_wp2_with fail
              exact ⟨rfl, _, rfl, Below.refl _ _, rfl⟩
            · intro o ho a' w' hb hfr hdep
              obtain rfl := Option.some.inj ho
              have g67 : a'.tmps[67]?.getD undef = .int .i64 (del : Int) := by have h := hdep 8 _ rfl (by kernel_rfl); simpa using h
              clear ho hfr hdep
              go_wp2_with fail
              exact ⟨rfl, _, rfl, Below.refl _ _, rfl⟩
            · intro o ho a' w' hb hfr hdep
              obtain rfl := Option.some.inj ho
              have g68 : a'.tmps[68]?.getD undef = .agg #[.int .i64 0, .int .i64 (del : Int), .slice none 0 0] := by have h := hdep 9 _ rfl (by kernel_rfl); simpa using h
              clear ho hfr hdep
              go_wp2_with fail
              refine (HBY.out _ _ _ _ (Sl.nil0 _)).mono ?_
              rintro e w2 ⟨a2, c2, rfl, o2, h2⟩
              go_wp2_with fail
              exact ⟨rfl, _, rfl, h2, _, _, rfl, o2.sl⟩
            · intro o ho a' w' hb hfr hdep
              obtain rfl := Option.some.inj ho
              have g63 : a'.tmps[63]?.getD undef = V64 key := by have h := hdep 4 _ rfl (by kernel_rfl); simpa using h
              obtain ⟨aX, cX, hX, sX⟩ := hdep 10 _ rfl (by kernel_rfl)
              have g69 : a'.tmps[69]?.getD undef = .slice aX X.length cX := by simpa using hX
              clear ho hfr hdep
              go_wp2_with fail
              refine (lk_Seal key X _ _ _ _ sX hXl.out HR0.out).mono ?_
              rintro e w2 ⟨a2, c2, rfl, o2, h2⟩
              go_wp2_with fail
              exact ⟨rfl, _, rfl, h2, _, _, rfl, o2.mono hb.size⟩
            · intro o ho a' w' hb hfr hdep
              obtain rfl := Option.some.inj ho
              obtain ⟨aR, cR, hR, oR⟩ := hdep 11 _ rfl (by kernel_rfl)
              have g70 : a'.tmps[70]?.getD undef = .slice aR R.length cR := by simpa using hR
              clear ho hfr hdep
              go_wp2_with fail
              exact ⟨rfl, _, rfl, sblo _ _, _, rfl, aR, cR, Sl.fresh _ _ 1 1 [.slice aR R.length cR] rfl (by decide), oR.alloc _⟩
          · intro g0 w7 hb hp'
            obtain ⟨gB, aR, cR, pB, sB, oR⟩ := hp' 12 _ rfl
            have pO := hp' 0 _ rfl
            clear hp'
            simp at pB pO
            simp only [List.drop_succ_cons, List.drop_zero, List.map_cons, List.map_nil, putAll, Act.put, List.setIfInBounds_toArray, List.set_cons_succ, List.set_cons_zero, List.cons_append, List.nil_append, pB, pO]
            have b7 := hbw.out.trans (hb.mono hbw.out.size)
            have t7 := oO.out.below hb
            have r7 := hide (rO.out.push (y := (aR, R.length, cR)) hb hbw.out.size (Nat.le_refl _) oR)
            clear pB pO
            go_wp2_with (at_builtin; refine app_e rfl _ _ rfl w w.heap.size aO 0 cO hO rfl t7 (aR, R.length, cR) (some ⟨gB, 0, none⟩) 1 rfl sB (by omega) b7.size b7 ?_; intro a8 c8 w8 ho8 hg8 hf8 b8; have r8 := hide (r7.out.kept hg8 (fun b hb => by cases haO : aO with | none => rw [haO] at hb; cases hb | some q => rw [haO] at hb t7; simp at hb; subst hb; exact NoB.own t7 (by decide))); clear t7 r7; refine shold ?_)
            refine hide ?_
            clear hb
            have xw8 := hide (h.out.box.under b8)
            have xx := xw8.out
            simp only [hk.out] at xx
            go_wp2_with (with_reducible refine store_cell 4 _ _ 65 p 6 [.int .i64 (win : Int), V64 key, .slice aw k cw, .int .i64 (acked : Int), .int .i64 (del : Int), .map (some m), .bool true, .int .i64 (forged : Int)] (.bool false) size_bl xx rfl rfl rfl rfl (by simp) ?_; intro w9 x9 g9 s9)
            go_ret
            have hE : EndM w8 p aw cw hs' m ms _ := h.out.below b8
            have hno : ∀ b, some p = some b → NoB w8 b := fun b hb => by injection hb with hb; subst hb; exact NoB.box hE.box (by decide)
            rw [hLL.out, hLLn]
            refine ⟨a8, c8, rfl, hO ++ [(aR, R.length, cR)], own_same ho8 (fun q hq => ?_), ORows.kept (show ORows w8 w.heap.size (hO ++ [(aR, R.length, cR)]) [R] from r8.out) g9 hno, hE.setbox _ rfl rfl ?_ g9, (Fr.of b8).grown g9 (fun b hb => by cases hb; exact .inl (by simp))⟩
            · have h1 := World.ownsRow.lt ho8 _ (by rw [hq]; rfl)
              refine g9.block q.block h1.2 (fun e0 => ?_)
              injection e0 with e0
              have h2 := h.out.box.lt
              omega
            · have hx := x9
              simp only [List.set_cons_succ, List.set_cons_zero] at hx
              show Box w9 p _ [_, _, .slice aw wait.length cw, _, _, _, _, _]
              rw [hk.out]
              exact hx

      · have d7 : ((i : Int) == 0) = false := by simp; omega
        have hLL : Hid (outE ⟨win, key, wait, acked, del, held, ow, forged⟩ = outTo E0 i) := hide (by
          unfold outE
          simp only [hmin]
          rw [if_neg hK0, hE0.out])
        have hLLn := outTo_len E0 i
        clear hmin hK0
        have xwr := hide (h.out.box.under hbw.out)
        have xx := xwr.out
        simp only [hk.out] at xx
        go_wp2_with (with_reducible refine store_cell 4 _ _ 65 p 6 [.int .i64 (win : Int), V64 key, .slice aw k cw, .int .i64 (acked : Int), .int .i64 (del : Int), .map (some m), .bool ow, .int .i64 (forged : Int)] (.bool false) size_bl xx rfl rfl rfl rfl (by simp) ?_; intro w9 x9 g9 s9)
        go_ret
        have hE : EndM wr p aw cw hs' m ms _ := h.out.below hbw.out
        have hno : ∀ b, some p = some b → NoB wr b := fun b hb => by injection hb with hb; subst hb; exact NoB.box hE.box (by decide)
        rw [hLL.out, hLLn]
        refine ⟨aO, cO, rfl, hO, own_same oO.out (fun q hq => ?_), ORows.kept (rO.out) g9 hno, hE.setbox _ rfl rfl ?_ g9, (Fr.of hbw.out).grown g9 (fun b hb => by cases hb; exact .inl (by simp))⟩
        · have h1 := World.ownsRow.lt oO.out _ (by rw [hq]; rfl)
          refine g9.block q.block h1.2 (fun e0 => ?_)
          injection e0 with e0
          have h2 := h.out.box.lt
          omega
        · have hx := x9
          simp only [List.set_cons_succ, List.set_cons_zero] at hx
          show Box w9 p _ [_, _, .slice aw wait.length cw, _, _, _, _, _]
          rw [hk.out]
          exact hx
theorem lk_Out (p : Nat) (g : Option Nat) (m : Nat) (e : En) (w : World) (h : EndAt w p g m e) (hwl : e.wait.length ≤ 1000) (hrl : ∀ r ∈ e.wait, r.length ≤ 900) (hdl : e.del ≤ 100000) (hal : e.acked ≤ 100000) (hwin : e.win ≤ 16) :
    Calls Try.prog 13 #[.pointer (some ⟨p, 0, none⟩)] w fun r w' => ∃ a c hs, r = .returned (.slice a (outE e).length c) ∧ Own w' w.heap.size 33 1 a (outE e).length c (hs.map hv) ∧ ORows w' w.heap.size hs (outE e) ∧ EndAt w' p g m (outS e) ∧ Fr [p] w w' := by
  obtain ⟨aw, cw, hs', ms, h, rfl⟩ := h
  refine (lk_OutM p aw cw hs' m ms e w h hwl hrl hdl hal hwin).mono ?_
  rintro r w' ⟨a, c, hs, h1, h2, h3, h4, h5⟩
  exact ⟨a, c, hs, h1, h2, h3, ⟨aw, cw, hs', ms, h4, rfl⟩, h5⟩
end Go.Proofs.Ytjdnmbapmobaaaa
end

/- the text K11 -/
section
/- Chapter 37: slices.Delete of the first n rows, in place. -/
set_option linter.unusedVariables false
namespace Go.Proofs.Ytjdnmbapmobaaaa
open Go.RowKit Go.Dx Go.Al
theorem run_clear_row {P : Program} (w : World) (t e ty : TypeId) (z : Value) (ht : P.underlying t = some (.slice e)) (hv : ∀ w, (zeroValue e).run P w = .ok z w) (hz : z.cells = #[z]) (h1 : z.oneCell' = true) (g o n c : Nat) (hn : 0 < n)
    (cur : Array Value) (hb : w.heap[g]? = some (.cells cur e (0, 0))) (hfit : o + n ≤ cur.size) :
    (Builtin.clear_ #[t] ty #[.slice (some ⟨g, o, none⟩) n c]).run P w = .ok (.tuple #[]) (w.setRow g (cur.toList.take o ++ List.replicate n z ++ cur.toList.drop (o + n)).toArray) := by
  have hzc : (Builtin.zeroCells z.cells n).toList = List.replicate n z := by
    rw [hz]
    simp [Builtin.zeroCells]
    apply List.ext_getElem
    · simp
    · intro i h1 h2
      simp [Nat.mod_one]
  have hst := run_storeCells_at P g o e (List.replicate n z) 0 cur w hb (by simpa using hfit) (by intro v hv'; rw [List.eq_of_mem_replicate hv']; exact h1)
  simp only [Nat.add_zero, List.length_replicate] at hst
  have hn0 : (n == 0) = false := by simp; omega
  have hn1 : ¬ n = 0 := by omega
  simp [Builtin.clear_, run_underlying ht, hv, hzc, hn0, hn1, hst, Result.andThen]
section
variable {w : World} {ops : Array Oper} {rest : List Oper} {o : Oper} {act : Act} {Q : Exit → Act → World → Prop}
/-- 'append(s[:0], ys...)', where there is room -/
theorem app_room (hg : o.guard = none) (s x : Operand) (hop : o.op = Op.call { callee := Callee.builtin Builtin.append, args := #[s, x], argTypes := #[28, 28] })
    (g c : Nat) (cur : Array Value) (hb : w.heap[g]? = some (.cells cur 33 (0, 0))) (hcs : cur.size = c) (hes : act.eval s = .slice (some ⟨g, 0, none⟩) 0 c)
    (a2 : Option Addr) (m c2 : Nat) (ys : List Value) (hx : act.eval x = .slice a2 m c2) (hy : Sl w 1 a2 m c2 ys) (h1 : ∀ u ∈ ys, u.oneCell' = true) (hm : m ≤ c)
    (hK : ∀ w', w'.heap[g]? = some (.cells (ys ++ cur.toList.drop m).toArray 33 (0, 0)) → w.grownBy w' (some g) → wpList Try.prog ops Q rest (act.put o.dst (.slice (some ⟨g, 0, none⟩) m c)) w') :
    wpList Try.prog ops Q (o :: rest) act w := by
  have hs : Src Try.prog 1 28 (.slice a2 m c2) m ys w := hy.src Try.underlying28 h1
  obtain ⟨i, hi, hz0, hz1, hz2⟩ := info_parts info_rw
  have hyl : ys.length = m := by have := hy.len; omega
  have hst := run_storeCells_at Try.prog g 0 33 ys 0 cur w hb (by simp; omega) h1
  simp only [Nat.add_zero, List.take_zero, List.nil_append, Nat.zero_add, hyl] at hst
  have hrun : (Builtin.append_ #[28, 28] o.type #[.slice (some ⟨g, 0, none⟩) 0 c, .slice a2 m c2]).run Try.prog w = .ok (.slice (some ⟨g, 0, none⟩) m c) (w.setRow g (ys ++ cur.toList.drop m).toArray) := by
    have hs2 : Src Try.prog i.size 28 (.slice a2 m c2) m ys w := by rw [hz1]; exact hs
    simp [Builtin.append_, run_underlying Try.underlying28, sizeOf, typeInfo, hi, hs2.len, hm, hs2.cells, Addr.add_lit, hst, Result.andThen]
  refine wpList_plain hg fun K hK' => ?_
  unfold Oper.wp
  simp [execOp, hop, resolve, invoke, builtin, hes, hx, hrun, Result.andThen]
  exact hK' _ _ (hK _ (setRow_heap w g cur _ _ _ hb) ⟨rfl, rfl, rfl, by simp [World.setRow], fun k _ hk => setRow_other w g k _ (fun e => hk (by rw [e]))⟩)
/-- 'clear(s)' of rows -/
theorem clear_rows (hg : o.guard = none) (x : Operand) (hop : o.op = Op.call { callee := Callee.builtin Builtin.clear, args := #[x], argTypes := #[28] }) (hz : ∀ w, (zeroValue 33).run Try.prog w = .ok (.slice none 0 0) w)
    (g l n c : Nat) (hn : 0 < n) (cur : Array Value) (hb : w.heap[g]? = some (.cells cur 33 (0, 0))) (hfit : l + n ≤ cur.size) (hx : act.eval x = .slice (some ⟨g, l, none⟩) n c)
    (hK : ∀ w', w'.heap[g]? = some (.cells (cur.toList.take l ++ List.replicate n (Value.slice none 0 0) ++ cur.toList.drop (l + n)).toArray 33 (0, 0)) → w.grownBy w' (some g) → wpList Try.prog ops Q rest (act.put o.dst (.tuple #[])) w') :
    wpList Try.prog ops Q (o :: rest) act w := by
  have hrun := run_clear_row w 28 33 o.type (.slice none 0 0) Try.underlying28 hz rfl rfl g l n c hn cur hb hfit
  refine wpList_plain hg fun K hK' => ?_
  unfold Oper.wp
  simp [execOp, hop, resolve, invoke, builtin, hx, hrun, Result.andThen]
  exact hK' _ _ (hK _ (by have h := setRow_heap w g cur (cur.toList.take l ++ List.replicate n (Value.slice none 0 0) ++ cur.toList.drop (l + n)).toArray _ _ hb; simpa using h) ⟨rfl, rfl, rfl, by simp [World.setRow], fun k _ hk => setRow_other w g k _ (fun e => hk (by rw [e]))⟩)
end
end Go.Proofs.Ytjdnmbapmobaaaa
end

/- the text K12 -/
section
/- Chapter 37: slices.Delete of the first n rows. -/
set_option linter.unusedVariables false
namespace Go.Proofs.Ytjdnmbapmobaaaa
open Go.RowKit Go.Dx Go.Al
theorem size_rw : (Try.prog.info? 33).map (·.size) = some 1 := by kernel_rfl
theorem zero_rw (w : World) : (zeroValue 33).run Try.prog w = .ok (.slice none 0 0) w := by
  obtain ⟨i, hi, hz0, hz1, hz2⟩ := info_parts info_rw
  simp [zeroValue, typeInfo, hi, hz0]
section
variable {w : World} {ops : Array Oper} {rest : List Oper} {o : Oper} {act : Act} {Q : Exit → Act → World → Prop} {ty : TypeId} {pos : String} {after : Array Edge}
theorem hold_clear {dst : Option Tmp} {as_ : Array Operand} {ts : Array TypeId} {g : Option (Nat × Bool)}
    (h : Hid (wpList Try.prog ops Q ({ dst := dst, op := .call { callee := .builtin .clear, args := as_, argTypes := ts }, type := ty, pos := pos, after := after, guard := g } :: rest) act w)) :
    wpList Try.prog ops Q ({ dst := dst, op := .call { callee := .builtin .clear, args := as_, argTypes := ts }, type := ty, pos := pos, after := after, guard := g } :: rest) act w := h
/-- 's[l:u]' up to the end, some elements left -/
theorem cut_rows (d : Nat) (x lo hi : Operand) {g : Nat} (n c l u : Nat) (hx : act.eval x = .slice (some ⟨g, 0, none⟩) l c) (hl : act.eval lo = .int .i64 (l : Int)) (hu : act.eval hi = .int .i64 (u : Int)) (hlu : l < u) (huc : u ≤ c) (hn : n = n)
    (hK : wpList Try.prog ops Q rest (act.put (some d) (.slice (some ⟨g, l, none⟩) (u - l) (c - l))) w) :
    wpList Try.prog ops Q ({ dst := some d, op := .slice 28 x (some lo) (some hi) none, type := ty, pos := pos, after := after, guard := none } :: rest) act w := by
  refine wpList_plain rfl fun K hK' => ?_
  obtain ⟨i0, hi0, hs0⟩ := Option.map_eq_some_iff.1 size_rw
  have hrun : (Instr.sliceAt 28 (.slice (some ⟨g, 0, none⟩) l c) (some (.int .i64 (l : Int))) (some (.int .i64 (u : Int))) none).run Try.prog w = .ok (.slice (some ⟨g, l, none⟩) (u - l) (c - l)) w := by
    have h2 : (0 : Int) ≤ l ∧ (l : Int) ≤ u := by omega
    have h3 : (0 : Int) ≤ u ∧ (u : Int) ≤ c := by omega
    have h4 : ¬ c = l := by omega
    have h5 : l ≤ u := by omega
    simp [Instr.sliceAt, Instr.slice, Instr.sliceBounds, Instr.sliceBound, asIntOf, run_underlying Try.underlying28, sizeOf, typeInfo, hi0, hs0, h2, h3, h4, h5, huc, Addr.add_lit]
  unfold Oper.wp
  simp only [execOp, Option.map_none, Option.map_some, hx, hl, hu, Sem.run_bind, hrun, Result.andThen, Sem.run_pure]
  exact hK' _ _ hK
end
set_option maxRecDepth 100000 in
set_option maxHeartbeats 2000000 in
theorem sl_Delete (g k c n : Nat) (hs : List Hd) (w : World) (h : Own w 0 33 1 (some ⟨g, 0, none⟩) k c (hs.map hv)) (h0 : 0 < n) (hn : n ≤ k) :
    Calls Try.prog 37 #[.slice (some ⟨g, 0, none⟩) k c, .int .i64 0, .int .i64 (n : Int)] w fun e w' => e = .returned (.slice (some ⟨g, 0, none⟩) (k - n) c) ∧ Own w' 0 33 1 (some ⟨g, 0, none⟩) (k - n) c ((hs.drop n).map hv) ∧ w.grownBy w' (some g) := by
  obtain ⟨cap, cur, hcap, hgc0, hnc, hcm, hcs0, htk⟩ : ∃ (cap : Nat) (cur : Array Value), c = cap ∧ w.heap[g]? = some (.cells cur 33 (0, 0)) ∧ k ≤ cap ∧ cap ≤ maxLen ∧ cur.size = cap * 1 ∧ cur.toList.take (k * 1) = hs.map hv := by
    rcases h.2 with ⟨h1, _⟩ | ⟨g', cap, cur, h1, _, h3, h4, h5, h6, h7⟩
    · cases h1
    · injection h1 with h1 _ h8
      injection h1 with h1
      injection h1 with h1
      subst h1
      exact ⟨cap, cur, h8, h3, h4, h5, h6, by rw [h7]⟩
  subst hcap
  have hgc := hide hgc0
  have hcs : Hid (cur.size = c) := hide (by omega)
  have hlt : Hid (g < w.heap.size) := hide (Array.getElem?_eq_some_iff.1 hgc0).1
  have hsl := hide h.sl
  have hlen : Hid (hs.length = k) := hide (by have := h.1; simp at this; omega)
  have hkc : k ≤ c := hnc
  have hcm2 := hide hcm
  have hc2 : c ≤ 9223372036854775807 := by unfold maxLen at hcm; omega
  have HT := hide htk
  clear htk hgc0 hcs0 hcm hnc h
  have d1 : ((0 : Int) == (n : Int)) = false := by simp; omega
  have d2 : n ≤ c := by omega
  go_enter Try.func37, Try.ntmps37
  go_wp2_with fail
  refine wp_region_free 6 [⟨0, 20, [20], fun vs _ => vs = [.slice (some ⟨g, 0, none⟩) k c]⟩, ⟨1, 21, [21], fun vs _ => vs = [.int .i64 0]⟩, ⟨2, 22, [22], fun vs _ => vs = [.slice (some ⟨g, 0, none⟩) 0 c]⟩, ⟨3, 23, [23], fun vs _ => vs = [.slice (some ⟨g, 0, none⟩) k c]⟩, ⟨4, 24, [24], fun vs _ => vs = [.int .i64 (n : Int)]⟩, ⟨5, 25, [25], fun vs w' => ∃ a, vs = [.slice a (k - n) (c - n)] ∧ Sl w' 1 a (k - n) (c - n) ((hs.drop n).map hv)⟩] (by kernel_rfl) (by kernel_rfl) ?_ ?_ ?_
  · simp only [All]
    refine ⟨fun _ _ _ _ h => h, fun _ _ _ _ h => h, fun _ _ _ _ h => h, fun _ _ _ _ h => h, fun _ _ _ _ h => h, ?_, trivial⟩
    · rintro vs w w' hb ⟨a, h1, h2⟩
      exact ⟨a, h1, h2.below hb⟩
  · simp only [All]
    refine ⟨?_, ?_, ?_, ?_, ?_, ?_, trivial⟩
    · intro o ho a' w' hb hfr hdep
      obtain rfl := Option.some.inj ho
      have g0 : a'.tmps[0]?.getD undef = .slice (some ⟨g, 0, none⟩) k c := by have h := hfr 0 (by kernel_rfl); simpa using h
      clear ho hfr hdep
      go_wp2_with fail
      exact ⟨rfl, _, rfl, Below.refl _ _, rfl⟩
    · intro o ho a' w' hb hfr hdep
      obtain rfl := Option.some.inj ho
      have g1 : a'.tmps[1]?.getD undef = .int .i64 0 := by have h := hfr 1 (by kernel_rfl); simpa using h
      clear ho hfr hdep
      go_wp2_with fail
      exact ⟨rfl, _, rfl, Below.refl _ _, rfl⟩
    · intro o ho a' w' hb hfr hdep
      obtain rfl := Option.some.inj ho
      have g20 : a'.tmps[20]?.getD undef = .slice (some ⟨g, 0, none⟩) k c := by have h := hdep 0 _ rfl (by kernel_rfl); simpa using h
      have g21 : a'.tmps[21]?.getD undef = .int .i64 0 := by have h := hdep 1 _ rfl (by kernel_rfl); simpa using h
      clear ho hfr hdep
      refine cut_hi_e 22 _ _ (some ⟨g, 0, none⟩) k c (by simpa [Act.eval] using g20) .i64 0 (by simpa [Act.eval] using g21) (Nat.zero_le _) ?_
      exact ⟨rfl, _, rfl, Below.refl _ _, rfl⟩
    · intro o ho a' w' hb hfr hdep
      obtain rfl := Option.some.inj ho
      have g0 : a'.tmps[0]?.getD undef = .slice (some ⟨g, 0, none⟩) k c := by have h := hfr 0 (by kernel_rfl); simpa using h
      clear ho hfr hdep
      go_wp2_with fail
      exact ⟨rfl, _, rfl, Below.refl _ _, rfl⟩
    · intro o ho a' w' hb hfr hdep
      obtain rfl := Option.some.inj ho
      have g2 : a'.tmps[2]?.getD undef = .int .i64 (n : Int) := by have h := hfr 2 (by kernel_rfl); simpa using h
      clear ho hfr hdep
      go_wp2_with fail
      exact ⟨rfl, _, rfl, Below.refl _ _, rfl⟩
    · intro o ho a' w' hb hfr hdep
      obtain rfl := Option.some.inj ho
      have g23 : a'.tmps[23]?.getD undef = .slice (some ⟨g, 0, none⟩) k c := by have h := hdep 3 _ rfl (by kernel_rfl); simpa using h
      have g24 : a'.tmps[24]?.getD undef = .int .i64 (n : Int) := by have h := hdep 4 _ rfl (by kernel_rfl); simpa using h
      clear ho hfr hdep
      refine cut_lo 25 28 _ _ 33 Try.underlying28 1 size_rw _ k c _ (by simpa [Act.eval] using g23) (hsl.out.below hb) .i64 _ n (by simpa [Act.eval] using g24) rfl hn ?_
      intro a2 s2 _
      rw [Nat.mul_one, ← List.map_drop] at s2
      exact ⟨rfl, _, rfl, Below.refl _ _, a2, rfl, s2⟩
  · intro g0 w1 hb hp'
    have p22 := hp' 2 _ rfl
    obtain ⟨a2, p25, s2⟩ := hp' 5 _ rfl
    clear hp'
    simp at p22 p25
    simp only [List.drop_succ_cons, List.drop_zero, List.map_cons, List.map_nil, putAll, Act.put, List.setIfInBounds_toArray, List.set_cons_succ, List.set_cons_zero, List.cons_append, List.nil_append, p22, p25]
    have hb1 : w1.heap[g]? = some (.cells cur 33 (0, 0)) := by rw [hb.block g hlt.out]; exact hgc.out
    clear p22 p25
    go_wp2_with (at_builtin; refine app_room rfl _ _ rfl g c cur hb1 hcs.out rfl a2 (k - n) (c - n) ((hs.drop n).map hv) rfl s2 (one_map _ (fun x => rfl) _) (by omega) ?_; intro W1 hc1 hgr1; refine shold ?_)
    refine hide ?_
    have hdl : ((hs.drop n).map hv).length = k - n := by rw [List.length_map, List.length_drop, hlen.out]
    have hsz : (((hs.drop n).map hv) ++ cur.toList.drop (k - n)).toArray.size = c := by
      rw [List.size_toArray, List.length_append, hdl, List.length_drop, Array.length_toList, hcs.out]
      omega
    have hgr : Hid (w.grownBy W1 (some g)) := ⟨hgr1.os.trans hb.os, hgr1.tape.trans hb.tape, hgr1.output.trans hb.output, Nat.le_trans hb.size hgr1.size, fun j hj hne => (hgr1.block j (Nat.lt_of_lt_of_le hj hb.size) hne).trans (hb.block j hj)⟩
    have HC := hide hc1
    have HS := hide hsz
    have HD := hide hdl
    clear s2 hb1 hb hc1 hgr1 hsz hdl
    go_wp2_with (first
      | (with_reducible refine cut_rows 31 _ _ _ k c (k - n) k rfl rfl rfl (by omega) hkc (by omega) ?_)
      | (with_reducible refine hold_clear ?_))
    refine hide ?_
    refine clear_rows rfl _ rfl zero_rw g (k - n) n (c - (k - n)) h0 _ HC.out (by rw [HS.out]; omega) (show Value.slice _ (k - (k - n)) _ = _ by rw [show k - (k - n) = n by omega]) ?_
    intro w9 hc9 hg9
    go_wp2_with fail
    go_ret
    have hA : ((((hs.drop n).map hv) ++ cur.toList.drop (k - n)).toArray.toList).take (k - n) = (hs.drop n).map hv := by
      rw [List.toList_toArray, ← HD.out]
      exact List.take_left
    have hG := hgr.out
    refine ⟨rfl, ⟨by rw [Nat.mul_one, ← List.map_drop]; exact HD.out, .inr ⟨g, c, _, rfl, Nat.zero_le _, hc9, by omega, hcm2.out, ?_, ?_⟩⟩, ⟨hg9.os.trans hG.os, hg9.tape.trans hG.tape, hg9.output.trans hG.output, Nat.le_trans hG.size hg9.size, fun j hj hne => (hg9.block j (Nat.lt_of_lt_of_le hj hG.size) hne).trans (hG.block j hj hne)⟩⟩
    · have h2 := HS.out
      rw [List.size_toArray] at h2
      rw [List.size_toArray, List.length_append, List.length_append, List.length_take, List.length_drop, List.length_replicate, List.toList_toArray]
      omega
    · rw [Nat.mul_one, hA, List.toList_toArray, List.append_assoc, ← List.map_drop]
      exact List.take_left' HD.out
end Go.Proofs.Ytjdnmbapmobaaaa
end

/- the text K13 -/
section
/- Chapter 37: the held messages, in memory and in plain Lean, key by key. -/
set_option linter.unusedVariables false
namespace Go.Proofs.Ytjdnmbapmobaaaa
open Go.RowKit Go.Dx Go.Al
def mV (x : Nat × Hd) : Int × Value := ((x.1 : Int), hv x.2)
theorem Rows.head {w : World} {x : Hd} {hs : List Hd} {r : List UInt8} {p : List (List UInt8)} (h : Rows w (x :: hs) (r :: p)) : Sl w 1 x.1 x.2.1 x.2.2 (r.map B8) ∧ Kind w x.1 := h.2 0 x r rfl rfl
theorem Rows.tail {w : World} {x : Hd} {hs : List Hd} {r : List UInt8} {p : List (List UInt8)} (h : Rows w (x :: hs) (r :: p)) : Rows w hs p := h.drop 1
theorem Rows.cons {w : World} {x : Hd} {hs : List Hd} {r : List UInt8} {p : List (List UInt8)} (h1 : Sl w 1 x.1 x.2.1 x.2.2 (r.map B8)) (h2 : Kind w x.1) (h : Rows w hs p) : Rows w (x :: hs) (r :: p) := (Rows.one h1 h2).append h
theorem look_two (w : World) (q : Nat) : ∀ (ms : List (Nat × Hd)) (hl : List (Nat × List UInt8)), ms.map (·.1) = hl.map (·.1) → Rows w (ms.map (·.2)) (hl.map (·.2)) →
    (lkE hl q = none ∧ lkM (ms.map mV) (q : Int) = none) ∨
    ∃ (b : List UInt8) (x : Hd) (ms' : List (Nat × Hd)), lkE hl q = some b ∧ lkM (ms.map mV) (q : Int) = some (hv x) ∧ Sl w 1 x.1 x.2.1 x.2.2 (b.map B8) ∧ Kind w x.1 ∧
      delM (ms.map mV) (q : Int) = ms'.map mV ∧ ms'.map (·.1) = (dlE hl q).map (·.1) ∧ Rows w (ms'.map (·.2)) ((dlE hl q).map (·.2)) ∧ (dlE hl q).length + 1 = hl.length
  | [], [], _, _ => .inl ⟨rfl, rfl⟩
  | [], _ :: _, h, _ => by cases h
  | _ :: _, [], h, _ => by cases h
  | (i, x) :: ms, (j, b) :: hl, h, hr => by
    simp only [List.map_cons, List.cons.injEq] at h hr
    obtain ⟨rfl, h⟩ := h
    by_cases c : i = q
    · subst c
      refine .inr ⟨b, x, ms, ?_, ?_, hr.head.1, hr.head.2, ?_, ?_, ?_, ?_⟩
      · simp [lkE]
      · simp [lkM, mV]
      · simp [delM, mV]
      · simp [dlE, h]
      · have := hr.tail; simpa [dlE] using this
      · simp [dlE]
    · have ci : ¬ ((i : Int) = (q : Int)) := by omega
      have cb : ((i : Int) == (q : Int)) = false := by simp; omega
      have cn : (i == q) = false := by simp [c]
      rcases look_two w q ms hl h hr.tail with ⟨h1, h2⟩ | ⟨b', x', ms', h1, h2, h3, h4, h5, h6, h7, h8⟩
      · left
        refine ⟨?_, ?_⟩
        · unfold lkE at h1 ⊢
          rw [List.find?_cons_of_neg (by simp [c])]
          exact h1
        · unfold lkM at h2 ⊢
          rw [List.map_cons, List.find?_cons_of_neg (by simp [mV]; omega)]
          exact h2
      · refine .inr ⟨b', x', (i, x) :: ms', ?_, ?_, h3, h4, ?_, ?_, ?_, ?_⟩
        · unfold lkE at h1 ⊢
          rw [List.find?_cons_of_neg (by simp [c])]
          exact h1
        · unfold lkM at h2 ⊢
          rw [List.map_cons, List.find?_cons_of_neg (by simp [mV]; omega)]
          exact h2
        · unfold delM at h5 ⊢
          rw [List.map_cons, List.eraseP_cons_of_neg (by simp [mV]; omega), h5, List.map_cons]
        · unfold dlE at h6 ⊢
          rw [List.eraseP_cons_of_neg (by simp [c]), List.map_cons, List.map_cons, h6]
        · unfold dlE at h7 ⊢
          rw [List.eraseP_cons_of_neg (by simp [c]), List.map_cons, List.map_cons]
          exact Rows.cons hr.head.1 hr.head.2 h7
        · unfold dlE at h8 ⊢
          rw [List.eraseP_cons_of_neg (by simp [c]), List.length_cons, List.length_cons, h8]
end Go.Proofs.Ytjdnmbapmobaaaa
end

/- the text K14 -/
section
/- Chapter 37: deliver. -/
set_option linter.unusedVariables false
namespace Go.Proofs.Ytjdnmbapmobaaaa
open Go.RowKit Go.Dx Go.Al
theorem run_look (w : World) (b : Nat) (m : List (Int × Value)) (hown : IMap w b m) (k : Int) (v : Value) (ok : Bool) (hv0 : (match lkM m k with | some v => (v, true) | none => (.slice none 0 0, false)) = (v, ok)) :
    (Instr.lookup 63 (.map (some b)) (.int .i64 k) true).run Try.prog w = .ok (.tuple #[v, .bool ok]) w := by
  obtain ⟨es, clock, hb, he, -⟩ := hown.ex
  have hK0 := Try.underlying3
  have hkey : MapKept.IsKey (.int .i64) (Value.int .i64 k) := by simp [MapKept.IsKey]
  have hck : (Instr.checkKey es.isEmpty 10000 3 (.int .i64 k)).run Try.prog w = .ok () w := MapKept.run_checkKey hK0 hkey _ 9999
  rcases find_ints k es.toList m 0 he with ⟨q1, q2, _⟩ | ⟨j, u, q1, q2, _, _⟩
  · rw [q1] at hv0
    simp only [Prod.mk.injEq] at hv0
    obtain ⟨rfl, rfl⟩ := hv0
    have hf := MapKept.run_findKey (w := w) hK0 q2
    simp [Instr.lookup, run_underlying Try.underlying63, MapKept.run_getObj_map hb, hck, hf, zero_rw]
  · rw [q1] at hv0
    simp only [Prod.mk.injEq] at hv0
    obtain ⟨rfl, rfl⟩ := hv0
    have hf := MapKept.run_findKey (w := w) hK0 q2
    simp [Instr.lookup, run_underlying Try.underlying63, MapKept.run_getObj_map hb, hck, hf]
theorem quiet_look {w : World} {ops : Array Oper} {rest : List Oper} {act : Act} {Q : Act → Prop} {o : Oper} (mm x : Operand) (hop : o.op = Op.lookup 63 mm x true) (b : Nat) (m : List (Int × Value)) (hm : act.eval mm = .map (some b)) (hown : IMap w b m) (k : Int) (hx : act.eval x = .int .i64 k) (hw : Region.wanted o (yielded ops act.tmps) = true)
    (v : Value) (ok : Bool) (hv0 : (match lkM m k with | some v => (v, true) | none => (.slice none 0 0, false)) = (v, ok))
    (hK : wpQuiet Try.prog ops (fun w' => ∃ n, w' = w.drewN n) Q rest (act.put o.dst (.tuple #[v, .bool ok]))) :
    wpQuiet Try.prog ops (fun w' => ∃ n, w' = w.drewN n) Q (o :: rest) act := by
  refine quiet_in _ hw ?_ hK
  rintro w' ⟨n, rfl⟩
  have hrun := run_look (w.drewN n) b m (hown.same rfl) k v ok hv0
  simp only [execOp, hop, hm, hx, Sem.run_bind, hrun, Result.andThen, Sem.run_pure]
theorem EndM.fr {w w' : World} {p : Nat} {a : Option Addr} {c : Nat} {hs : List Hd} {m : Nat} {ms : List (Nat × Hd)} {e : En} {S : List Nat} (h : EndM w p a c hs m ms e) (hf : Fr S w w') (hn : ∀ b ∈ S, NoB w b) (hd : ∀ b ∈ foot p (a.map (·.block)) m, b ∉ S) : EndM w' p a c hs m ms e := by
  have key : ∀ b ∈ foot p (a.map (·.block)) m, w'.heap[b]? = w.heap[b]? := fun b hb => hf.block b (h.lt b hb) (hd b hb)
  have kp := key p (by simp [foot])
  have km := key m (by simp [foot])
  refine ⟨?_, ?_, h.row.fr hf hn, h.mp.same km, h.key, h.rows.fr hf hn⟩
  · have := h.box
    unfold Box at this ⊢
    rw [kp]
    exact this
  · exact own_same h.top fun q hq => key q.block (by rw [hq]; simp [foot])
theorem EndM.setmap {w w2 : World} {p : Nat} {a : Option Addr} {c : Nat} {hs : List Hd} {m : Nat} {ms : List (Nat × Hd)} {e : En} (h : EndM w p a c hs m ms e) (hl : List (Nat × List UInt8)) (ms2 : List (Nat × Hd)) (hm : IMap w2 m (ms2.map mV)) (g : w.grownBy w2 (some m)) (hk : ms2.map (·.1) = hl.map (·.1)) (hr : Rows w (ms2.map (·.2)) (hl.map (·.2))) : EndM w2 p a c hs m ms2 { e with held := hl } := by
  have hn : ∀ b, some m = some b → NoB w b := fun b hb => by injection hb with hb; subst hb; exact NoB.map h.mp
  refine ⟨h.box.grown g (fun e0 => h.ne_pm (by injection e0 with e0; exact e0.symm)), own_same h.top fun q hq => g.block q.block (World.ownsRow.lt h.top _ (by rw [hq]; rfl)).2 (fun e0 => h.ne_am (by rw [hq, ← e0]; rfl)), h.row.kept g hn, hm, hk, hr.kept g hn⟩
theorem size_i : (Try.prog.info? 3).map (·.size) = some 1 := by kernel_rfl
set_option maxRecDepth 100000 in
set_option maxHeartbeats 2000000 in
theorem lk_deliver (p : Nat) (aw : Option Addr) (cw : Nat) (hs' : List Hd) (m : Nat) (ms : List (Nat × Hd)) (e : En) (w : World) (h : EndM w p aw cw hs' m ms e) (hdl : e.del + e.held.length ≤ 200000) (hhl : e.held.length ≤ 1000) :
    Calls Try.prog 38 #[.pointer (some ⟨p, 0, none⟩)] w fun r w' => ∃ (a1 : Option Addr) (c1 : Nat) (ho : List Hd) (ms1 : List (Nat × Hd)), r = .returned (.slice a1 (delE (e.held.length + 1) e).1.length c1) ∧ Own w' w.heap.size 33 1 a1 (delE (e.held.length + 1) e).1.length c1 (ho.map hv) ∧ Rows w' ho (delE (e.held.length + 1) e).1 ∧ EndM w' p aw cw hs' m ms1 (delE (e.held.length + 1) e).2 ∧ Fr [p, m] w w' := by
  have h0 := hide h
  clear h
  go_enter Try.func38, Try.ntmps38
  go_wp2_with fail
  go_loopg [3] e.held.length (fun gh v3 w' => ∃ (e1 : En) (ms1 : List (Nat × Hd)) (a1 : Option Addr) (c1 : Nat) (ho : List Hd) (L1 : List (List UInt8)) (i : Nat), gh = e1.held.length ∧ i = L1.length ∧ v3 = .slice a1 i c1 ∧ EndM w' p aw cw hs' m ms1 e1 ∧ Own w' w.heap.size 33 1 a1 i c1 (ho.map hv) ∧ Rows w' ho L1 ∧
    delE (e.held.length + 1) e = (L1 ++ (delE (e1.held.length + 1) e1).1, (delE (e1.held.length + 1) e1).2) ∧ (e1.del + e1.held.length ≤ 200000 ∧ i + e1.held.length ≤ 1000) ∧ e1.wait = e.wait ∧ Fr [p, m] w w')
  case atStart =>
    refine ⟨e, ms, none, 0, [], [], 0, rfl, rfl, rfl, h0.out, Own.nil _ _ _ _, Rows.nil _, by simp, ⟨hdl, by omega⟩, rfl, Fr.refl _ _⟩
  case round =>
    obtain ⟨e1, ms1, a1, c1, ho, L1, i, hgh, hi, rfl, hM, oO, rO, hE, hbd, hwt, hF⟩ := hrel
    have HG := hide hgh
    have M0 := hide hM
    have oO0 := hide oO
    have rO0 := hide rO
    have hbd0 := hide hbd
    have hE0 := hide hE
    have hF0 := hide hF
    have hi0 := hide hi
    have hwt0 := hide hwt
    clear hgh hM oO rO hbd hE hF hi hwt
    obtain ⟨win, key, wait, acked, del, held, ow, forged⟩ := e1
    have hd2 : del ≤ 200000 := by have := hbd0.out.1; simp only at this; omega
    have c4 := hide (M0.out.box.at_ (j := 4) rfl)
    have c5 := hide (M0.out.box.at_ (j := 5) rfl)
    have hmp : Hid (IMap wr m (ms1.map mV)) := M0.out.mp
    rcases look_two wr (del + 1) ms1 held M0.out.key M0.out.rows with ⟨l1, l2⟩ | ⟨b, x, ms2, l1, l2, sx, kx, l5, l6, l7, l8⟩
    · have l2 : Hid (lkM (ms1.map mV) ((del : Int) + 1) = none) := l2
      have l1 := hide l1
      go_wp2_with fail
      have hb : Hid (∀ n, Below wr.heap.size wr (wr.drewN n)) := hide (fun n => Still.below n)
      have r4 := c4.out
      have r5 := c5.out
      have hw1 : IntKind.i64.wrap ((del : Int) + 1) = (del : Int) + 1 := IntWalk.i64_in _ (by omega)
      refine wp_region_quiet_lit (by kernel_rfl) (by kernel_rfl) ?_
      iterate 9 go_big_quiet_step (fail)
      refine quiet_look _ _ rfl m (ms1.map mV) rfl hmp.out ((del : Int) + 1) rfl rfl (.slice none 0 0) false (by rw [l2.out]) ?_
      simp only [Act.put, List.setIfInBounds_toArray, List.set_cons_succ, List.set_cons_zero]
      repeat (go_big_quiet_step (fail))
      refine wpQuiet_nil ?_
      rintro _ ⟨nq, rfl⟩
      have hb := hb.out nq
      clear r4 r5
      generalize wr.drewN nq = w2 at *
      go_wp2_with fail
      go_ret
      have hz : delE (e.held.length + 1) e = (L1, ⟨win, key, wait, acked, del, held, ow, forged⟩) := by
        rw [hE0.out]
        have h1 : delE (held.length + 1) ⟨win, key, wait, acked, del, held, ow, forged⟩ = ([], ⟨win, key, wait, acked, del, held, ow, forged⟩) := by
          unfold delE
          simp only [l1.out]
        simp only [h1, List.append_nil]
      have hi1 := hi0.out
      subst hi1
      rw [hz]
      exact ⟨a1, c1, ho, ms1, rfl, oO0.out.below hb, rO0.out.below hb, M0.out.below hb, hF0.out.below hb⟩
    · obtain ⟨xa, xn, xc⟩ := x
      have l2 : Hid (lkM (ms1.map mV) ((del : Int) + 1) = some (.slice xa xn xc)) := l2
      have l1 := hide l1
      have sx := hide sx
      have kx := hide kx
      have l5 := hide l5
      have l6 := hide l6
      have l7 := hide l7
      have l8 := hide l8
      go_wp2_with fail
      have hb : Hid (∀ n, Below wr.heap.size wr (wr.drewN n)) := hide (fun n => Still.below n)
      have r4 := c4.out
      have r5 := c5.out
      have hw1 : IntKind.i64.wrap ((del : Int) + 1) = (del : Int) + 1 := IntWalk.i64_in _ (by omega)
      refine wp_region_quiet_lit (by kernel_rfl) (by kernel_rfl) ?_
      iterate 9 go_big_quiet_step (fail)
      refine quiet_look _ _ rfl m (ms1.map mV) rfl hmp.out ((del : Int) + 1) rfl rfl (.slice xa xn xc) true (by rw [l2.out]) ?_
      simp only [Act.put, List.setIfInBounds_toArray, List.set_cons_succ, List.set_cons_zero]
      repeat (go_big_quiet_step (fail))
      refine wpQuiet_nil ?_
      rintro _ ⟨nq, rfl⟩
      have hb := hb.out nq
      clear r4 r5
      generalize wr.drewN nq = w2 at *
      have M2 := hide (M0.out.below hb)
      have x2 := M2.out.box
      have q4 := x2.at_ (j := 4) rfl
      go_wp2_with (with_reducible refine store_cell 3 _ _ 65 p 4 [.int .i64 (win : Int), V64 key, .slice aw wait.length cw, .int .i64 (acked : Int), .int .i64 (del : Int), .map (some m), .bool ow, .int .i64 (forged : Int)] (.int .i64 ((del : Int) + 1)) size_i x2 rfl rfl rfl rfl (by simp) ?_; intro w3 x3 g3 s3; refine shold ?_)
      refine hide ?_
      simp only [List.set_cons_succ, List.set_cons_zero] at x3
      have M3 : Hid (EndM w3 p aw cw hs' m ms1 ⟨win, key, wait, acked, del + 1, held, ow, forged⟩) := M2.out.setbox _ rfl rfl x3 g3
      have F3 : Hid (Fr [p, m] w w3) := (hF0.out.below hb).grown g3 (fun b hb => by cases hb; exact .inl (by simp))
      have k4 := hide (x3.at_ (j := 4) rfl)
      have k5 := hide (x3.at_ (j := 5) rfl)
      have hnp : ∀ b, some p = some b → NoB w2 b := fun b hb => by injection hb with hb; subst hb; exact NoB.box x2 (by decide)
      have sx3 := hide (sl_kept (sx.out.below hb) (kx.out.below hb) g3 hnp)
      have kx3 := hide ((kx.out.below hb).kept g3 hnp)
      have rO3 := hide ((rO0.out.below hb).kept g3 hnp)
      have l73 := hide ((l7.out.below hb).kept g3 hnp)
      have hp0 : Hid (p < w.heap.size) := h0.out.box.lt
      have oO3 : Hid (Own w3 w.heap.size 33 1 a1 i c1 (ho.map hv)) := own_same (oO0.out.below hb) (fun q hq => by
        have h1 := World.ownsRow.lt (oO0.out.below hb) _ (by rw [hq]; rfl)
        refine g3.block q.block h1.2 (fun e0 => ?_)
        injection e0 with e0
        have h2 := hp0.out
        omega)
      clear x2 q4 x3 g3 hnp hb
      go_wp2_with fail
      refine wp_region_free 8 [⟨0, 29, [29], fun vs _ => vs = [.pointer (some ⟨p, 0, none⟩)]⟩, ⟨1, 30, [30], fun vs _ => vs = [.pointer (some ⟨p, 0, none⟩)]⟩, ⟨2, 31, [31], fun vs _ => vs = [.pointer (some ⟨p, 5, none⟩)]⟩, ⟨3, 32, [32], fun vs _ => vs = [.map (some m)]⟩, ⟨4, 33, [33], fun vs _ => vs = [.pointer (some ⟨p, 0, none⟩)]⟩, ⟨5, 34, [34], fun vs _ => vs = [.pointer (some ⟨p, 0, none⟩)]⟩, ⟨6, 35, [35], fun vs _ => vs = [.pointer (some ⟨p, 4, none⟩)]⟩, ⟨7, 36, [36], fun vs _ => vs = [.int .i64 ((del : Int) + 1)]⟩] (by kernel_rfl) (by kernel_rfl) ?_ ?_ ?_
      · simp only [All]
        refine ⟨fun _ _ _ _ h => h, fun _ _ _ _ h => h, fun _ _ _ _ h => h, fun _ _ _ _ h => h, fun _ _ _ _ h => h, fun _ _ _ _ h => h, fun _ _ _ _ h => h, fun _ _ _ _ h => h, trivial⟩
      · simp only [All]
        refine ⟨?_, ?_, ?_, ?_, ?_, ?_, ?_, ?_, trivial⟩
        · intro o ho a' w' hb hfr hdep
          obtain rfl := Option.some.inj ho
          have g0 : a'.tmps[0]?.getD undef = .pointer (some ⟨p, 0, none⟩) := by have h := hfr 0 (by kernel_rfl); simpa using h
          clear ho hfr hdep
          go_wp2_with fail
          exact ⟨rfl, _, rfl, Below.refl _ _, rfl⟩
        · intro o ho a' w' hb hfr hdep
          obtain rfl := Option.some.inj ho
          have g29 : a'.tmps[29]?.getD undef = .pointer (some ⟨p, 0, none⟩) := by have h := hdep 0 _ rfl (by kernel_rfl); simpa using h
          clear ho hfr hdep
          go_wp2_with fail
          exact ⟨rfl, _, rfl, Below.refl _ _, rfl⟩
        · intro o ho a' w' hb hfr hdep
          obtain rfl := Option.some.inj ho
          have g30 : a'.tmps[30]?.getD undef = .pointer (some ⟨p, 0, none⟩) := by have h := hdep 1 _ rfl (by kernel_rfl); simpa using h
          clear ho hfr hdep
          go_wp2_with fail
          exact ⟨rfl, _, rfl, Below.refl _ _, rfl⟩
        · intro o ho a' w' hb hfr hdep
          obtain rfl := Option.some.inj ho
          have g31 : a'.tmps[31]?.getD undef = .pointer (some ⟨p, 5, none⟩) := by have h := hdep 2 _ rfl (by kernel_rfl); simpa using h
          clear ho hfr hdep
          have hcl := cell_blw k5.out hb
          go_wp2_with fail
          exact ⟨rfl, _, rfl, Below.refl _ _, rfl⟩
        · intro o ho a' w' hb hfr hdep
          obtain rfl := Option.some.inj ho
          have g0 : a'.tmps[0]?.getD undef = .pointer (some ⟨p, 0, none⟩) := by have h := hfr 0 (by kernel_rfl); simpa using h
          clear ho hfr hdep
          go_wp2_with fail
          exact ⟨rfl, _, rfl, Below.refl _ _, rfl⟩
        · intro o ho a' w' hb hfr hdep
          obtain rfl := Option.some.inj ho
          have g33 : a'.tmps[33]?.getD undef = .pointer (some ⟨p, 0, none⟩) := by have h := hdep 4 _ rfl (by kernel_rfl); simpa using h
          clear ho hfr hdep
          go_wp2_with fail
          exact ⟨rfl, _, rfl, Below.refl _ _, rfl⟩
        · intro o ho a' w' hb hfr hdep
          obtain rfl := Option.some.inj ho
          have g34 : a'.tmps[34]?.getD undef = .pointer (some ⟨p, 0, none⟩) := by have h := hdep 5 _ rfl (by kernel_rfl); simpa using h
          clear ho hfr hdep
          go_wp2_with fail
          exact ⟨rfl, _, rfl, Below.refl _ _, rfl⟩
        · intro o ho a' w' hb hfr hdep
          obtain rfl := Option.some.inj ho
          have g35 : a'.tmps[35]?.getD undef = .pointer (some ⟨p, 4, none⟩) := by have h := hdep 6 _ rfl (by kernel_rfl); simpa using h
          clear ho hfr hdep
          have hcl := cell_blw k4.out hb
          go_wp2_with fail
          exact ⟨rfl, _, rfl, Below.refl _ _, rfl⟩
      · intro g1 w4 hb4 hp'
        have p32 := hp' 3 _ rfl
        have p36 := hp' 7 _ rfl
        clear hp'
        simp at p32 p36
        simp only [List.drop_succ_cons, List.drop_zero, List.map_cons, List.map_nil, putAll, Act.put, List.setIfInBounds_toArray, List.set_cons_succ, List.set_cons_zero, List.cons_append, List.nil_append, p32, p36]
        clear p32 p36
        have M4 := hide (M3.out.below hb4)
        have hm4 : IMap w4 m (ms1.map mV) := M4.out.mp
        go_wp2_with (with_reducible refine del_int Try.underlying3 rfl _ _ 63 33 rfl Try.underlying63 m (ms1.map mV) rfl hm4 ((del : Int) + 1) rfl (.slice xa xn xc) l2.out ?_; intro w5 hm5 g5 s5; refine shold ?_)
        refine hide ?_
        have hnm : ∀ b, some m = some b → NoB w4 b := fun b hb => by injection hb with hb; subst hb; exact NoB.map hm4
        rw [show delM (ms1.map mV) ((del : Int) + 1) = ms2.map mV from l5.out] at hm5
        have M5 : Hid (EndM w5 p aw cw hs' m ms2 ⟨win, key, wait, acked, del + 1, dlE held (del + 1), ow, forged⟩) := M4.out.setmap (dlE held (del + 1)) ms2 hm5 g5 l6.out (l73.out.below hb4)
        have F5 : Hid (Fr [p, m] w w5) := (F3.out.below hb4).grown g5 (fun b hb => by cases hb; exact .inl (by simp))
        have sx5 := hide (sl_kept (sx3.out.below hb4) (kx3.out.below hb4) g5 hnm)
        have kx5 := hide ((kx3.out.below hb4).kept g5 hnm)
        have rO5 := hide ((rO3.out.below hb4).kept g5 hnm)
        have oO5 : Own w5 w.heap.size 33 1 a1 i c1 (ho.map hv) := own_same (oO3.out.below hb4) (fun q hq => by
          have h1 := World.ownsRow.lt (oO3.out.below hb4) _ (by rw [hq]; rfl)
          refine g5.block q.block h1.2 (fun e0 => ?_)
          injection e0 with e0
          have h2 := h0.out.mp.lt
          omega)
        have hsz : w.heap.size ≤ w5.heap.size := F5.out.size
        have hi5 : i ≤ 1000 := by have := hbd0.out.2; omega
        have hnb : ∀ b, a1.map (·.block) = some b → NoB w5 b := fun b hb => by
          cases a1 with
          | none => cases hb
          | some q =>
            injection hb with hb
            subst hb
            exact NoB.own oO5 (by decide)
        have hlb : ∀ b, a1.map (·.block) = some b → w.heap.size ≤ b := fun b hb => by
          cases a1 with
          | none => cases hb
          | some q =>
            injection hb with hb
            subst hb
            exact (World.ownsRow.lt oO5 _ rfl).1
        clear hm4 hm5 hnm g5 s5 hb4
        have sX : Sl (w5.alloc (.cells #[.slice xa xn xc] 33)) 1 (some ⟨w5.heap.size, 0, none⟩) 1 1 [hv (xa, xn, xc)] := Sl.fresh _ _ 1 1 [.slice xa xn xc] rfl (by decide)
        have hb6 : Below w5.heap.size w5 (w5.alloc (.cells #[.slice xa xn xc] 33)) := sblo _ _
        have oO6 := oO5.below hb6
        have M6 := hide (M5.out.below hb6)
        have F6 := hide (F5.out.below hb6)
        have sx6 := hide (sx5.out.below hb6)
        have kx6 := hide (kx5.out.below hb6)
        have rO6 := hide (rO5.out.below hb6)
        have hnb6 : Hid (∀ b, a1.map (·.block) = some b → NoB (w5.alloc (.cells #[.slice xa xn xc] 33)) b) := hide (fun b hb => by
          cases a1 with
          | none => cases hb
          | some q =>
            injection hb with hb
            subst hb
            exact NoB.own oO6 (by decide))
        have hsz6 : w.heap.size ≤ (w5.alloc (.cells #[.slice xa xn xc] 33)).heap.size := Nat.le_trans hsz hb6.size
        clear hb6 hnb oO5
        go_wp2_with (at_builtin; refine app_e rfl _ _ rfl (w5.alloc (.cells #[.slice xa xn xc] 33)) w.heap.size a1 i c1 ho rfl oO6 (xa, xn, xc) (some ⟨w5.heap.size, 0, none⟩) 1 rfl sX (by omega) hsz6 (Below.refl _ _) ?_; intro a8 c8 w8 ho8 hg8 hf8 b8)
        have hE2 : delE (e.held.length + 1) e = ((L1 ++ [b]) ++ (delE ((dlE held (del + 1)).length + 1) ⟨win, key, wait, acked, del + 1, dlE held (del + 1), ow, forged⟩).1, (delE ((dlE held (del + 1)).length + 1) ⟨win, key, wait, acked, del + 1, dlE held (del + 1), ow, forged⟩).2) := by
          have h1 : delE (held.length + 1) ⟨win, key, wait, acked, del, held, ow, forged⟩ = (b :: (delE ((dlE held (del + 1)).length + 1) ⟨win, key, wait, acked, del + 1, dlE held (del + 1), ow, forged⟩).1, (delE ((dlE held (del + 1)).length + 1) ⟨win, key, wait, acked, del + 1, dlE held (del + 1), ow, forged⟩).2) := by
            rw [l8.out, delE]
            simp only [l1.out]
          rw [hE0.out]
          simp only [h1, List.append_assoc, List.cons_append, List.nil_append]
        have hl8 := l8.out
        have hbd := hbd0.out
        go_roundg ((dlE held (del + 1)).length)
        case measure => have := HG.out; omega
        case rel =>
          refine ⟨⟨win, key, wait, acked, del + 1, dlE held (del + 1), ow, forged⟩, ms2, a8, c8, ho ++ [(xa, xn, xc)], L1 ++ [b], i + 1, rfl, by rw [List.length_append, hi0.out]; rfl, rfl, ?_, ho8, ?_, hE2, ⟨by simp only; omega, by simp only; omega⟩, hwt0.out, F6.out.grown hg8 (fun b hb => .inr (hlb b hb))⟩
          · refine M6.out.fr (S := (a1.map (·.block)).toList) ((Fr.refl _ _).grown hg8 (fun b hb => .inl (by rw [hb]; simp))) (fun b hb => hnb6.out b (by simpa using hb)) (fun b hb hb2 => ?_)
            have h1 := hlb b (by simpa using hb2)
            have h2 := h0.out.lt b hb
            omega
          · exact (rO6.out.append (Rows.one sx6.out kx6.out)).kept hg8 hnb6.out

end Go.Proofs.Ytjdnmbapmobaaaa
end

/- the text K15 -/
section
/- Chapter 37: what stands while a packet is taken in. -/
set_option linter.unusedVariables false
namespace Go.Proofs.Ytjdnmbapmobaaaa
open Go.RowKit Go.Dx Go.Al
/-- what a call of In hands back -/
def GivesIn (p : Nat) (g : Option Nat) (m : Nat) (e : En) (b : List UInt8) (w : World) (r : Ending) (w' : World) : Prop :=
  ∃ a1 c1 ho, r = .returned (.tuple #[.slice a1 (inE e b).2.1.length c1, .int .i64 (inE e b).2.2]) ∧ Own w' w.heap.size 33 1 a1 (inE e b).2.1.length c1 (ho.map hv) ∧ Rows w' ho (inE e b).2.1 ∧ EndAt w' p g m (inE e b).1 ∧ Fr (foot p g m) w w'
/-- the end, and the packet that was read, in memory -/
structure InS (w0 w : World) (p : Nat) (aw : Option Addr) (cw : Nat) (hs : List Hd) (m : Nat) (ms : List (Nat × Hd)) (e : En) (G : Nat) (S K : Int) (aP : Option Addr) (nP cP : Nat) (pb : List UInt8) : Prop where
  M : EndM w p aw cw hs m ms e
  F : Fr (foot p (aw.map (·.block)) m) w0 w
  X : Box w G 68 [.int .i64 S, .int .i64 K, .slice aP nP cP]
  s : Sl w 1 aP nP cP (pb.map B8)
  k : Kind w aP
  lt : ∀ b ∈ foot p (aw.map (·.block)) m, b < w0.heap.size
  g : w0.heap.size ≤ G
section
variable {w0 w w1 w2 : World} {p : Nat} {aw : Option Addr} {cw : Nat} {hs : List Hd} {m : Nat} {ms : List (Nat × Hd)} {e : En} {G : Nat} {S K : Int} {aP : Option Addr} {nP cP : Nat} {pb : List UInt8}
theorem InS.below (h : InS w0 w p aw cw hs m ms e G S K aP nP cP pb) (hb : Below w.heap.size w w1) : InS w0 w1 p aw cw hs m ms e G S K aP nP cP pb :=
  ⟨h.M.below hb, h.F.below hb, h.X.under hb, h.s.below hb, h.k.below hb, h.lt, h.g⟩
theorem InS.setbox (h : InS w0 w p aw cw hs m ms e G S K aP nP cP pb) (e' : En) (hw : e'.wait = e.wait) (hh : e'.held = e.held)
    (x : Box w2 p 65 [.int .i64 (e'.win : Int), V64 e'.key, .slice aw e'.wait.length cw, .int .i64 (e'.acked : Int), .int .i64 (e'.del : Int), .map (some m), .bool e'.ow, .int .i64 (e'.forged : Int)]) (g2 : w.grownBy w2 (some p)) : InS w0 w2 p aw cw hs m ms e' G S K aP nP cP pb := by
  have hn : ∀ b, some p = some b → NoB w b := fun b hb => by injection hb with hb; subst hb; exact NoB.box h.M.box (by decide)
  have hp := h.lt p (by simp [foot])
  have hG := h.g
  exact ⟨h.M.setbox e' hw hh x g2, h.F.grown g2 (fun b hb => by cases hb; exact .inl (by simp [foot])), h.X.grown g2 (fun e0 => by injection e0 with e0; omega), sl_kept h.s h.k g2 hn, h.k.kept g2 hn, h.lt, h.g⟩
/-- waiting is changed in place, then the box -/
theorem InS.step {hs' : List Hd} {c' : Nat} (h : InS w0 w p aw cw hs m ms e G S K aP nP cP pb) (e' : En) (g1 : w.grownBy w1 (aw.map (·.block))) (t : Own w1 0 33 1 aw e'.wait.length c' (hs'.map hv)) (r : Rows w1 hs' e'.wait) (hh : e'.held = e.held)
    (x : Box w2 p 65 [.int .i64 (e'.win : Int), V64 e'.key, .slice aw e'.wait.length c', .int .i64 (e'.acked : Int), .int .i64 (e'.del : Int), .map (some m), .bool e'.ow, .int .i64 (e'.forged : Int)]) (g2 : w1.grownBy w2 (some p)) : InS w0 w2 p aw c' hs' m ms e' G S K aP nP cP pb := by
  have hp := h.lt p (by simp [foot])
  have hG := h.g
  have hx1 : NoB w1 p := NoB.box (h.M.box.grown g1 h.M.ne_ap) (by decide)
  have hn2 : ∀ b, some p = some b → NoB w1 b := fun b hb => by injection hb with hb; subst hb; exact hx1
  have hX1 : Box w1 G 68 [.int .i64 S, .int .i64 K, .slice aP nP cP] := h.X.grown g1 (fun e0 => by
    have := h.lt G (by rw [← e0]; simp [foot])
    omega)
  refine ⟨h.M.step g1 t (fun q hq => .inl ⟨q, hq, rfl⟩) r hh x g2, (h.F.grown g1 (fun b hb => .inl (by rw [hb]; simp [foot]))).grown g2 (fun b hb => by cases hb; exact .inl (by simp [foot])), hX1.grown g2 (fun e0 => by injection e0 with e0; omega), sl_kept (sl_kept h.s h.k g1 h.M.nob_a) (h.k.kept g1 h.M.nob_a) g2 hn2, (h.k.kept g1 h.M.nob_a).kept g2 hn2, h.lt, h.g⟩
theorem InS.setmap (h : InS w0 w p aw cw hs m ms e G S K aP nP cP pb) (hl : List (Nat × List UInt8)) (ms2 : List (Nat × Hd)) (hm : IMap w2 m (ms2.map mV)) (g : w.grownBy w2 (some m)) (hk : ms2.map (·.1) = hl.map (·.1)) (hr : Rows w (ms2.map (·.2)) (hl.map (·.2))) : InS w0 w2 p aw cw hs m ms2 { e with held := hl } G S K aP nP cP pb := by
  have hn : ∀ b, some m = some b → NoB w b := fun b hb => by injection hb with hb; subst hb; exact NoB.map h.M.mp
  have hm0 := h.lt m (by simp [foot])
  have hG := h.g
  exact ⟨h.M.setmap hl ms2 hm g hk hr, h.F.grown g (fun b hb => by cases hb; exact .inl (by simp [foot])), h.X.grown g (fun e0 => by injection e0 with e0; omega), sl_kept h.s h.k g hn, h.k.kept g hn, h.lt, h.g⟩
end
theorem readZ_ok {l : List UInt8} {P : Pk} (h : readZ l = some P) : pkOk P = true := by
  unfold readZ at h
  split at h
  · split at h
    · split at h
      · rename_i h3
        injection h with h
        rw [← h]
        exact h3
      · cases h
    · cases h
  · cases h
theorem pkOk_parts {P : Pk} (h : pkOk P = true) : 0 ≤ P.seq ∧ 0 ≤ P.ack ∧ P.b.length ≤ 65536 := by
  unfold pkOk at h
  simp only [Bool.and_eq_true, decide_eq_true_eq] at h
  exact ⟨h.1.1.1, h.1.1.2, h.1.2⟩
theorem open_cases (key : UInt64) (b : List UInt8) : openZ key b = ([], 2) ∨ openZ key b = ([], 9) ∨ openZ key b = (b.take (b.length - 8), 0) := by
  unfold openZ
  split
  · exact .inl rfl
  · split
    · exact .inr (.inr rfl)
    · exact .inr (.inl rfl)
theorem quiet_bool {P : Program} {w : World} {ops : Array Oper} {rest : List Oper} {act : Act} {Q : Act → Prop} {o : Oper} (v : Value) (hw : Region.wanted o (yielded ops act.tmps) = true) (h : ∀ w', (execOp act.eval o).run P w' = .ok (.value v) w')
    (hK : wpQuiet P ops (fun w' => ∃ n, w' = w.drewN n) Q rest (act.put o.dst v)) : wpQuiet P ops (fun w' => ∃ n, w' = w.drewN n) Q (o :: rest) act := quiet_in v hw (fun w' _ => h w') hK
end Go.Proofs.Ytjdnmbapmobaaaa
end

/- the text K16 -/
section
/- Chapter 37: In. -/
set_option linter.unusedVariables false
namespace Go.Proofs.Ytjdnmbapmobaaaa
open Go.RowKit Go.Dx Go.Al
theorem Fr.more {S S' : List Nat} {w w' : World} (h : Fr S w w') (hs : ∀ b ∈ S, b ∈ S') : Fr S' w w' := ⟨h.os, h.tape, h.output, h.size, fun k hk hS => h.block k hk (fun hh => hS (hs k hh))⟩
theorem grown_twice {w w1 w2 : World} {b : Nat} (h : w.grownBy w1 (some b)) (k : w1.grownBy w2 (some b)) : w.grownBy w2 (some b) :=
  ⟨k.os.trans h.os, k.tape.trans h.tape, k.output.trans h.output, Nat.le_trans h.size k.size, fun i hi hne => (k.block i (Nat.lt_of_lt_of_le hi h.size) hne).trans (h.block i hi hne)⟩
theorem size_pk3 : (Try.prog.info? 68).map (·.size) = some 3 := by kernel_rfl
set_option maxRecDepth 100000 in
set_option maxHeartbeats 2000000 in
theorem lk_In (p : Nat) (g : Option Nat) (m : Nat) (e : En) (b : List UInt8) (a : Option Addr) (n c : Nat) (w : World) (h : EndAt w p g m e) (hs : Sl w 1 a n c (b.map B8)) (hl : b.length ≤ 1000) (hkw : e.wait.length ≤ 1000) (hal : e.acked ≤ 100000) (hdl : e.del ≤ 100000) (hfg : e.forged ≤ 100000) (hhl : e.held.length ≤ 900) :
    Calls Try.prog 19 #[.pointer (some ⟨p, 0, none⟩), .slice a n c] w (GivesIn p g m e b w) := by
  obtain ⟨aw, cw, hs', ms, h, rfl⟩ := h
  obtain ⟨win, key, wait, acked, del, held, ow, forged⟩ := e
  have HM := hide h
  have HS := hide hs
  have hkb : wait.length ≤ 1000 := hkw
  have hab : acked ≤ 100000 := hal
  have hdb : del ≤ 100000 := hdl
  have hfb : forged ≤ 100000 := hfg
  have hhb : held.length ≤ 900 := hhl
  clear h hs hkw hal hdl hfg hhl
  rcases open_cases key b with hX | hX | hX
  · have hZ : inE ⟨win, key, wait, acked, del, held, ow, forged⟩ b = (⟨win, key, wait, acked, del, held, ow, forged⟩, [], 2) := by
      unfold inE
      simp only [hX]
      rfl
    unfold GivesIn
    rw [hZ]
    have hX := hide hX
    clear hZ hkb hab hdb hfb hhb
    have k1 : w.cell? ⟨p, 1, none⟩ = some (V64 key) := HM.out.box.at_ (j := 1) rfl
    go_enter Try.func19, Try.ntmps19
    go_wp2_with (go_at_call 25; refine (lk_Open key b a n c w HS.out hl hX.out).mono ?_; rintro e1 w1 ⟨ac, cc, rfl, oc, b1⟩; skip)
    go_ret2
    exact ⟨none, 0, [], rfl, Own.nil _ _ _ _, Rows.nil _, ⟨aw, cw, hs', ms, HM.out.below b1, rfl⟩, Fr.of b1⟩
  · have hZ : inE ⟨win, key, wait, acked, del, held, ow, forged⟩ b = (⟨win, key, wait, acked, del, held, ow, forged + 1⟩, [], 9) := by
      unfold inE
      simp only [hX]
      rfl
    unfold GivesIn
    rw [hZ]
    have hX := hide hX
    have hw1 : IntKind.i64.wrap ((forged : Int) + 1) = (forged : Int) + 1 := IntWalk.i64_in _ (by omega)
    clear hZ hkb hab hdb hfb hhb
    have k1 : w.cell? ⟨p, 1, none⟩ = some (V64 key) := HM.out.box.at_ (j := 1) rfl
    go_enter Try.func19, Try.ntmps19
    go_wp2_with (first
      | (go_at_call 25; refine (lk_Open key b a n c w HS.out hl hX.out).mono ?_; rintro e1 w1 ⟨ac, cc, rfl, oc, b1⟩; have x1 := hide (HM.out.box.under b1); have k7 := x1.out.at_ (j := 7) rfl)
      | (with_reducible refine store_cell 3 _ _ 65 p 7 [.int .i64 (win : Int), V64 key, .slice aw wait.length cw, .int .i64 (acked : Int), .int .i64 (del : Int), .map (some m), .bool ow, .int .i64 (forged : Int)] (.int .i64 ((forged : Int) + 1)) size_i x1.out rfl rfl rfl rfl (by simp) ?_; intro w3 x3 g3 s3; clear k7))
    go_ret2
    refine ⟨none, 0, [], rfl, Own.nil _ _ _ _, Rows.nil _, ⟨aw, cw, hs', ms, (HM.out.below b1).setbox _ rfl rfl ?_ g3, rfl⟩, (Fr.of b1).grown g3 (fun b hb => by cases hb; exact .inl (by simp [foot]))⟩
    simpa using x3
  · obtain ⟨core, hcore⟩ : ∃ core, Hid (b.take (b.length - 8) = core) := ⟨_, hide rfl⟩
    have hX2 : openZ key b = (core, 0) := by rw [hX, hcore.out]
    clear hX
    have hX := hide hX2
    obtain ⟨rr, hR⟩ : ∃ rr, Hid (readZ core = rr) := ⟨_, hide rfl⟩
    cases rr with
    | none =>
      have hZ : inE ⟨win, key, wait, acked, del, held, ow, forged⟩ b = (⟨win, key, wait, acked, del, held, ow, forged⟩, [], 2) := by
        unfold inE
        simp only [hX2, hR.out]
        rfl
      unfold GivesIn
      rw [hZ]
      clear hZ hX2 hkb hab hdb hfb hhb
      have k1 : w.cell? ⟨p, 1, none⟩ = some (V64 key) := HM.out.box.at_ (j := 1) rfl
      go_enter Try.func19, Try.ntmps19
      go_wp2_with (first
        | (go_at_call 25; refine (lk_Open key b a n c w HS.out hl hX.out).mono ?_; rintro e1 w1 ⟨ac, cc, rfl, oc, b1⟩; skip)
        | (go_at_call 36; refine (lk_read core ac core.length cc w1 oc.sl (by rw [← hcore.out, List.length_take]; omega) hR.out).mono ?_; rintro e2 w2 ⟨S, K, aP, nP, cP, rfl, b2, hP⟩; have HP := hide hP; clear hP; have b12 := hide (b1.trans (b2.mono b1.size)); clear b1 b2 oc)
        | (with_reducible refine store_fresh 68 68 _ _ 3 size_pk3 _ rfl _ [.int .i64 S, .int .i64 K, .slice aP nP cP] rfl rfl rfl rfl (by simp [Value.oneCell']) ?_; refine shold ?_))
      refine hide ?_
      have b3 := b12.out.trans ((sblo w2 (.cells #[.int .i64 S, .int .i64 K, .slice aP nP cP] 68)).mono b12.out.size)
      go_wp2_with fail
      go_ret2
      exact ⟨none, 0, [], rfl, Own.nil _ _ _ _, Rows.nil _, ⟨aw, cw, hs', ms, HM.out.below b3, rfl⟩, Fr.of b3⟩
    | some P =>
      obtain ⟨hS0, hK0, hPb⟩ := pkOk_parts (readZ_ok hR.out)
      obtain ⟨PS, PA, pb⟩ := P
      obtain ⟨q, rfl⟩ : ∃ q : Nat, PS = q := ⟨PS.toNat, by have h : (0 : Int) ≤ PS := hS0; omega⟩
      obtain ⟨t, rfl⟩ : ∃ t : Nat, PA = t := ⟨PA.toNat, by have h : (0 : Int) ≤ PA := hK0; omega⟩
      have hpb2 : pb.length ≤ 65536 := hPb
      have HZ : Hid (inE ⟨win, key, wait, acked, del, held, ow, forged⟩ b = ((inP ⟨win, key, wait, acked, del, held, ow, forged⟩ ⟨(q : Int), (t : Int), pb⟩).1, (inP ⟨win, key, wait, acked, del, held, ow, forged⟩ ⟨(q : Int), (t : Int), pb⟩).2, 0)) := hide (by
        unfold inE
        simp only [hX2, hR.out]
        rfl)
      clear hX2 hS0 hK0 hPb
      have k1 : w.cell? ⟨p, 1, none⟩ = some (V64 key) := HM.out.box.at_ (j := 1) rfl
      go_enter Try.func19, Try.ntmps19
      go_wp2_with (first
        | (go_at_call 25; refine (lk_Open key b a n c w HS.out hl hX.out).mono ?_; rintro e1 w1 ⟨ac, cc, rfl, oc, b1⟩; skip)
        | (go_at_call 36; refine (lk_read core ac core.length cc w1 oc.sl (by rw [← hcore.out, List.length_take]; omega) hR.out).mono ?_; rintro e2 w2 ⟨S, K, aP, nP, cP, rfl, b2, hP⟩; have HP := hide hP; clear hP; have b12 := hide (b1.trans (b2.mono b1.size)); clear b1 b2 oc)
        | (with_reducible refine store_fresh 68 68 _ _ 3 size_pk3 _ rfl _ [.int .i64 S, .int .i64 K, .slice aP nP cP] rfl rfl rfl rfl (by simp [Value.oneCell']) ?_; refine shold ?_))
      refine hide ?_
      obtain ⟨rfl, rfl, rfl, sP, kP⟩ := HP.out _ rfl
      have I4 : Hid (InS w (w2.alloc (.cells #[.int .i64 (q : Int), .int .i64 (t : Int), .slice aP pb.length cP] 68)) p aw cw hs' m ms ⟨win, key, wait, acked, del, held, ow, forged⟩ w2.heap.size (q : Int) (t : Int) aP pb.length cP pb) := by
        have hb := sblo w2 (.cells #[.int .i64 (q : Int), .int .i64 (t : Int), .slice aP pb.length cP] 68)
        exact ⟨(HM.out.below b12.out).below hb, (Fr.of b12.out).below hb, Box.new _ _ _, sP.below hb, kP.below hb, HM.out.lt, b12.out.size⟩
      have hG := b12.out.size
      clear sP kP HP b12 k1
      generalize w2.alloc (.cells #[.int .i64 (q : Int), .int .i64 (t : Int), .slice aP pb.length cP] 68) = w4 at *
      generalize w2.heap.size = G at *
      obtain ⟨k, hk⟩ : ∃ k, Hid (wait.length = k) := ⟨_, hide rfl⟩
      rw [hk.out] at hkb
      have k2 := I4.out.M.box.at_ (j := 2) rfl
      have k3 := I4.out.M.box.at_ (j := 3) rfl
      have k4 := I4.out.M.box.at_ (j := 4) rfl
      have g0 := I4.out.X.at_ (j := 0) rfl
      have g1 := I4.out.X.at_ (j := 1) rfl
      simp only [hk.out] at k2
      have hw1 : IntKind.i64.wrap ((acked : Int) + (k : Int)) = (acked : Int) + (k : Int) := IntWalk.i64_in _ (by omega)
      have hw2 : IntKind.i64.wrap ((del : Int) + 16) = (del : Int) + 16 := IntWalk.i64_in _ (by omega)
      by_cases hA : acked + k < t
      · have d1 : decide ((acked : Int) + (k : Int) < (t : Int)) = true := decide_eq_true (by omega)
        have HI : Hid (inP (⟨win, key, wait, acked, del, held, ow, forged⟩ : En) (⟨(q : Int), (t : Int), pb⟩ : Pk) = ((⟨win, key, wait, acked, del, held, ow, forged⟩ : En), [])) := hide (by
          unfold inP
          rw [if_pos (.inl (by simp only [Int.toNat_natCast, hk.out]; exact hA))])
        clear hA
        go_wp2_with fail
        have hb : Hid (∀ n, Below w4.heap.size w4 (w4.drewN n)) := hide (fun n => Still.below n)
        go_quiet (fail)
        have I5 := hide (I4.out.below (hb.out nq))
        clear hb k2 k3 k4 g0 g1
        generalize w4.drewN nq = w5 at *
        go_wp2_with fail
        go_ret2
        unfold GivesIn
        rw [HZ.out, HI.out]
        exact ⟨none, 0, [], rfl, Own.nil _ _ _ _, Rows.nil _, ⟨_, _, _, _, I5.out.M, rfl⟩, I5.out.F⟩
      · have d1 : decide ((acked : Int) + (k : Int) < (t : Int)) = false := decide_eq_false (by omega)
        by_cases hB : del + 16 < q
        · have d2 : decide ((del : Int) + 16 < (q : Int)) = true := decide_eq_true (by omega)
          have HI : Hid (inP (⟨win, key, wait, acked, del, held, ow, forged⟩ : En) (⟨(q : Int), (t : Int), pb⟩ : Pk) = ((⟨win, key, wait, acked, del, held, ow, forged⟩ : En), [])) := hide (by
            unfold inP
            rw [if_pos (.inr (by simp only [Int.toNat_natCast]; exact hB))])
          clear hA hB
          go_wp2_with fail
          have hb : Hid (∀ n, Below w4.heap.size w4 (w4.drewN n)) := hide (fun n => Still.below n)
          go_quiet (fail)
          have I5 := hide (I4.out.below (hb.out nq))
          clear hb k2 k3 k4 g0 g1
          generalize w4.drewN nq = w5 at *
          go_wp2_with fail
          go_ret2
          unfold GivesIn
          rw [HZ.out, HI.out]
          exact ⟨none, 0, [], rfl, Own.nil _ _ _ _, Rows.nil _, ⟨_, _, _, _, I5.out.M, rfl⟩, I5.out.F⟩
        · have d2 : decide ((del : Int) + 16 < (q : Int)) = false := decide_eq_false (by omega)
          have hout : Hid (¬ (acked + wait.length < ((t : Int)).toNat ∨ del + 16 < ((q : Int)).toNat)) := hide (by simp only [Int.toNat_natCast, hk.out]; omega)
          go_wp2_with fail
          have hb : Hid (∀ n, Below w4.heap.size w4 (w4.drewN n)) := hide (fun n => Still.below n)
          go_quiet (fail)
          have I5 := hide (I4.out.below (hb.out nq))
          clear hb k2 k3 k4 g0 g1 d1 d2 hw1 hw2
          generalize w4.drewN nq = w5 at *
          have k3 := I5.out.M.box.at_ (j := 3) rfl
          have g1 := I5.out.X.at_ (j := 1) rfl
          obtain ⟨z, hz⟩ : ∃ z : Int, (t : Int) - (acked : Int) = z := ⟨_, rfl⟩
          have hw3 : IntKind.i64.wrap z = z := IntWalk.i64_in _ (by omega)
          have HTZ := hide hz
          have hz2 : z ≤ 1000 := by omega
          clear hA hB
          go_wp2_with fail
          have hb : Hid (∀ n, Below w5.heap.size w5 (w5.drewN n)) := hide (fun n => Still.below n)
          go_quiet (fail)
          have I6 := hide (I5.out.below (hb.out nq))
          clear hb k3 g1 hz hw3
          generalize w5.drewN nq = w6 at *
          go_upto_if 72 with fail
          go_cut [10] (fun v w' => ∃ c7 hs7 wait7 acked7, Hid (ackE (⟨win, key, wait, acked, del, held, ow, forged⟩ : En) t = (⟨win, key, wait7, acked7, del, held, ow, forged⟩ : En)) ∧ InS w w' p aw c7 hs7 m ms (⟨win, key, wait7, acked7, del, held, ow, forged⟩ : En) G (q : Int) (t : Int) aP pb.length cP pb)
          case first =>
            by_cases hzp : 0 < z
            · obtain ⟨d, hd⟩ : ∃ d : Nat, z = d := ⟨z.toNat, by omega⟩
              subst hd
              have hta : t = acked + d := by have := HTZ.out; omega
              have hdk : d ≤ k := by have h1 := hout.out; simp only [Int.toNat_natCast, hk.out] at h1; omega
              have d3 : decide ((0 : Int) < (d : Int)) = true := decide_eq_true hzp
              obtain ⟨gw, hgw⟩ := own_zero I6.out.M.top (show 0 < wait.length by rw [hk.out]; omega)
              subst hgw
              have hE : Hid (ackE (⟨win, key, wait, acked, del, held, ow, forged⟩ : En) t = ⟨win, key, wait.drop d, t, del, held, ow, forged⟩) := hide (by
                unfold ackE
                rw [if_pos (show acked < t by omega)]
                have e1 : t - acked = d := by omega
                simp only [e1])
              have htop : Hid (Own w6 0 33 1 (some ⟨gw, 0, none⟩) k cw (hs'.map hv)) := hide (by have h := I6.out.M.top; simp only [hk.out] at h; exact h)
              have k2 := I6.out.M.box.at_ (j := 2) rfl
              have g1 := I6.out.X.at_ (j := 1) rfl
              simp only [hk.out] at k2
              have hd0 : 0 < d := by omega
              have hx6 := hide I6.out.M.box
              clear hzp hta
              go_wp2_with (first
                | (go_at_call 37; refine (sl_Delete gw k cw d hs' w6 htop.out hd0 hdk).mono ?_; rintro e1 w7 ⟨rfl, o7, q7⟩; have hy7 := hx6.out.grown q7 (by have := I6.out.M.ne_ap; simpa using this); simp only [hk.out] at hy7; have x7 := hide hy7; have O7 := hide o7; have Q7 := hide q7; have g17 := (I6.out.X.grown q7 (by have h1 := I6.out.lt gw (by simp [foot]); have h2 := I6.out.g; intro e0; have e1 : G = gw := (by simpa using e0); omega)).at_ (j := 1) rfl; clear hy7 o7 q7 k2 g1)
                | (with_reducible refine hold_store ?_))
              refine hide ?_
              refine store_cell 28 _ _ 65 p 2 [.int .i64 (win : Int), V64 key, .slice (some ⟨gw, 0, none⟩) k cw, .int .i64 (acked : Int), .int .i64 (del : Int), .map (some m), .bool ow, .int .i64 (forged : Int)] (.slice (some ⟨gw, 0, none⟩) (k - d) cw) size_sl x7.out rfl rfl rfl rfl (by simp) ?_
              intro w8 x8 g8 s8
              simp only [List.set_cons_succ, List.set_cons_zero] at x8
              have X8 := hide x8
              have G8 := hide g8
              have g18 : w8.cell? ⟨G, 1, none⟩ = some (.int .i64 (t : Int)) := g8.cell g17 (by
                have h1 := I6.out.lt p (by simp [foot])
                have h2 := I6.out.g
                intro e0
                have e1 : G = p := Option.some.inj e0
                omega)
              clear x8 g8 g17
              go_wp2_with (with_reducible refine store_cell 3 _ _ 65 p 3 [.int .i64 (win : Int), V64 key, .slice (some ⟨gw, 0, none⟩) (k - d) cw, .int .i64 (acked : Int), .int .i64 (del : Int), .map (some m), .bool ow, .int .i64 (forged : Int)] (.int .i64 (t : Int)) size_i X8.out rfl rfl rfl rfl (by simp) ?_; intro w9 x9 g9 s9; simp only [List.set_cons_succ, List.set_cons_zero] at x9)
              go_meet
              refine ⟨cw, hs'.drop d, wait.drop d, t, hE, ?_⟩
              have hlen : (wait.drop d).length = k - d := by rw [List.length_drop, hk.out]
              refine InS.step I6.out _ Q7.out (by rw [hlen]; exact O7.out) ?_ rfl (by rw [hlen]; exact x9) (g2 := ?_)
              · exact (I6.out.M.row.kept Q7.out I6.out.M.nob_a).drop d
              · exact grown_twice G8.out g9
            · have d3 : decide ((0 : Int) < z) = false := decide_eq_false hzp
              have hE : Hid (ackE (⟨win, key, wait, acked, del, held, ow, forged⟩ : En) t = (⟨win, key, wait, acked, del, held, ow, forged⟩ : En)) := hide (by
                unfold ackE
                rw [if_neg (show ¬ (acked < t) by have := HTZ.out; omega)])
              have hz0 : z ≤ 0 := by omega
              clear hzp
              go_wp2_with fail
              go_meet
              exact ⟨cw, hs', wait, acked, hE, I6.out⟩
          case rest =>
            obtain ⟨c7, hs7, wait7, acked7, hack7, hI7⟩ := hcut
            have I7 := hide hI7
            clear hI7
            obtain ⟨w7, rfl⟩ : ∃ w7 : World, w7 = wc := ⟨_, rfl⟩
            have g0 := I7.out.X.at_ (j := 0) rfl
            by_cases hq0 : q = 0
            · have d8 : ((q : Int) == 0) = true := by simp [hq0]
              have HI : Hid (inP (⟨win, key, wait, acked, del, held, ow, forged⟩ : En) (⟨(q : Int), (t : Int), pb⟩ : Pk) = ((⟨win, key, wait7, acked7, del, held, ow, forged⟩ : En), [])) := hide (by
                unfold inP
                rw [if_neg hout.out, if_pos (show ((q : Int) = 0) by omega)]
                simp only [Int.toNat_natCast, hack7.out])
              clear hq0
              go_wp2_with fail
              go_ret2
              unfold GivesIn
              rw [HZ.out, HI.out]
              exact ⟨none, 0, [], rfl, Own.nil _ _ _ _, Rows.nil _, ⟨_, _, _, _, I7.out.M, rfl⟩, I7.out.F⟩
            · have d8 : ((q : Int) == 0) = false := by simp; omega
              have x7 := hide I7.out.M.box
              go_wp2_with (with_reducible refine store_cell 4 _ _ 65 p 6 [.int .i64 (win : Int), V64 key, .slice aw wait7.length c7, .int .i64 (acked7 : Int), .int .i64 (del : Int), .map (some m), .bool ow, .int .i64 (forged : Int)] (.bool true) size_bl x7.out rfl rfl rfl rfl (by simp) ?_; intro w8 x8 g8 s8; refine shold ?_)
              refine hide ?_
              simp only [List.set_cons_succ, List.set_cons_zero] at x8
              have I8 : Hid (InS w w8 p aw c7 hs7 m ms (⟨win, key, wait7, acked7, del, held, true, forged⟩ : En) G (q : Int) (t : Int) aP pb.length cP pb) := hide (I7.out.setbox _ rfl rfl x8 g8)
              clear x7 x8 g8 s8 g0 I7
              rcases look_two w8 q ms held I8.out.M.key I8.out.M.rows with ⟨l1, l2⟩ | ⟨bb, x, ms2, l1, l2, sx, kx, l5, l6, l7, l8⟩
              · have l2 : Hid (lkM (ms.map mV) (q : Int) = none) := l2
                by_cases hdq : del < q
                · have d9 : decide ((del : Int) < (q : Int)) = true := decide_eq_true (by omega)
                  have d9n : decide (del < q) = true := decide_eq_true hdq
                  obtain ⟨D, HD⟩ : ∃ D, Hid (delE ((⟨win, key, wait7, acked7, del, held ++ [(q, pb)], true, forged⟩ : En).held.length + 1) (⟨win, key, wait7, acked7, del, held ++ [(q, pb)], true, forged⟩ : En) = D) := ⟨_, hide rfl⟩
                  have HI : Hid (inP (⟨win, key, wait, acked, del, held, ow, forged⟩ : En) (⟨(q : Int), (t : Int), pb⟩ : Pk) = (D.2, D.1)) := hide (by
                    unfold inP
                    rw [if_neg hout.out, if_neg (show ¬ ((q : Int) = 0) by omega)]
                    simp only [Int.toNat_natCast, hack7.out]
                    have e1 : holdE ⟨win, key, wait7, acked7, del, held, true, forged⟩ q pb = (⟨win, key, wait7, acked7, del, held ++ [(q, pb)], true, forged⟩ : En) := by
                      unfold holdE
                      exact if_pos ⟨hdq, l1⟩
                    rw [e1]
                    have e2 := HD.out
                    simp only at e2 ⊢
                    rw [e2])
                  clear l1 hdq hkb hab hout hack7
                  have k4 := I8.out.M.box.at_ (j := 4) rfl
                  have k5 := I8.out.M.box.at_ (j := 5) rfl
                  have g0 := I8.out.X.at_ (j := 0) rfl
                  have hmp : Hid (IMap w8 m (ms.map mV)) := I8.out.M.mp
                  go_wp2_with fail
                  have hb : Hid (∀ n, Below w8.heap.size w8 (w8.drewN n)) := hide (fun n => Still.below n)
                  refine wp_region_quiet_lit (by kernel_rfl) (by kernel_rfl) ?_
                  iterate 6 go_big_quiet_step (fail)
                  refine quiet_look _ _ rfl m (ms.map mV) rfl hmp.out (q : Int) rfl rfl (.slice none 0 0) false (by rw [l2.out]) ?_
                  simp only [Act.put, List.setIfInBounds_toArray, List.set_cons_succ, List.set_cons_zero]
                  repeat (go_big_quiet_step (fail))
                  refine wpQuiet_nil ?_
                  rintro _ ⟨nq, rfl⟩
                  have I9 := hide (I8.out.below (hb.out nq))
                  clear hb k4 k5 g0 hmp
                  generalize w8.drewN nq = w9 at *
                  have k4 := I9.out.M.box.at_ (j := 4) rfl
                  have g0 := I9.out.X.at_ (j := 0) rfl
                  go_wp2_with fail
                  have hb : Hid (∀ n, Below w9.heap.size w9 (w9.drewN n)) := hide (fun n => Still.below n)
                  refine wp_region_quiet_lit (by kernel_rfl) (by kernel_rfl) ?_
                  repeat (go_big_quiet_step (fail))
                  refine wpQuiet_nil ?_
                  rintro _ ⟨nq, rfl⟩
                  have I10 := hide (I9.out.below (hb.out nq))
                  clear hb k4 g0
                  generalize w9.drewN nq = w10 at *
                  have k5 := hide (I10.out.M.box.at_ (j := 5) rfl)
                  have g0 := hide (I10.out.X.at_ (j := 0) rfl)
                  have g2 := hide (I10.out.X.at_ (j := 2) rfl)
                  go_wp2_with fail
                  refine wp_region_free 9 [⟨0, 114, [114], fun vs _ => vs = [.pointer (some ⟨p, 0, none⟩)]⟩, ⟨1, 115, [115], fun vs _ => vs = [.pointer (some ⟨p, 0, none⟩)]⟩, ⟨2, 116, [116], fun vs _ => vs = [.pointer (some ⟨p, 5, none⟩)]⟩, ⟨3, 117, [117], fun vs _ => vs = [.map (some m)]⟩, ⟨4, 118, [118], fun vs _ => vs = [.pointer (some ⟨G, 0, none⟩)]⟩, ⟨5, 119, [119], fun vs _ => vs = [.int .i64 (q : Int)]⟩, ⟨6, 120, [120], fun vs _ => vs = [.pointer (some ⟨G, 2, none⟩)]⟩, ⟨7, 121, [121], fun vs _ => vs = [.slice aP pb.length cP]⟩, ⟨8, 122, [122], fun vs w' => ∃ a' c', vs = [.slice a' pb.length c'] ∧ Own w' w10.heap.size 5 1 a' pb.length c' (pb.map B8)⟩] (by kernel_rfl) (by kernel_rfl) ?_ ?_ ?_
                  · simp only [All]
                    refine ⟨fun _ _ _ _ h => h, fun _ _ _ _ h => h, fun _ _ _ _ h => h, fun _ _ _ _ h => h, fun _ _ _ _ h => h, fun _ _ _ _ h => h, fun _ _ _ _ h => h, fun _ _ _ _ h => h, ?_, trivial⟩
                    · rintro vs w w' hb ⟨a', c', h1, h2⟩
                      exact ⟨a', c', h1, h2.below hb⟩
                  · simp only [All]
                    refine ⟨?_, ?_, ?_, ?_, ?_, ?_, ?_, ?_, ?_, trivial⟩
                    · intro o ho a' w' hb hfr hdep
                      obtain rfl := Option.some.inj ho
                      have g0 : a'.tmps[0]?.getD undef = .pointer (some ⟨p, 0, none⟩) := by have h := hfr 0 (by kernel_rfl); simpa using h
                      clear ho hfr hdep
                      go_wp2_with fail
                      exact ⟨rfl, _, rfl, Below.refl _ _, rfl⟩
                    · intro o ho a' w' hb hfr hdep
                      obtain rfl := Option.some.inj ho
                      have g114 : a'.tmps[114]?.getD undef = .pointer (some ⟨p, 0, none⟩) := by have h := hdep 0 _ rfl (by kernel_rfl); simpa using h
                      clear ho hfr hdep
                      go_wp2_with fail
                      exact ⟨rfl, _, rfl, Below.refl _ _, rfl⟩
                    · intro o ho a' w' hb hfr hdep
                      obtain rfl := Option.some.inj ho
                      have g115 : a'.tmps[115]?.getD undef = .pointer (some ⟨p, 0, none⟩) := by have h := hdep 1 _ rfl (by kernel_rfl); simpa using h
                      clear ho hfr hdep
                      go_wp2_with fail
                      exact ⟨rfl, _, rfl, Below.refl _ _, rfl⟩
                    · intro o ho a' w' hb hfr hdep
                      obtain rfl := Option.some.inj ho
                      have g116 : a'.tmps[116]?.getD undef = .pointer (some ⟨p, 5, none⟩) := by have h := hdep 2 _ rfl (by kernel_rfl); simpa using h
                      clear ho hfr hdep
                      have hcl := cell_blw k5.out hb
                      go_wp2_with fail
                      exact ⟨rfl, _, rfl, Below.refl _ _, rfl⟩
                    · intro o ho a' w' hb hfr hdep
                      obtain rfl := Option.some.inj ho
                      have g8 : a'.tmps[8]?.getD undef = .pointer (some ⟨G, 0, none⟩) := by have h := hfr 8 (by kernel_rfl); simpa using h
                      clear ho hfr hdep
                      go_wp2_with fail
                      exact ⟨rfl, _, rfl, Below.refl _ _, rfl⟩
                    · intro o ho a' w' hb hfr hdep
                      obtain rfl := Option.some.inj ho
                      have g118 : a'.tmps[118]?.getD undef = .pointer (some ⟨G, 0, none⟩) := by have h := hdep 4 _ rfl (by kernel_rfl); simpa using h
                      clear ho hfr hdep
                      have hcl := cell_blw g0.out hb
                      go_wp2_with fail
                      exact ⟨rfl, _, rfl, Below.refl _ _, rfl⟩
                    · intro o ho a' w' hb hfr hdep
                      obtain rfl := Option.some.inj ho
                      have g8 : a'.tmps[8]?.getD undef = .pointer (some ⟨G, 0, none⟩) := by have h := hfr 8 (by kernel_rfl); simpa using h
                      clear ho hfr hdep
                      go_wp2_with fail
                      exact ⟨rfl, _, rfl, Below.refl _ _, rfl⟩
                    · intro o ho a' w' hb hfr hdep
                      obtain rfl := Option.some.inj ho
                      have g120 : a'.tmps[120]?.getD undef = .pointer (some ⟨G, 2, none⟩) := by have h := hdep 6 _ rfl (by kernel_rfl); simpa using h
                      clear ho hfr hdep
                      have hcl := cell_blw g2.out hb
                      go_wp2_with fail
                      exact ⟨rfl, _, rfl, Below.refl _ _, rfl⟩
                    · intro o ho a' w' hb hfr hdep
                      obtain rfl := Option.some.inj ho
                      have g121 : a'.tmps[121]?.getD undef = .slice aP pb.length cP := by have h := hdep 7 _ rfl (by kernel_rfl); simpa using h
                      clear ho hfr hdep
                      go_wp2_with fail
                      refine (clone6 pb aP pb.length cP _ (I10.out.s.below hb) (by omega)).mono ?_
                      rintro e w2 ⟨a2, c2, rfl, o2, h2⟩
                      go_wp2_with fail
                      exact ⟨rfl, _, rfl, h2, _, _, rfl, o2.mono hb.size⟩
                  · intro gg w11 hb hp'
                    obtain ⟨aC, cC, p122, oC⟩ := hp' 8 _ rfl
                    have p117 := hp' 3 _ rfl
                    have p119 := hp' 5 _ rfl
                    clear hp'
                    simp at p122 p117 p119
                    simp only [List.drop_succ_cons, List.drop_zero, List.map_cons, List.map_nil, putAll, Act.put, List.setIfInBounds_toArray, List.set_cons_succ, List.set_cons_zero, List.cons_append, List.nil_append, p122, p117, p119]
                    clear p122 p117 p119 k5 g0 g2
                    have I11 := hide (I10.out.below hb)
                    have hm11 : IMap w11 m (ms.map mV) := I11.out.M.mp
                    go_wp2_with (with_reducible refine put_int Try.underlying3 rfl _ _ _ 63 33 rfl Try.underlying63 m (ms.map mV) rfl hm11 (q : Int) rfl (.slice aC pb.length cC) rfl l2.out ?_; intro w12 hm12 g12 s12; refine shold ?_)
                    refine hide ?_
                    have I12 : Hid (InS w w12 p aw c7 hs7 m (ms ++ [(q, (aC, pb.length, cC))]) (⟨win, key, wait7, acked7, del, held ++ [(q, pb)], true, forged⟩ : En) G (q : Int) (t : Int) aP pb.length cP pb) := by
                      refine I11.out.setmap (held ++ [(q, pb)]) (ms ++ [(q, (aC, pb.length, cC))]) ?_ g12 ?_ ?_
                      · rw [List.map_append]; exact hm12
                      · have hk9 : ms.map (·.1) = held.map (·.1) := I11.out.M.key
                        rw [List.map_append, List.map_append, hk9]
                        rfl
                      · rw [List.map_append, List.map_append]
                        exact I11.out.M.rows.append (Rows.one oC.sl (own_kindB oC))
                    clear hm11 hm12 g12 s12 hb oC I11 I10 I9
                    have hcd := lk_deliver p aw c7 hs7 m (ms ++ [(q, (aC, pb.length, cC))]) _ _ I12.out.M (by show del + (held ++ [(q, pb)]).length ≤ 200000; rw [List.length_append]; simp only [List.length_cons, List.length_nil]; omega) (by show (held ++ [(q, pb)]).length ≤ 1000; rw [List.length_append]; simp only [List.length_cons, List.length_nil]; omega)
                    rw [HD.out] at hcd
                    go_wp2_with (go_at_call 38; refine hcd.mono ?_; rintro e9 w9 ⟨a9, c9, ho9, ms9, rfl, o9, r9, M9, F9⟩)
                    go_ret2
                    unfold GivesIn
                    rw [HZ.out, HI.out]
                    exact ⟨a9, c9, ho9, rfl, o9.mono I12.out.F.size, r9, ⟨_, _, _, _, M9, rfl⟩, I12.out.F.trans (F9.more (by intro b hb; simp only [foot, List.mem_cons] at hb ⊢; rcases hb with hb | hb | hb; exact .inl hb; exact .inr (.inl hb); cases hb))⟩
                    
                · have d9 : decide ((del : Int) < (q : Int)) = false := decide_eq_false (by omega)
                  have d9n : decide (del < q) = false := decide_eq_false hdq
                  obtain ⟨D, HD⟩ : ∃ D, Hid (delE ((⟨win, key, wait7, acked7, del, held, true, forged⟩ : En).held.length + 1) (⟨win, key, wait7, acked7, del, held, true, forged⟩ : En) = D) := ⟨_, hide rfl⟩
                  have HI : Hid (inP (⟨win, key, wait, acked, del, held, ow, forged⟩ : En) (⟨(q : Int), (t : Int), pb⟩ : Pk) = (D.2, D.1)) := hide (by
                    unfold inP
                    rw [if_neg hout.out, if_neg (show ¬ ((q : Int) = 0) by omega)]
                    simp only [Int.toNat_natCast, hack7.out]
                    have e1 : holdE ⟨win, key, wait7, acked7, del, held, true, forged⟩ q pb = (⟨win, key, wait7, acked7, del, held, true, forged⟩ : En) := by
                      unfold holdE
                      exact if_neg (fun h => hdq h.1)
                    rw [e1]
                    have e2 := HD.out
                    simp only at e2 ⊢
                    rw [e2])
                  clear l1 hdq hkb hab hout hack7
                  have k4 := I8.out.M.box.at_ (j := 4) rfl
                  have k5 := I8.out.M.box.at_ (j := 5) rfl
                  have g0 := I8.out.X.at_ (j := 0) rfl
                  have hmp : Hid (IMap w8 m (ms.map mV)) := I8.out.M.mp
                  go_wp2_with fail
                  have hb : Hid (∀ n, Below w8.heap.size w8 (w8.drewN n)) := hide (fun n => Still.below n)
                  refine wp_region_quiet_lit (by kernel_rfl) (by kernel_rfl) ?_
                  iterate 6 go_big_quiet_step (fail)
                  refine quiet_look _ _ rfl m (ms.map mV) rfl hmp.out (q : Int) rfl rfl (.slice none 0 0) false (by rw [l2.out]) ?_
                  simp only [Act.put, List.setIfInBounds_toArray, List.set_cons_succ, List.set_cons_zero]
                  repeat (go_big_quiet_step (fail))
                  refine wpQuiet_nil ?_
                  rintro _ ⟨nq, rfl⟩
                  have I9 := hide (I8.out.below (hb.out nq))
                  clear hb k4 k5 g0 hmp
                  generalize w8.drewN nq = w9 at *
                  have k4 := I9.out.M.box.at_ (j := 4) rfl
                  have g0 := I9.out.X.at_ (j := 0) rfl
                  go_wp2_with fail
                  have hb : Hid (∀ n, Below w9.heap.size w9 (w9.drewN n)) := hide (fun n => Still.below n)
                  refine wp_region_quiet_lit (by kernel_rfl) (by kernel_rfl) ?_
                  repeat (go_big_quiet_step (fail))
                  refine wpQuiet_nil ?_
                  rintro _ ⟨nq, rfl⟩
                  have I10 := hide (I9.out.below (hb.out nq))
                  clear hb k4 g0
                  generalize w9.drewN nq = w10 at *
                  have hcd := lk_deliver p aw c7 hs7 m ms _ _ I10.out.M (by show del + held.length ≤ 200000; omega) (by show held.length ≤ 1000; omega)
                  rw [HD.out] at hcd
                  go_wp2_with (go_at_call 38; refine hcd.mono ?_; rintro e9 w9 ⟨a9, c9, ho9, ms9, rfl, o9, r9, M9, F9⟩)
                  go_ret2
                  unfold GivesIn
                  rw [HZ.out, HI.out]
                  exact ⟨a9, c9, ho9, rfl, o9.mono I10.out.F.size, r9, ⟨_, _, _, _, M9, rfl⟩, I10.out.F.trans (F9.more (by intro b hb; simp only [foot, List.mem_cons] at hb ⊢; rcases hb with hb | hb | hb; exact .inl hb; exact .inr (.inl hb); cases hb))⟩
              · obtain ⟨xa, xn, xc⟩ := x
                have l2 : Hid (lkM (ms.map mV) (q : Int) = some (.slice xa xn xc)) := l2
                obtain ⟨D, HD⟩ : ∃ D, Hid (delE ((⟨win, key, wait7, acked7, del, held, true, forged⟩ : En).held.length + 1) (⟨win, key, wait7, acked7, del, held, true, forged⟩ : En) = D) := ⟨_, hide rfl⟩
                have HI : Hid (inP (⟨win, key, wait, acked, del, held, ow, forged⟩ : En) (⟨(q : Int), (t : Int), pb⟩ : Pk) = (D.2, D.1)) := hide (by
                  unfold inP
                  rw [if_neg hout.out, if_neg (show ¬ ((q : Int) = 0) by omega)]
                  simp only [Int.toNat_natCast, hack7.out]
                  have e1 : holdE ⟨win, key, wait7, acked7, del, held, true, forged⟩ q pb = (⟨win, key, wait7, acked7, del, held, true, forged⟩ : En) := by
                    unfold holdE
                    exact if_neg (fun h => by rw [h.2] at l1; cases l1)
                  rw [e1]
                  have e2 := HD.out
                  simp only at e2 ⊢
                  rw [e2])
                clear l1 sx kx l5 l6 l7 l8
                by_cases hdq : del < q
                · have d9 : decide ((del : Int) < (q : Int)) = true := decide_eq_true (by omega)
                  have d9n : decide (del < q) = true := decide_eq_true hdq
                  clear hdq hkb hab hout hack7
                  have k4 := I8.out.M.box.at_ (j := 4) rfl
                  have k5 := I8.out.M.box.at_ (j := 5) rfl
                  have g0 := I8.out.X.at_ (j := 0) rfl
                  have hmp : Hid (IMap w8 m (ms.map mV)) := I8.out.M.mp
                  go_wp2_with fail
                  have hb : Hid (∀ n, Below w8.heap.size w8 (w8.drewN n)) := hide (fun n => Still.below n)
                  refine wp_region_quiet_lit (by kernel_rfl) (by kernel_rfl) ?_
                  iterate 6 go_big_quiet_step (fail)
                  refine quiet_look _ _ rfl m (ms.map mV) rfl hmp.out (q : Int) rfl rfl (.slice xa xn xc) true (by rw [l2.out]) ?_
                  simp only [Act.put, List.setIfInBounds_toArray, List.set_cons_succ, List.set_cons_zero]
                  repeat (go_big_quiet_step (fail))
                  refine wpQuiet_nil ?_
                  rintro _ ⟨nq, rfl⟩
                  have I9 := hide (I8.out.below (hb.out nq))
                  clear hb k4 k5 g0 hmp
                  generalize w8.drewN nq = w9 at *
                  have k4 := I9.out.M.box.at_ (j := 4) rfl
                  have g0 := I9.out.X.at_ (j := 0) rfl
                  go_wp2_with fail
                  have hb : Hid (∀ n, Below w9.heap.size w9 (w9.drewN n)) := hide (fun n => Still.below n)
                  refine wp_region_quiet_lit (by kernel_rfl) (by kernel_rfl) ?_
                  repeat (go_big_quiet_step (fail))
                  refine wpQuiet_nil ?_
                  rintro _ ⟨nq, rfl⟩
                  have I10 := hide (I9.out.below (hb.out nq))
                  clear hb k4 g0
                  generalize w9.drewN nq = w10 at *
                  have hcd := lk_deliver p aw c7 hs7 m ms _ _ I10.out.M (by show del + held.length ≤ 200000; omega) (by show held.length ≤ 1000; omega)
                  rw [HD.out] at hcd
                  go_wp2_with (go_at_call 38; refine hcd.mono ?_; rintro e9 w9 ⟨a9, c9, ho9, ms9, rfl, o9, r9, M9, F9⟩)
                  go_ret2
                  unfold GivesIn
                  rw [HZ.out, HI.out]
                  exact ⟨a9, c9, ho9, rfl, o9.mono I10.out.F.size, r9, ⟨_, _, _, _, M9, rfl⟩, I10.out.F.trans (F9.more (by intro b hb; simp only [foot, List.mem_cons] at hb ⊢; rcases hb with hb | hb | hb; exact .inl hb; exact .inr (.inl hb); cases hb))⟩
                · have d9 : decide ((del : Int) < (q : Int)) = false := decide_eq_false (by omega)
                  have d9n : decide (del < q) = false := decide_eq_false hdq
                  clear hdq hkb hab hout hack7
                  have k4 := I8.out.M.box.at_ (j := 4) rfl
                  have k5 := I8.out.M.box.at_ (j := 5) rfl
                  have g0 := I8.out.X.at_ (j := 0) rfl
                  have hmp : Hid (IMap w8 m (ms.map mV)) := I8.out.M.mp
                  go_wp2_with fail
                  have hb : Hid (∀ n, Below w8.heap.size w8 (w8.drewN n)) := hide (fun n => Still.below n)
                  refine wp_region_quiet_lit (by kernel_rfl) (by kernel_rfl) ?_
                  iterate 6 go_big_quiet_step (fail)
                  refine quiet_look _ _ rfl m (ms.map mV) rfl hmp.out (q : Int) rfl rfl (.slice xa xn xc) true (by rw [l2.out]) ?_
                  simp only [Act.put, List.setIfInBounds_toArray, List.set_cons_succ, List.set_cons_zero]
                  repeat (go_big_quiet_step (fail))
                  refine wpQuiet_nil ?_
                  rintro _ ⟨nq, rfl⟩
                  have I9 := hide (I8.out.below (hb.out nq))
                  clear hb k4 k5 g0 hmp
                  generalize w8.drewN nq = w9 at *
                  have k4 := I9.out.M.box.at_ (j := 4) rfl
                  have g0 := I9.out.X.at_ (j := 0) rfl
                  go_wp2_with fail
                  have hb : Hid (∀ n, Below w9.heap.size w9 (w9.drewN n)) := hide (fun n => Still.below n)
                  refine wp_region_quiet_lit (by kernel_rfl) (by kernel_rfl) ?_
                  repeat (go_big_quiet_step (fail))
                  refine wpQuiet_nil ?_
                  rintro _ ⟨nq, rfl⟩
                  have I10 := hide (I9.out.below (hb.out nq))
                  clear hb k4 g0
                  generalize w9.drewN nq = w10 at *
                  have hcd := lk_deliver p aw c7 hs7 m ms _ _ I10.out.M (by show del + held.length ≤ 200000; omega) (by show held.length ≤ 1000; omega)
                  rw [HD.out] at hcd
                  go_wp2_with (go_at_call 38; refine hcd.mono ?_; rintro e9 w9 ⟨a9, c9, ho9, ms9, rfl, o9, r9, M9, F9⟩)
                  go_ret2
                  unfold GivesIn
                  rw [HZ.out, HI.out]
                  exact ⟨a9, c9, ho9, rfl, o9.mono I10.out.F.size, r9, ⟨_, _, _, _, M9, rfl⟩, I10.out.F.trans (F9.more (by intro b hb; simp only [foot, List.mem_cons] at hb ⊢; rcases hb with hb | hb | hb; exact .inl hb; exact .inr (.inl hb); cases hb))⟩
end Go.Proofs.Ytjdnmbapmobaaaa
end

/- the text At -/
section
namespace Go.Proofs.Ytjdnmbapmobaaaa
open Go.RowKit Go.Dx

/-- a number below m out of another, out of a list -/
def aroundF (n : Int) (m : Nat) : Nat := ((if n < 0 then -(n + 1) else n) % (m : Int)).toNat
def atF (l : List Int) (i : Int) (m : Nat) : Nat := if i < 0 ∨ (l.length : Int) ≤ i then 0 else aroundF (l.getD i.toNat 0) m
theorem aroundF_eq {n : Int} {m : Nat} (hm : 1 ≤ m) : (if n < 0 then -(n + 1) else n) % (m : Int) = (aroundF n m : Int) := by
  have h3 := Int.emod_nonneg (if n < 0 then -(n + 1) else n) (show (m : Int) ≠ 0 by omega)
  unfold aroundF; omega
theorem aroundF_lt {n : Int} {m : Nat} (hm : 1 ≤ m) : aroundF n m < m := by
  have h2 := Int.emod_lt_of_pos (if n < 0 then -(n + 1) else n) (show (0 : Int) < m by omega)
  have h3 := aroundF_eq (n := n) hm
  omega
theorem atF_lt {l : List Int} {i : Int} {m : Nat} (hm : 1 ≤ m) : atF l i m < m := by
  unfold atF; split
  · omega
  · exact aroundF_lt hm
set_option maxHeartbeats 400000 in
theorem ref_Around (n v : Int) (m : Nat) (w : World) (hv : (m : Int) = v) (h0 : -9223372036854775808 ≤ n) (h1 : n ≤ 9223372036854775807) (hm : 1 ≤ m) (hm2 : m ≤ 1000000000) :
    Calls Try.prog 10 #[.int .i64 n, .int .i64 v] w fun e w' => e = .returned (.int .i64 (aroundF n m : Nat)) ∧ w = w' := by
  subst hv
  have hr := aroundF_eq (n := n) hm
  obtain ⟨r, HR⟩ : ∃ r, Hid (aroundF n m = r) := ⟨_, hide rfl⟩
  rw [HR.out] at hr ⊢
  by_cases hn : n < 0
  · rw [if_pos hn] at hr
    have HH := hide hr
    clear hr
    go_enter Try.func10, Try.ntmps10
    go_wp2
    go_ret
    exact ⟨by rw [← HH.out, ← Int.tmod_eq_emod_of_nonneg (by omega), Int.neg_tmod]; rfl, rfl⟩
  · rw [if_neg hn] at hr
    have HH := hide hr
    clear hr
    go_enter Try.func10, Try.ntmps10
    go_wp2
    go_ret
    exact ⟨by rw [← HH.out]; rfl, rfl⟩
theorem Around_at {n v : Int} {m r : Nat} (h : aroundF n m = r) (hv : (m : Int) = v) (hm : 1 ≤ m) (hm2 : m ≤ 1000000000) (h0 : -9223372036854775808 ≤ n) (h1 : n ≤ 9223372036854775807) {w : World} :
    Calls Try.prog 10 #[.int .i64 n, .int .i64 v] w fun e w' => e = .returned (.int .i64 (r : Int)) ∧ w = w' := by
  subst h; exact ref_Around n v m w hv h0 h1 hm hm2
end Go.Proofs.Ytjdnmbapmobaaaa
end

/- the text K17 -/
section
/- Chapter 37: the reference's Seal and Bytes. -/
set_option linter.unusedVariables false
namespace Go.Proofs.Ytjdnmbapmobaaaa
open Go.RowKit Go.Dx Go.Al
theorem byteN_mod (n k : Nat) : ∃ r : Nat, r < 256 ∧ ((n / 256 ^ k : Nat) : Int) % 256 = (r : Int) ∧ ((n / 256 ^ k : Nat) : Int).tmod 256 = (r : Int) ∧ IntKind.u8.wrap (r : Int) = ((byteN n k).toNat : Int) ∧ (byteN n k).toNat = r := by
  unfold byteN
  generalize n / 256 ^ k = H
  refine ⟨H % 256, Nat.mod_lt _ (by decide), by omega, ?_, ?_, ?_⟩
  · rw [Int.tmod_eq_emod_of_nonneg (by omega)]; omega
  · rw [UInt8.toNat_ofNat', IntKind.wrap_u8']
    omega
  · rw [UInt8.toNat_ofNat']
theorem byteN_div (n k : Nat) : ((n / 256 ^ k : Nat) : Int) / 256 = ((n / 256 ^ (k + 1) : Nat) : Int) ∧ ((n / 256 ^ k : Nat) : Int).tdiv 256 = ((n / 256 ^ (k + 1) : Nat) : Int) := by
  have e : n / 256 ^ (k + 1) = n / 256 ^ k / 256 := by rw [Nat.pow_succ, Nat.div_div_eq_div_mul]
  rw [e]
  generalize n / 256 ^ k = H
  refine ⟨by omega, ?_⟩
  rw [Int.tdiv_eq_ediv_of_nonneg (by omega)]
  omega
set_option maxRecDepth 100000 in
set_option maxHeartbeats 2000000 in
theorem ref_Seal (key : UInt64) (l : List UInt8) (a : Option Addr) (n c : Nat) (w : World) (hs : Sl w 1 a n c (l.map B8)) (hl : l.length ≤ 1000) {R : List UInt8} (hR : sealL key l = R) :
    Calls Try.prog 17 #[V64 key, .slice a n c] w (Gives 5 1 R.length (R.map B8) w) := by
  have hn := hs.n_eq
  have hk := x_xor 14695981039346656037 key
  have hk0 : ((14695981039346656037 : UInt64).toNat : Int) = 14695981039346656037 := by decide
  rw [hk0, show 14695981039346656037 ^^^ key = fnv0 key from rfl] at hk
  have HN := hide hn
  have hs1 := hide hs
  have hn1000 : n ≤ 1000 := by omega
  clear hk0 hs hn
  go_enter Try.func17, Try.ntmps17
  go_wp2_with fail
  clear hk
  go_loopg [5, 6] l.length (fun gh h v w' => ∃ k : Nat, k ≤ l.length ∧ gh = l.length - k ∧ h = V64 (fnvFrom (fnv0 key) (l.take k)) ∧ v = .int .i64 (k : Int) ∧ w = w')
  case atStart => exact ⟨0, by omega, by omega, rfl, rfl, rfl⟩
  case round =>
    obtain ⟨k, hk, hg, rfl, rfl, rfl⟩ := hrel
    have HG := hide hg
    clear hg
    have hnn := HN.out
    by_cases hlt : k < l.length
    · obtain ⟨u, hu⟩ : ∃ u, l[k]? = some u := ⟨l[k], by simp⟩
      have HT := hide (fnvFrom_take (fnv0 key) hu)
      obtain ⟨H, hH⟩ : ∃ H, Hid (fnvFrom (fnv0 key) (l.take k) = H) := ⟨_, rfl⟩
      rw [hH.out] at HT ⊢
      obtain ⟨X, hX1, hX2⟩ := x_step H u
      obtain ⟨b, o, rfl, _, hc⟩ := hs1.out.ex (by rw [List.length_map]; omega)
      have q1 := hc k (B8 u) (box_at hu)
      have d0 : decide ((k : Int) < (n : Int)) = true := decide_eq_true (by omega)
      have d1 : k < n := by omega
      clear hc hu hnn
      have hX0 := x_wrap u
      have hX1' := hX1.out
      have hX2' := hX2.out
      go_wp2_with fail
      go_roundg (l.length - (k + 1))
      case measure => have := HG.out; omega
      case rel => exact ⟨k + 1, by omega, rfl, by rw [HT.out], by go_num, rfl⟩
    · have hkl : l.take k = l := List.take_of_length_le (by omega)
      have hkn : k = n := by omega
      have d0 : decide ((k : Int) < (n : Int)) = false := decide_eq_false (by omega)
      have d1 : decide (k < n) = false := decide_eq_false (by omega)
      obtain ⟨N, hN⟩ : ∃ N, Hid ((Go.Dx.fnv key l).toNat = N) := ⟨_, rfl⟩
      have hNe : ((fnvFrom (fnv0 key) (l.take k)).toNat : Int) = (N : Int) := by rw [hkl]; exact congrArg Int.ofNat hN.out
      have hN64 : Hid (N < 18446744073709551616) := hide (by rw [← hN.out]; exact UInt64.toNat_lt _)
      rw [show V64 (fnvFrom (fnv0 key) (l.take k)) = Value.int .u64 (N : Int) from congrArg (Value.int IntKind.u64) hNe]
      have HRN : Hid (l ++ sealTo N 8 = R) := hide (by rw [← hN.out]; exact hR)
      clear hkl hNe hkn hnn
      have ho := Own.built w w.heap.size 5 1 0 #[] (Nat.le_refl _) rfl (by decide)
      have hb := sblo w (.cells #[] 5)
      have hs2 := hs1.out.alloc (.cells #[] 5)
      go_wp2_with (at_builtin; refine app_bs rfl _ _ rfl w w.heap.size _ 0 0 _ rfl ho a n c l rfl hs2 (by omega) (by simp) hb ?_; intro a' c' w1 ho' hgr' hb')
      have ho2 : Own w1 w.heap.size 5 1 a' n c' ((l ++ sealTo N 0).map B8) := by
        rw [Nat.zero_add] at ho'
        have e : sealTo N 0 = [] := rfl
        rw [e, List.append_nil]
        exact ho'
      have hN0 : N = N / 256 ^ 0 := by simp
      clear ho hb hs2 ho' hgr' d0 d1
      go_loopg [5, 7, 8] 8 (fun gh h s v w' => ∃ (j : Nat) (a : Option Addr) (c : Nat), j ≤ 8 ∧ gh = 8 - j ∧ h = .int .u64 ((N / 256 ^ j : Nat) : Int) ∧ s = .slice a (n + j) c ∧ v = .int .i64 (j : Int) ∧ Own w' w.heap.size 5 1 a (n + j) c ((l ++ sealTo N j).map B8) ∧ Below w.heap.size w w')
      case atStart => exact ⟨0, a', c', by omega, by omega, by rw [← hN0], rfl, rfl, ho2, hb'⟩
      case round =>
        clear ho2 hb'
        obtain ⟨j, a8, c8, hj, hg, rfl, rfl, rfl, o8, b8⟩ := hrel
        have HG2 := hide hg
        clear hg
        by_cases hlt2 : j < 8
        · have d0 : decide ((j : Int) < 8) = true := decide_eq_true (by omega)
          obtain ⟨r, hr0, hr1, hr2, hr3, hr4⟩ := byteN_mod N j
          obtain ⟨hq1, hq2⟩ := byteN_div N j
          have HS := hide (sealTo_succ N j)
          have hw64 : IntKind.u64.wrap ((N / 256 ^ (j + 1) : Nat) : Int) = ((N / 256 ^ (j + 1) : Nat) : Int) := by
            have h3 := Nat.div_le_self N (256 ^ (j + 1))
            have h4 := hN64.out
            generalize N / 256 ^ (j + 1) = H at *
            rw [IntKind.wrap_u64]
            omega
          obtain ⟨H, hH⟩ : ∃ H, Hid (N / 256 ^ j = H) := ⟨_, rfl⟩
          obtain ⟨H2, hH2⟩ : ∃ H2, Hid (N / 256 ^ (j + 1) = H2) := ⟨_, rfl⟩
          obtain ⟨bj, hbj⟩ : ∃ bj, Hid (byteN N j = bj) := ⟨_, rfl⟩
          rw [hH.out] at hr1 hr2 hq1 hq2 ⊢
          rw [hH2.out] at hq1 hq2 hw64
          rw [hbj.out] at hr3 hr4 HS
          have HR4 := hide hr4
          clear hr4
          have oA := hide o8
          clear o8
          go_wp2_with (at_builtin; refine app_b rfl _ _ rfl w w.heap.size a8 (n + j) c8 _ rfl oA.out (bj.toNat : Int) rfl (by omega) b8.size b8 ?_; intro a9 c9 w9 ho9 hgr9 hb9)
          go_roundg (8 - (j + 1))
          case measure => have := HG2.out; omega
          case rel =>
            refine ⟨j + 1, a9, c9, by omega, rfl, by rw [hH2.out], rfl, by go_num, ?_, hb9⟩
            rw [HS.out, ← List.append_assoc, List.map_append]
            exact ho9
        · obtain rfl : j = 8 := by omega
          have d0 : decide ((8 : Int) < 8) = false := by decide
          go_wp2_with fail
          go_ret
          rw [HRN.out] at o8
          have hRl : n + 8 = R.length := by
            have := o8.len
            rw [List.length_map] at this
            omega
          rw [hRl] at o8 ⊢
          exact ⟨a8, c8, rfl, o8, b8⟩
set_option maxRecDepth 100000 in
set_option maxHeartbeats 2000000 in
theorem ref_PBytes (p : Pk) (h1 : -9223372036854775808 ≤ p.seq ∧ p.seq ≤ 9223372036854775807) (h2 : -9223372036854775808 ≤ p.ack ∧ p.ack ≤ 9223372036854775807) (hb : p.b.length ≤ 900) (a : Option Addr) (n c : Nat) (w : World) (hs : Sl w 1 a n c (p.b.map B8)) {R : List UInt8} (hR : pkB p = R) :
    Calls Try.prog 18 #[.agg #[.int .i64 p.seq, .int .i64 p.ack, .slice a n c]] w (Gives 5 1 R.length (R.map B8) w) := by
  obtain ⟨S, K, b⟩ := p
  obtain ⟨X, HX⟩ : ∃ X, Hid (encInts [S, K] = X) := ⟨_, rfl⟩
  obtain ⟨Y, HY⟩ : ∃ Y, Hid (encBytes b = Y) := ⟨_, rfl⟩
  have hXl : X.length ≤ 27 := by rw [← HX.out]; exact encInts_le _
  have hYl : Y.length ≤ 1000 := by
    rw [← HY.out]
    have h3 := encInt_le ((b.length : Nat) : Int)
    have h4 : b.length ≤ 900 := hb
    unfold encBytes
    simp only [List.length_append]
    omega
  have HRR : Hid (X ++ Y = R) := hide (by rw [← HX.out, ← HY.out]; exact hR)
  have HI : Hid (∀ a n c w, Sl w 1 a n c ([S, K].map I64) → Calls Try.prog 34 #[.slice a n c] w (Gives 5 1 X.length (X.map B8) w)) := hide (fun a n c w h => by
    have h3 := ref_Ints [S, K] (fun x hx => by
      rcases List.mem_cons.1 hx with rfl | hx
      · exact h1
      · rcases List.mem_cons.1 hx with rfl | hx
        · exact h2
        · cases hx) (by rw [HX.out]; omega) (by simp) a n c w h
    rw [HX.out] at h3
    exact h3)
  have HB : Hid (∀ w, Calls Try.prog 35 #[.string ⟨b.toArray⟩] w (Gives 5 1 Y.length (Y.map B8) w)) := hide (fun w => by
    have h3 := ref_Bytes ⟨b.toArray⟩ (by have h4 : b.length ≤ 900 := hb; show b.toArray.size ≤ _; rw [List.size_toArray]; omega) w
    have e : (⟨b.toArray⟩ : ByteArray).data.toList = b := by simp
    rw [e, HY.out] at h3
    exact h3)
  have hs0 := hide hs
  have hRl : Hid (X.length + Y.length = R.length) := hide (by rw [← HRR.out, List.length_append])
  clear hs hR h1 h2 hb
  go_enter Try.func18, Try.ntmps18
  go_upto_region 1 with fail
  obtain ⟨w1, G1, hw1, e1, x1, b1, l1⟩ := allocs1 w [.int .i64 S, .int .i64 K, .slice a n c] 43
  rw [← hw1, ← e1]
  clear hw1 e1
  have q0 := x1.at_ (j := 0) rfl
  have q1 := x1.at_ (j := 1) rfl
  have X1 := hide x1
  clear x1
  have sI : Sl (w1.alloc (.cells #[.int .i64 S, .int .i64 K] 3)) 1 (some ⟨w1.heap.size, 0, none⟩) 2 2 ([S, K].map I64) := Sl.fresh _ _ 1 2 [.int .i64 S, .int .i64 K] rfl (by decide)
  have bI := b1.trans ((sblo w1 (.cells #[.int .i64 S, .int .i64 K] 3)).mono b1.size)
  go_wp2_with (first
    | (go_at_call 34; refine (HI.out _ _ _ _ sI).mono ?_; rintro e w2 ⟨aX, cX, rfl, oX, bX⟩; have b2 := bI.trans (bX.mono bI.size); have q2 := (X1.out.under ((sblo w1 _).trans (bX.mono (sblo w1 _).size))).at_ (j := 2) rfl; have sb := hs0.out.below b2; have OX := hide oX; clear sI bI q0 q1 oX bX)
    | (with_reducible refine to_str 13 _ a n c b rfl sb ?_)
    | (go_at_call 35; refine (HB.out _).mono ?_; rintro e w3 ⟨aY, cY, rfl, oY, bY⟩; have b3 := b2.trans (bY.mono b2.size); have oX3 := OX.out.below bY; have sY := oY.sl; clear q2 sb)
    | (at_builtin; refine app_bs rfl _ _ rfl w w.heap.size aX X.length cX _ rfl (oX3.mono (Nat.le_trans b1.size (sblo w1 _).size)) aY Y.length cY Y rfl sY (by omega) b3.size b3 ?_; intro a9 c9 w9 ho9 hgr9 hb9))
  go_ret
  rw [← List.map_append, HRR.out, hRl.out] at ho9
  rw [hRl.out]
  exact ⟨a9, c9, rfl, ho9, hb9⟩
end Go.Proofs.Ytjdnmbapmobaaaa
end

/- the text K18 -/
section
/- Chapter 37, plain: a packet's bytes are read back; the section's example. -/
set_option linter.unusedVariables false
namespace Go.Dx
theorem read_pk (p : Pk) (h : pkOk p = true) (hs : p.seq ≤ 9223372036854775807) (ha : p.ack ≤ 9223372036854775807) : readZ (pkB p) = some p := by
  obtain ⟨S, K, b⟩ := p
  have h0 := h
  unfold pkOk at h0
  simp only [Bool.and_eq_true, decide_eq_true_eq] at h0
  obtain ⟨⟨⟨h1, h2⟩, h3⟩, _⟩ := h0
  have hI : decSeq decInt (pkB ⟨S, K, b⟩) = ([S, K], ((encInts [S, K]).length : Int), 0) := by
    have h4 := decSeq_round round_int [S, K] (fun x hx => by
      rcases List.mem_cons.1 hx with rfl | hx
      · exact ⟨by omega, hs⟩
      · rcases List.mem_cons.1 hx with rfl | hx
        · exact ⟨by omega, ha⟩
        · cases hx) (by simp) (encBytes b)
    exact h4
  have hD : (pkB ⟨S, K, b⟩).drop (encInts [S, K]).length = encBytes b := by
    unfold pkB
    rw [List.drop_left]
  have hB : decBytes (encBytes b) = (⟨b.toArray⟩, ((encBytes b).length : Int), 0) := by
    have h4 := (round_bytes ⟨b.toArray⟩ [] (by show b.toArray.size ≤ _; rw [List.size_toArray]; omega)).1
    simpa using h4
  unfold readZ
  rw [hI]
  simp only [Int.toNat_natCast, hD, hB]
  rw [if_pos ⟨trivial, by simp⟩, if_pos ⟨trivial, by show _ = ((encInts [S, K] ++ encBytes b).length : Int); rw [List.length_append]; omega⟩]
  simp only [List.getD_cons_zero, List.getD_cons_succ]
  rw [if_pos h]
theorem inE_pk (e : En) (p : Pk) (h : pkOk p = true) (hs : p.seq ≤ 9223372036854775807) (ha : p.ack ≤ 9223372036854775807) : inE e (sealL e.key (pkB p)) = ((inP e p).1, (inP e p).2, 0) := by
  unfold inE
  rw [open_seal, read_pk p h hs ha]
  rfl
def exA (n : Nat) : En := ⟨2, 9, ([[97], [98], [99]] : List (List UInt8)).take n, 0, 0, [], false, 0⟩
def exB (n : Nat) : En := ⟨2, 9, [], 0, if n = 2 then 2 else 0, if n = 1 then [(2, [98])] else [], decide (n ≠ 0), 0⟩
def exC (o : Bool) : En := ⟨2, 9, [[99]], 2, 0, [], o, 0⟩
theorem ex_send0 : sendE (newE 2 9) [97] = (exA 1, 0) := rfl
theorem ex_send1 : sendE (exA 1) [98] = (exA 2, 0) := rfl
theorem ex_send2 : sendE (exA 2) [99] = (exA 3, 0) := rfl
theorem ex_out3 : outE (exA 3) = [sealL 9 (pkB ⟨1, 0, [97]⟩), sealL 9 (pkB ⟨2, 0, [98]⟩)] := rfl
theorem ex_outS3 : outS (exA 3) = exA 3 := rfl
theorem ex_in0 : inE (newE 2 9) (sealL 9 (pkB ⟨2, 0, [98]⟩)) = (exB 1, [], 0) := inE_pk (newE 2 9) ⟨2, 0, [98]⟩ (by decide) (by decide) (by decide)
theorem ex_in1 : inE (exB 1) (sealL 9 (pkB ⟨1, 0, [97]⟩)) = (exB 2, [[97], [98]], 0) := inE_pk (exB 1) ⟨1, 0, [97]⟩ (by decide) (by decide) (by decide)
theorem ex_outB : outE (exB 2) = [sealL 9 (pkB ⟨0, 2, []⟩)] := rfl
theorem ex_in2 : inE (exA 3) (sealL 9 (pkB ⟨0, 2, []⟩)) = (exC false, [], 0) := inE_pk (exA 3) ⟨0, 2, []⟩ (by decide) (by decide) (by decide)
theorem ex_outC : outE (exC false) = [sealL 9 (pkB ⟨3, 0, [99]⟩)] := rfl
end Go.Dx
end

/- the text K19 -/
section
/- Chapter 37: two ends, and lists of rows, in memory. -/
set_option linter.unusedVariables false
namespace Go.Proofs.Ytjdnmbapmobaaaa
open Go.RowKit Go.Dx Go.Al
theorem EndAt.nob {w : World} {p : Nat} {g : Option Nat} {m : Nat} {e : En} (h : EndAt w p g m e) : ∀ b ∈ foot p g m, NoB w b := by
  obtain ⟨a, c, hs, ms, h, rfl⟩ := h
  exact h.nob
theorem EndAt.lt {w : World} {p : Nat} {g : Option Nat} {m : Nat} {e : En} (h : EndAt w p g m e) : ∀ b ∈ foot p g m, b < w.heap.size := by
  obtain ⟨a, c, hs, ms, h, rfl⟩ := h
  exact h.lt
theorem Fr.on {S S' : List Nat} {w w1 w2 : World} (h : Fr S w w1) (k : Fr S' w1 w2) (hs : ∀ b ∈ S', b ∈ S ∨ w.heap.size ≤ b) : Fr S w w2 :=
  ⟨k.os.trans h.os, k.tape.trans h.tape, k.output.trans h.output, Nat.le_trans h.size k.size, fun i hi hS => (k.block i (Nat.lt_of_lt_of_le hi h.size) (fun hh => by rcases hs i hh with h1 | h1; exact hS h1; omega)).trans (h.block i hi hS)⟩
theorem foot_p (p : Nat) (g : Option Nat) (m : Nat) : ∀ b ∈ [p], b ∈ foot p g m := fun b hb => by simp at hb; simp [foot, hb]
/-- two ends, apart -/
structure Duo (w : World) (pa : Nat) (ga : Option Nat) (ma : Nat) (ea : En) (pb : Nat) (gb : Option Nat) (mb : Nat) (eb : En) : Prop where
  A : EndAt w pa ga ma ea
  B : EndAt w pb gb mb eb
  ap : ∀ x ∈ foot pa ga ma, x ∉ foot pb gb mb
def both (pa : Nat) (ga : Option Nat) (ma : Nat) (pb : Nat) (gb : Option Nat) (mb : Nat) : List Nat := foot pa ga ma ++ foot pb gb mb
section
variable {w w' : World} {pa : Nat} {ga ga' : Option Nat} {ma : Nat} {ea ea' : En} {pb : Nat} {gb gb' : Option Nat} {mb : Nat} {eb eb' : En}
theorem Duo.swap (h : Duo w pa ga ma ea pb gb mb eb) : Duo w pb gb mb eb pa ga ma ea := ⟨h.B, h.A, fun x hx hy => h.ap x hy hx⟩
theorem Duo.below (h : Duo w pa ga ma ea pb gb mb eb) (hb : Below w.heap.size w w') : Duo w' pa ga ma ea pb gb mb eb := ⟨h.A.below hb, h.B.below hb, h.ap⟩
theorem Duo.stepA (h : Duo w pa ga ma ea pb gb mb eb) (A' : EndAt w' pa ga' ma ea') (hf : Fr (foot pa ga ma) w w') (hn : ∀ x ∈ foot pa ga' ma, x ∈ foot pa ga ma ∨ w.heap.size ≤ x) : Duo w' pa ga' ma ea' pb gb mb eb := by
  refine ⟨A', h.B.fr hf h.A.nob (fun b hb hA => h.ap b hA hb), fun x hx hy => ?_⟩
  rcases hn x hx with h1 | h1
  · exact h.ap x h1 hy
  · have := h.B.lt x hy
    omega
theorem Duo.stepB (h : Duo w pa ga ma ea pb gb mb eb) (B' : EndAt w' pb gb' mb eb') (hf : Fr (foot pb gb mb) w w') (hn : ∀ x ∈ foot pb gb' mb, x ∈ foot pb gb mb ∨ w.heap.size ≤ x) : Duo w' pa ga ma ea pb gb' mb eb' := (h.swap.stepA B' hf hn).swap
theorem Duo.nob (h : Duo w pa ga ma ea pb gb mb eb) : ∀ b ∈ both pa ga ma pb gb mb, NoB w b := fun b hb => by
  rcases List.mem_append.1 hb with hb | hb
  · exact h.A.nob b hb
  · exact h.B.nob b hb
theorem Duo.lt (h : Duo w pa ga ma ea pb gb mb eb) : ∀ b ∈ both pa ga ma pb gb mb, b < w.heap.size := fun b hb => by
  rcases List.mem_append.1 hb with hb | hb
  · exact h.A.lt b hb
  · exact h.B.lt b hb
end
/-- a list of rows, its top apart from the blocks of S -/
structure Tops (w : World) (S : List Nat) (a : Option Addr) (n c : Nat) (hs : List Hd) (p : List (List UInt8)) : Prop where
  own : Own w 0 33 1 a n c (hs.map hv)
  rows : Rows w hs p
  ap : ∀ q, a = some q → q.block ∉ S
theorem Tops.fr {w w' : World} {S S1 S2 : List Nat} {a : Option Addr} {n c : Nat} {hs : List Hd} {p : List (List UInt8)} (h : Tops w S a n c hs p) (hf : Fr S1 w w') (h1 : ∀ b ∈ S1, b ∈ S) (hn : ∀ b ∈ S1, NoB w b) (h2 : ∀ b ∈ S2, b ∈ S ∨ w.heap.size ≤ b) : Tops w' S2 a n c hs p := by
  refine ⟨own_same h.own fun q hq => hf.block q.block (World.ownsRow.lt h.own _ (by rw [hq]; rfl)).2 (fun hS => h.ap q hq (h1 _ hS)), h.rows.fr hf hn, fun q hq hS => ?_⟩
  have hlt := (World.ownsRow.lt h.own _ (by rw [hq]; rfl)).2
  rcases h2 _ hS with h3 | h3
  · exact h.ap q hq h3
  · omega
theorem Tops.below {w w' : World} {S : List Nat} {a : Option Addr} {n c : Nat} {hs : List Hd} {p : List (List UInt8)} (h : Tops w S a n c hs p) (hb : Below w.heap.size w w') : Tops w' S a n c hs p := ⟨h.own.below hb, h.rows.below hb, h.ap⟩
/-- a list just made -/
theorem Tops.new {w w' : World} {S : List Nat} {a : Option Addr} {n c : Nat} {hs : List Hd} {p : List (List UInt8)} (h : Own w' w.heap.size 33 1 a n c (hs.map hv)) (r : Rows w' hs p) (hS : ∀ b ∈ S, b < w.heap.size) : Tops w' S a n c hs p :=
  ⟨h.mono (Nat.zero_le _), r, fun q hq hh => by
    have h1 := (World.ownsRow.lt h _ (by rw [hq]; rfl)).1
    have h2 := hS _ hh
    omega⟩
theorem Tops.get {w : World} {S : List Nat} {a : Option Addr} {n c : Nat} {hs : List Hd} {p : List (List UInt8)} (h : Tops w S a n c hs p) {i : Nat} {r : List UInt8} (hr : p[i]? = some r) :
    ∃ g x y z, a = some ⟨g, 0, none⟩ ∧ w.cell? ⟨g, i, none⟩ = some (.slice x y z) ∧ Sl w 1 x y z (r.map B8) ∧ Kind w x ∧ n = p.length := by
  have hil := (List.getElem?_eq_some_iff.1 hr).1
  obtain ⟨⟨x, y, z⟩, hx⟩ : ∃ x, hs[i]? = some x := ⟨_, List.getElem?_eq_getElem (by rw [h.rows.1]; exact hil)⟩
  have hn : n = p.length := by have h1 := h.own.len; rw [List.length_map, h.rows.1] at h1; omega
  obtain ⟨g, rfl⟩ := own_zero h.own (by omega)
  refine ⟨g, x, y, z, rfl, ?_, (h.rows.2 i _ r hx hr).1, (h.rows.2 i _ r hx hr).2, hn⟩
  have h1 := h.own.sl.cell _ rfl i (hv (x, y, z)) (box_at hx)
  rw [Addr.add_lit, Nat.zero_add] at h1
  exact h1
end Go.Proofs.Ytjdnmbapmobaaaa
end

/- the text K20 -/
section
/- Chapter 37: the section's example. -/
set_option linter.unusedVariables false
namespace Go.Proofs.Ytjdnmbapmobaaaa
open Go.RowKit Go.Dx Go.Al
theorem sl_marked (w : World) (e : TypeId) (sz n : Nat) (us : List Value) (z : Nat × Nat) (hn : us.length = n * sz) (hm : n ≤ maxLen) : Sl (w.alloc (.cells us.toArray e z)) sz (some ⟨w.heap.size, 0, none⟩) n n us :=
  ⟨hn, Nat.le_refl _, hm, (fun h => by cases h), fun p hp j u hj => by
    cases hp
    rw [Addr.add_lit, Nat.zero_add, cell_of_row _ w.heap.size j us.toArray e z (heap_alloc_new w _)]
    simpa using hj⟩
set_option maxRecDepth 100000 in
set_option maxHeartbeats 2000000 in
theorem law37_lives (w : World) : Calls Try.prog 23 #[] w fun r w' => r = .returned (.bool true) ∧ Below w.heap.size w w' := by
  have hN : ∀ w : World, Calls Try.prog 28 #[.int .i64 2, .int .u64 9] w fun e w' => ∃ p m, e = .returned (.tuple #[.pointer (some ⟨p, 0, none⟩), .int .i64 0]) ∧ EndAt w' p none m (newE 2 9) ∧ (∀ b ∈ foot p none m, w.heap.size ≤ b) ∧ Below w.heap.size w w' := fun w => lk_New 2 9 w (by decide) (by decide)
  have hcv := fun (w : World) (C : Array Value) (n c : Nat) => Lib.run_convert_bytes_const (P := Try.prog) w 33 5 C n c Try.underlying33 Try.underlying5
  go_enter Try.func23, Try.ntmps23
  go_upto_region 2 with (go_at_call 28; refine (hN w).mono ?_; rintro e1 w1 ⟨pa, ma, rfl, A1, f1, b1⟩)
  go_upto_region 3 with (go_at_call 28; refine (hN w1).mono ?_; rintro e2 w2 ⟨pb, mb, rfl, B2, f2, b2⟩)
  have D : Hid (Duo w2 pa none ma (newE 2 9) pb none mb (newE 2 9)) := hide ⟨A1.below b2, B2, fun x hx hy => by have h1 := A1.lt x hx; have h2 := f2 x hy; omega⟩
  have G : Hid (∀ b ∈ both pa none ma pb none mb, w.heap.size ≤ b) := hide (fun b hb => by
    rcases List.mem_append.1 hb with hb | hb
    · exact f1 b hb
    · exact Nat.le_trans b1.size (f2 b hb))
  have F : Hid (Fr [] w w2) := hide (Fr.of (b1.trans (b2.mono b1.size)))
  clear A1 B2 f1 f2 b1 b2 hN
  go_upto_region 5 with fail
  have sL : Sl (w2.alloc (.cells #[.int .u8 97] 5 (1, 1 + 1))) 1 (some ⟨w2.heap.size, 0, none⟩) 1 1 (([97] : List UInt8).map B8) := sl_marked _ _ 1 1 [.int .u8 97] _ rfl (by decide)
  have bL := sblo w2 (.cells #[.int .u8 97] 5 (1, 1 + 1))
  have DL := D.out.below bL
  have FL := F.out.below bL
  have hS := lk_Send pa none ma (newE 2 9) [97] _ 1 1 _ DL.A sL (by decide)
  rw [ex_send0] at hS
  go_upto_region 6 with (go_at_call 11; refine hS.mono ?_; rintro e1 w3 ⟨rfl, g3, A', F', hn⟩)
  have D' := hide (DL.stepA A' F' hn)
  have G' : Hid (∀ b ∈ both pa g3 ma pb none mb, w.heap.size ≤ b) := hide (fun b hb => by
    rcases List.mem_append.1 hb with hb | hb
    · rcases hn b hb with h1 | h1
      · exact G.out b (List.mem_append_left _ h1)
      · exact Nat.le_trans FL.size h1
    · exact G.out b (List.mem_append_right _ hb))
  have F2 := hide (FL.on F' (fun b hb => .inr (G.out b (List.mem_append_left _ hb))))
  clear sL bL DL FL hS A' F' hn D F G
  have D := D'
  have F := F2
  have G := G'
  clear D' F2 G'
  have sL : Sl (w3.alloc (.cells #[.int .u8 98] 5 (1, 1 + 1))) 1 (some ⟨w3.heap.size, 0, none⟩) 1 1 (([98] : List UInt8).map B8) := sl_marked _ _ 1 1 [.int .u8 98] _ rfl (by decide)
  have bL := sblo w3 (.cells #[.int .u8 98] 5 (1, 1 + 1))
  have DL := D.out.below bL
  have FL := F.out.below bL
  have hS := lk_Send pa g3 ma (exA 1) [98] _ 1 1 _ DL.A sL (by decide)
  rw [ex_send1] at hS
  go_upto_region 7 with (go_at_call 11; refine hS.mono ?_; rintro e1 w4 ⟨rfl, g4, A', F', hn⟩)
  have D' := hide (DL.stepA A' F' hn)
  have G' : Hid (∀ b ∈ both pa g4 ma pb none mb, w.heap.size ≤ b) := hide (fun b hb => by
    rcases List.mem_append.1 hb with hb | hb
    · rcases hn b hb with h1 | h1
      · exact G.out b (List.mem_append_left _ h1)
      · exact Nat.le_trans FL.size h1
    · exact G.out b (List.mem_append_right _ hb))
  have F2 := hide (FL.on F' (fun b hb => .inr (G.out b (List.mem_append_left _ hb))))
  clear sL bL DL FL hS A' F' hn D F G
  have D := D'
  have F := F2
  have G := G'
  clear D' F2 G'
  have sL : Sl (w4.alloc (.cells #[.int .u8 99] 5 (1, 1 + 1))) 1 (some ⟨w4.heap.size, 0, none⟩) 1 1 (([99] : List UInt8).map B8) := sl_marked _ _ 1 1 [.int .u8 99] _ rfl (by decide)
  have bL := sblo w4 (.cells #[.int .u8 99] 5 (1, 1 + 1))
  have DL := D.out.below bL
  have FL := F.out.below bL
  have hS := lk_Send pa g4 ma (exA 2) [99] _ 1 1 _ DL.A sL (by decide)
  rw [ex_send2] at hS
  go_upto_region 8 with (go_at_call 11; refine hS.mono ?_; rintro e1 w5 ⟨rfl, g5, A', F', hn⟩)
  have D' := hide (DL.stepA A' F' hn)
  have G' : Hid (∀ b ∈ both pa g5 ma pb none mb, w.heap.size ≤ b) := hide (fun b hb => by
    rcases List.mem_append.1 hb with hb | hb
    · rcases hn b hb with h1 | h1
      · exact G.out b (List.mem_append_left _ h1)
      · exact Nat.le_trans FL.size h1
    · exact G.out b (List.mem_append_right _ hb))
  have F2 := hide (FL.on F' (fun b hb => .inr (G.out b (List.mem_append_left _ hb))))
  clear sL bL DL FL hS A' F' hn D F G
  have D := D'
  have F := F2
  have G := G'
  clear D' F2 G'

  obtain ⟨R1, hR1⟩ : ∃ R1, Hid (sealL 9 (pkB ⟨1, 0, [97]⟩) = R1) := ⟨_, hide rfl⟩
  obtain ⟨R2, hR2⟩ : ∃ R2, Hid (sealL 9 (pkB ⟨2, 0, [98]⟩) = R2) := ⟨_, hide rfl⟩
  obtain ⟨R3, hR3⟩ : ∃ R3, Hid (sealL 9 (pkB ⟨0, 2, []⟩) = R3) := ⟨_, hide rfl⟩
  obtain ⟨R4, hR4⟩ : ∃ R4, Hid (sealL 9 (pkB ⟨3, 0, [99]⟩) = R4) := ⟨_, hide rfl⟩
  have l1 : Hid (R1.length ≤ 1000) := hide (by rw [← hR1.out, sealL_len]; decide +kernel)
  have l2 : Hid (R2.length ≤ 1000) := hide (by rw [← hR2.out, sealL_len]; decide +kernel)
  have l3 : Hid (R3.length ≤ 1000) := hide (by rw [← hR3.out, sealL_len]; decide +kernel)
  have hO := lk_Out pa g5 ma (exA 3) w5 D.out.A (by decide) (by decide) (by decide) (by decide) (by decide)
  rw [ex_out3, ex_outS3, hR1.out, hR2.out] at hO
  go_upto_region 9 with (go_at_call 13; refine hO.mono ?_; rintro e1 w6 ⟨a6, c6, h6, rfl, o6, r6, A', F'⟩)
  clear hO
  have F'' : Fr (foot pa g5 ma) w5 w6 := F'.more (foot_p _ _ _)
  have T1 : Hid (Tops w6 (both pa g5 ma pb none mb) a6 2 c6 h6 [R1, R2]) := hide (Tops.new o6 r6.rows D.out.lt)
  have D' := hide (D.out.stepA A' F'' (fun x hx => .inl hx))
  have F2 := hide (F.out.on F'' (fun b hb => .inr (G.out b (List.mem_append_left _ hb))))
  clear D F A' F' F'' o6 r6
  have D := D'
  have F := F2
  clear D' F2
  go_upto_region 11 with fail
  obtain ⟨t6, x6, y6, z6, rfl, q6, s6, k6, -⟩ := T1.out.get (i := 1) rfl
  have hI := lk_In pb none mb (newE 2 9) R2 x6 y6 z6 w6 D.out.B s6 l2.out (by decide) (by decide) (by decide) (by decide) (by decide)
  have hx := ex_in0
  rw [hR2.out] at hx
  unfold GivesIn at hI
  rw [hx] at hI
  clear hx
  go_upto_region 12 with (go_at_call 19; refine hI.mono ?_; rintro e1 w7 ⟨a7, c7, h7, rfl, o7, r7, B', F'⟩)
  clear hI q6 s6 k6
  have T1' := hide (T1.out.fr (S2 := both pa g5 ma pb none mb) F' (fun b hb => List.mem_append_right _ hb) D.out.B.nob (fun b hb => .inl hb))
  have D' := hide (D.out.stepB B' F' (fun x hx => .inl hx))
  have F2 := hide (F.out.on F' (fun b hb => .inr (G.out b (List.mem_append_right _ hb))))
  clear D F B' F' T1 o7 r7
  have D := D'
  have F := F2
  have T1 := T1'
  clear D' F2 T1'
  obtain ⟨t8, x8, y8, z8, ht8, q8, s8, k8, -⟩ := T1.out.get (i := 0) rfl
  obtain rfl : t6 = t8 := by cases ht8; rfl
  have hI := lk_In pb none mb (exB 1) R1 x8 y8 z8 w7 D.out.B s8 l1.out (by decide) (by decide) (by decide) (by decide) (by decide)
  have hx := ex_in1
  rw [hR1.out] at hx
  unfold GivesIn at hI
  rw [hx] at hI
  clear hx
  go_upto_region 13 with (go_at_call 19; refine hI.mono ?_; rintro e1 w8 ⟨a8, c8, h8, rfl, o8, r8, B', F'⟩)
  clear hI q8 s8 k8 T1
  have T2 : Hid (Tops w8 (both pa g5 ma pb none mb) a8 2 c8 h8 [[97], [98]]) := hide (Tops.new o8 r8 D.out.lt)
  have D' := hide (D.out.stepB B' F' (fun x hx => .inl hx))
  have F2 := hide (F.out.on F' (fun b hb => .inr (G.out b (List.mem_append_right _ hb))))
  clear D F B' F' o8 r8
  have D := D'
  have F := F2
  clear D' F2
  have hO := lk_Out pb none mb (exB 2) w8 D.out.B (by decide) (by decide) (by decide) (by decide) (by decide)
  rw [ex_outB, hR3.out] at hO
  go_upto_region 14 with (go_at_call 13; refine hO.mono ?_; rintro e1 w9 ⟨a9, c9, h9, rfl, o9, r9, B', F'⟩)
  clear hO
  have F'' : Fr (foot pb none mb) w8 w9 := F'.more (foot_p _ _ _)
  have T3 : Hid (Tops w9 (both pa g5 ma pb none mb) a9 1 c9 h9 [R3]) := hide (Tops.new o9 r9.rows D.out.lt)
  have T2' := hide (T2.out.fr (S2 := both pa g5 ma pb none mb) F'' (fun b hb => List.mem_append_right _ hb) D.out.B.nob (fun b hb => .inl hb))
  have D' := hide (D.out.stepB B' F'' (fun x hx => .inl hx))
  have F2 := hide (F.out.on F'' (fun b hb => .inr (G.out b (List.mem_append_right _ hb))))
  clear D F B' F' F'' o9 r9 T2
  have D := D'
  have F := F2
  have T2 := T2'
  clear D' F2 T2'
  obtain ⟨t9, x9, y9, z9, rfl, q9, s9, k9, -⟩ := T2.out.get (i := 1) rfl
  go_upto_region 16 with (refine unguard_any (by first | rfl | (simp [Region.wanted, yielded, Act.put]; done)) ?_; with_reducible refine to_str 91 _ x9 y9 z9 [98] rfl s9 ?_)
  clear q9 s9 k9 T2
  obtain ⟨t10, x10, y10, z10, rfl, q10, s10, k10, -⟩ := T3.out.get (i := 0) rfl
  have hI := lk_In pa g5 ma (exA 3) R3 x10 y10 z10 w9 D.out.A s10 l3.out (by decide) (by decide) (by decide) (by decide) (by decide)
  have hx := ex_in2
  rw [hR3.out] at hx
  unfold GivesIn at hI
  rw [hx] at hI
  clear hx
  go_upto_region 17 with (go_at_call 19; refine hI.mono ?_; rintro e1 w11 ⟨a11, c11, h11, rfl, o11, r11, A', F'⟩)
  clear hI q10 s10 k10 T3
  have D' := hide (D.out.stepA A' F' (fun x hx => .inl hx))
  have F2 := hide (F.out.on F' (fun b hb => .inr (G.out b (List.mem_append_left _ hb))))
  clear D F A' F' o11 r11
  have D := D'
  have F := F2
  clear D' F2
  have hO := lk_Out pa g5 ma (exC false) w11 D.out.A (by decide) (by decide) (by decide) (by decide) (by decide)
  rw [ex_outC, hR4.out] at hO
  go_upto_region 18 with (go_at_call 13; refine hO.mono ?_; rintro e1 w12 ⟨a12, c12, h12, rfl, o12, r12, A', F'⟩)
  clear hO
  have F'' : Fr (foot pa g5 ma) w11 w12 := F'.more (foot_p _ _ _)
  have T4 : Hid (Tops w12 (both pa g5 ma pb none mb) a12 1 c12 h12 [R4]) := hide (Tops.new o12 r12.rows D.out.lt)
  have D' := hide (D.out.stepA A' F'' (fun x hx => .inl hx))
  have F2 := hide (F.out.on F'' (fun b hb => .inr (G.out b (List.mem_append_left _ hb))))
  clear D F A' F' F'' o12 r12
  have D := D'
  have F := F2
  clear D' F2
  obtain ⟨X, hX⟩ : ∃ X, Hid (pkB ⟨3, 0, [99]⟩ = X) := ⟨_, hide rfl⟩
  have hXl : Hid (X.length ≤ 1000) := hide (by rw [← hX.out]; decide +kernel)
  have hRX : Hid (sealL 9 X = R4) := hide (by rw [hX.out] at hR4; exact hR4.out)
  have sL : Sl (w12.alloc (.cells #[.int .u8 99] 5 (1, 1 + 1))) 1 (some ⟨w12.heap.size, 0, none⟩) 1 1 (([99] : List UInt8).map B8) := sl_marked _ _ 1 1 [.int .u8 99] _ rfl (by decide)
  have bL := sblo w12 (.cells #[.int .u8 99] 5 (1, 1 + 1))
  have hBy := ref_PBytes ⟨3, 0, [99]⟩ (by decide) (by decide) (by decide) _ 1 1 _ sL hX.out
  have hSe : Hid (∀ a n c w, Sl w 1 a n c (X.map B8) → Calls Try.prog 17 #[.int .u64 9, .slice a n c] w (Gives 5 1 R4.length (R4.map B8) w)) := hide (fun a n c w h => ref_Seal 9 X a n c w h hXl.out hRX.out)
  go_upto_region 19 with (first
    | (go_at_call 18; refine hBy.mono ?_; rintro e1 w13 ⟨a13, c13, rfl, o13, b13⟩; have b14 := bL.trans (b13.mono bL.size); have s13 := o13.sl; clear o13 b13 sL hBy)
    | (go_at_call 17; refine (hSe.out _ _ _ _ s13).mono ?_; rintro e1 w15 ⟨a15, c15, rfl, o15, b15⟩; have b16 := b14.trans (b15.mono b14.size); have s15 := o15.sl; clear o15 b14 b15 s13))
  have D2 := hide (D.out.below b16)
  have F2 := hide (F.out.below b16)
  have T5 := hide (T4.out.below b16)
  clear D F T4 bL b16
  obtain ⟨t16, x16, y16, z16, rfl, q16, s16, k16, -⟩ := T5.out.get (i := 0) rfl
  have hSa := ref_Same R4 R4 x16 a15 y16 R4.length z16 c15 w15 s16 s15
  rw [show decide (R4 = R4) = true by simp] at hSa
  have hW : ∀ n, Calls _ _ _ _ _ := fun n => lk_Waiting pa g5 ma (exC false) (w15.drewN n) (D2.out.A.below (Still.below n))
  have hF : ∀ n, Calls _ _ _ _ _ := fun n => lk_Forged pa g5 ma (exC false) (w15.drewN n) (D2.out.A.below (Still.below n))
  go_wp2_with (first
    | (go_at_call 29; refine hSa.mono ?_; rintro e1 w17 ⟨rfl, nq, rfl⟩)
    | (go_at_call 21; refine (hW nq).mono ?_; rintro e1 w18 ⟨rfl, rfl⟩)
    | (go_at_call 22; refine (hF nq).mono ?_; rintro e1 w19 ⟨rfl, rfl⟩))
  go_ret
  exact ⟨rfl, (F2.out.below (Still.below nq)).nil⟩
end Go.Proofs.Ytjdnmbapmobaaaa
end

/- the text K21 -/
section
/- Chapter 37, plain: a changed byte is seen; a byte of a call's own slice is set. -/
set_option linter.unusedVariables false
namespace Go.Dx
theorem u64_mul_inj {x y : UInt64} (h : x * 1099511628211 = y * 1099511628211) : x = y := by
  have h2 : x * 1099511628211 * 14886173955864302971 = y * 1099511628211 * 14886173955864302971 := by rw [h]
  rw [UInt64.mul_assoc, UInt64.mul_assoc, show (1099511628211 : UInt64) * 14886173955864302971 = 1 by decide, UInt64.mul_one, UInt64.mul_one] at h2
  exact h2
theorem xor_inj_l {x y c : UInt64} (h : x ^^^ c = y ^^^ c) : x = y := by
  have h2 : x ^^^ c ^^^ c = y ^^^ c ^^^ c := by rw [h]
  rw [UInt64.xor_assoc, UInt64.xor_assoc, UInt64.xor_self, UInt64.xor_zero, UInt64.xor_zero] at h2
  exact h2
theorem fnvStep_inj {x y : UInt64} {c : UInt8} (h : fnvStep x c = fnvStep y c) : x = y := xor_inj_l (u64_mul_inj h)
theorem fnvStep_byte {x : UInt64} {c d : UInt8} (h : fnvStep x c = fnvStep x d) : c = d := by
  have h2 := u64_mul_inj h
  rw [UInt64.xor_comm x, UInt64.xor_comm x] at h2
  have h3 := xor_inj_l h2
  have h4 := congrArg UInt64.toNat h3
  rw [UInt64.toNat_ofNat', UInt64.toNat_ofNat'] at h4
  have h5 := UInt8.toNat_lt c
  have h6 := UInt8.toNat_lt d
  exact UInt8.toNat_inj.1 (by omega)
theorem fnvFrom_inj : ∀ (l : List UInt8) {x y : UInt64}, fnvFrom x l = fnvFrom y l → x = y
  | [], _, _, h => h
  | c :: l, x, y, h => fnvStep_inj (fnvFrom_inj l (x := fnvStep x c) (y := fnvStep y c) h)
theorem fnvFrom_set : ∀ (l : List UInt8) (k : Nat) (c : UInt8) (x : UInt64), k < l.length → fnvFrom x (l.set k c) = fnvFrom x l → l[k]? = some c
  | [], k, c, x, hk, _ => by simp at hk
  | d :: l, 0, c, x, _, h => by
    have h2 := fnvFrom_inj l (x := fnvStep x c) (y := fnvStep x d) h
    rw [fnvStep_byte h2]
    rfl
  | d :: l, k + 1, c, x, hk, h => fnvFrom_set l k c (fnvStep x d) (by simpa using hk) h
theorem byteN_split (n k : Nat) : n / 256 ^ k = n / 256 ^ (k + 1) * 256 + (byteN n k).toNat := by
  unfold byteN
  rw [UInt8.toNat_ofNat', Nat.pow_succ, ← Nat.div_div_eq_div_mul]
  generalize n / 256 ^ k = H
  omega
theorem sealTo_inj {n m : Nat} (hn : n < 18446744073709551616) (hm : m < 18446744073709551616) (h : sealTo n 8 = sealTo m 8) : n = m := by
  have hb : ∀ i, i < 8 → byteN n i = byteN m i := fun i hi => by
    have h1 := congrArg (·[i]?) h
    unfold sealTo at h1
    simp only [List.getElem?_map, List.getElem?_range hi, Option.map_some] at h1
    exact Option.some.inj h1
  have key : ∀ j, j ≤ 8 → n / 256 ^ (8 - j) = m / 256 ^ (8 - j) := fun j => by
    induction j with
    | zero =>
      intro _
      rw [Nat.sub_zero, show (256 : Nat) ^ 8 = 18446744073709551616 by decide, Nat.div_eq_of_lt hn, Nat.div_eq_of_lt hm]
    | succ j ih =>
      intro hj
      have h1 := ih (by omega)
      have e : 8 - j = (8 - (j + 1)) + 1 := by omega
      rw [e] at h1
      rw [byteN_split n (8 - (j + 1)), byteN_split m (8 - (j + 1)), h1, hb _ (by omega)]
  have h8 := key 8 (Nat.le_refl _)
  rw [Nat.sub_self, Nat.pow_zero, Nat.div_one, Nat.div_one] at h8
  exact h8
theorem sealB_inj {key : UInt64} {l m : List UInt8} (h : sealB key l = sealB key m) : fnv key l = fnv key m := UInt64.toNat_inj.1 (sealTo_inj (UInt64.toNat_lt _) (UInt64.toNat_lt _) h)
/-- a sealed packet with one byte changed is refused -/
theorem open_bent (key : UInt64) (m : List UInt8) (k : Nat) (c u : UInt8) (hu : (sealL key m)[k]? = some u) (hc : c ≠ u) : openZ key ((sealL key m).set k c) = ([], 9) := by
  have hk : k < (sealL key m).length := (List.getElem?_eq_some_iff.1 hu).1
  have hl := sealL_len key m
  have hk2 : k < m.length + 8 := by rw [← hl]; exact hk
  unfold openZ
  rw [List.length_set, hl, if_neg (by omega), show m.length + 8 - 8 = m.length by omega, if_neg]
  intro h
  unfold sealL at h hu
  by_cases hm : k < m.length
  · rw [List.set_append_left _ _ hm, List.take_left' (by rw [List.length_set]), List.drop_left' (by rw [List.length_set])] at h
    have h2 := fnvFrom_set m k c (fnv0 key) hm (sealB_inj h)
    rw [List.getElem?_append_left hm, h2] at hu
    exact hc (Option.some.inj hu)
  · rw [List.set_append_right _ _ (by omega), List.take_left, List.drop_left] at h
    rw [List.getElem?_append_right (by omega), h, List.getElem?_set_self (by rw [sealB_len]; omega)] at hu
    exact hc (Option.some.inj hu)
theorem bent_by (y : UInt8) : ∃ (d : UInt8) (r : Nat), d ≠ 0 ∧ r < 255 ∧ (y.toNat : Int) % 255 = (r : Int) ∧ (y.toNat : Int).tmod 255 = (r : Int) ∧ IntKind.u8.wrap (1 + (r : Int)) = (d.toNat : Int) := by
  have h0 := UInt8.toNat_lt y
  refine ⟨UInt8.ofNat (1 + y.toNat % 255), y.toNat % 255, ?_, by omega, by omega, ?_, ?_⟩
  · intro h
    have h1 := congrArg UInt8.toNat h
    rw [UInt8.toNat_ofNat'] at h1
    have h2 : (0 : UInt8).toNat = 0 := rfl
    rw [h2] at h1
    omega
  · rw [Int.tmod_eq_emod_of_nonneg (by omega)]; omega
  · rw [UInt8.toNat_ofNat', IntKind.wrap_u8']
    omega
theorem xor_ne {u d : UInt8} (hd : d ≠ 0) : u ^^^ d ≠ u := by
  intro h
  have h2 : u ^^^ (u ^^^ d) = u ^^^ u := by rw [h]
  rw [← UInt8.xor_assoc, UInt8.xor_self, UInt8.zero_xor] at h2
  exact hd h2
theorem in_forged (e : En) (b : List UInt8) (h : openZ e.key b = ([], 9)) : inE e b = ({ e with forged := e.forged + 1 }, [], 9) := by
  unfold inE
  rw [h]
  rfl
theorem det_in1 (key : UInt64) (Z : List UInt8) (h : openZ key Z = ([], 9)) : inE (newE 3 key) Z = (⟨3, key, [], 0, 0, [], false, 1⟩, [], 9) := in_forged (newE 3 key) Z h
theorem first_in (win : Nat) (key : UInt64) (f : Nat) (M : List UInt8) (hM : M.length ≤ 60) : inE ⟨win, key, [], 0, 0, [], false, f⟩ (sealL key (pkB ⟨1, 0, M⟩)) = (⟨win, key, [], 0, 1, [], true, f⟩, [M], 0) := by
  have h1 := inE_pk ⟨win, key, [], 0, 0, [], false, f⟩ ⟨1, 0, M⟩ (by unfold pkOk; simp; omega) (by show (1 : Int) ≤ _; decide) (by show (0 : Int) ≤ _; decide)
  have h2 : inP ⟨win, key, [], 0, 0, [], false, f⟩ ⟨1, 0, M⟩ = (⟨win, key, [], 0, 1, [], true, f⟩, [M]) := by
    simp [inP, ackE, holdE, lkE, delE, dlE]
  rw [h2] at h1
  exact h1
end Go.Dx
namespace Go.Proofs.Ytjdnmbapmobaaaa
open Go.RowKit Go.Dx Go.Al
theorem own_set {w : World} {B : Nat} {e : TypeId} {sz : Nat} {g n c : Nat} {xs : List Value} (h : Own w B e sz (some ⟨g, 0, none⟩) n c xs) (i : Nat) (v : Value) : Own (w.setCell ⟨g, i, none⟩ v) B e sz (some ⟨g, 0, none⟩) n c (xs.set i v) := by
  refine ⟨by rw [List.length_set]; exact h.1, ?_⟩
  rcases h.2 with ⟨h1, _⟩ | ⟨g', cap, cur, h1, h2, h3, h4, h5, h6, h7⟩
  · cases h1
  · injection h1 with h1 hn hc
    injection h1 with h1
    injection h1 with h1
    subst h1
    refine .inr ⟨g, cap, cur.setIfInBounds i v, by rw [hc], h2, ?_, h4, h5, by simpa using h6, ?_⟩
    · simp [World.setCell, Array.getElem?_modify, h3]
    · rw [Array.toList_setIfInBounds, ← h7, List.take_set]
theorem own_free {w : World} {B : Nat} {e : TypeId} {sz : Nat} {g n c : Nat} {xs : List Value} (h : Own w B e sz (some ⟨g, 0, none⟩) n c xs) (j : Nat) : w.frozen? ⟨g, j, none⟩ = false := by
  rcases h.2 with ⟨h1, _⟩ | ⟨g', cap, cur, h1, h2, h3, _⟩
  · cases h1
  · injection h1 with h1 hn hc
    injection h1 with h1
    injection h1 with h1
    subst h1
    simp [World.frozen?, h3]
theorem own_cell {w : World} {B : Nat} {e : TypeId} {g n c : Nat} {xs : List Value} (h : Own w B e 1 (some ⟨g, 0, none⟩) n c xs) {j : Nat} {v : Value} (hv : xs[j]? = some v) : w.cell? ⟨g, j, none⟩ = some v := by
  have h1 := h.sl.cell _ rfl j v hv
  rw [Addr.add_lit, Nat.zero_add] at h1
  exact h1
theorem grown_set {w : World} {g i : Nat} {v : Value} : w.grownBy (w.setCell ⟨g, i, none⟩ v) (some g) :=
  ⟨rfl, rfl, rfl, by rw [Deep.nblk_setCell]; exact Nat.le_refl _, fun k hk hne => Below.heap_setCell w ⟨g, i, none⟩ v k (fun e => hne (by rw [e]))⟩
theorem u8_of7 {z : Int} (hz : (Lit.int .u8 z).wf = true) : ∃ u : UInt8, z = (u.toNat : Int) := by
  have h := hz
  simp [Lit.wf, IntKind.min, IntKind.max, IntKind.signed, IntKind.bits] at h
  refine ⟨UInt8.ofNat z.toNat, ?_⟩
  rw [UInt8.toNat_ofNat']
  omega
theorem u64_of {z : Int} (hz : (Lit.int .u64 z).wf = true) : ∃ u : UInt64, z = (u.toNat : Int) := by
  have h := hz
  simp [Lit.wf, IntKind.min, IntKind.max, IntKind.signed, IntKind.bits] at h
  refine ⟨UInt64.ofNat z.toNat, ?_⟩
  rw [UInt64.toNat_ofNat']
  omega
end Go.Proofs.Ytjdnmbapmobaaaa
end
