/- The contracts of the functions that the law reaches, joined into one text. -/
import Derived.Test.YtjdnmbapmobaaaaBaseK21B
import Derived.SizedLaws
import Derived.Deep.OwnRows
import Derived.IntWalk
import Derived.MapKept
import Derived.Carry
set_option linter.unusedVariables false
set_option linter.unusedSimpArgs false

/- the text K4 -/
section
/- Chapter 37: Open. -/
set_option linter.unusedVariables false
namespace Go.Proofs.Ytjdnmbapmobaaaa
open Go.RowKit Go.Dx Go.Al
theorem guard_8 : Try.prog.eqGuardType Try.prog.depth 79 = false := by kernel_rfl
section
variable {w : World} {ops : Array Oper} {rest : List Oper} {act : Act} {Q : Exit → Act → World → Prop} {ty : TypeId} {pos : String} {after : Array Edge}
theorem neq_bytes {P : Program} (d : Nat) (t : TypeId) (x y : Operand) (e n : Nat) (ht : P.underlying t = some (.array n e)) (he : P.underlying e = some (.int .u8)) (hsz : (P.info? e).map (·.size) = some 1) (hgt : P.eqGuardType P.depth t = false)
    (xs ys : List UInt8) (hx : act.eval x = .agg (xs.map B8).toArray) (hy : act.eval y = .agg (ys.map B8).toArray) (hxl : xs.length = n) (hyl : ys.length = n) (b : Bool) (hb : (!decide (xs = ys)) = b)
    (hK : wpList P ops Q rest (act.put (some d) (.bool b)) w) :
    wpList P ops Q ({ dst := some d, op := .binOp .neq t x y t, type := ty, pos := pos, after := after, guard := none } :: rest) act w := by
  subst hb
  refine val_at rfl _ ?_ hK
  have h1 := run_eqGuard_agg (P := P) (w := w) .neq t x y (xs.map B8).toArray (ys.map B8).toArray hgt
  have h2 := run_neq_arr (P := P) w t e n .u8 ht he hsz (xs.map fun d => (d.toNat : Int)) (ys.map fun d => (d.toNat : Int)) (by simpa using hxl) (by simpa using hyl)
  rw [← bytes_ints, ← bytes_ints] at h2
  have h3 : decide ((xs.map fun d => (d.toNat : Int)) = (ys.map fun d => (d.toNat : Int))) = decide (xs = ys) := decide_eq_decide.2 bytes_inj
  rw [h3] at h2
  simp only [execOp, hx, hy, Sem.run_bind, h1, h2, Result.andThen_ok, Sem.run_pure]
end
/-- a list of bytes of its own, and an error -/
def GivesE (l : List UInt8) (E : Int) (w : World) (r : Ending) (w' : World) : Prop :=
  ∃ a c, r = .returned (.tuple #[.slice a l.length c, .int .i64 E]) ∧ Own w' w.heap.size 5 1 a l.length c (l.map B8) ∧ Below w.heap.size w w'
set_option maxRecDepth 100000 in
set_option maxHeartbeats 2000000 in
theorem lk_Open (key : UInt64) (l : List UInt8) (a : Option Addr) (n c : Nat) (w : World) (hs : Sl w 1 a n c (l.map B8)) (hl : l.length ≤ 1000) {r : List UInt8 × Int} (hr : openZ key l = r) :
    Calls Try.prog 25 #[V64 key, .slice a n c] w (GivesE r.1 r.2 w) := by
  have hn := hs.n_eq
  by_cases h8 : l.length < 8
  · have hZ : openZ key l = ([], 2) := by unfold openZ; rw [if_pos h8]
    have hr1 : ([], 2) = r := hZ ▸ hr
    subst hr1
    obtain rfl := hn
    have d0 : decide ((l.length : Int) - 8 < 0) = true := decide_eq_true (by omega)
    have HS := hide hs
    clear hZ hr hs
    obtain ⟨n, hn⟩ : ∃ n, Hid (l.length = n) := ⟨_, rfl⟩
    have hn8 : n < 8 := by rw [← hn.out]; exact h8
    rw [hn.out] at d0 ⊢
    clear h8
    go_enter Try.func25, Try.ntmps25
    go_wp2_with fail
    go_ret2
    exact ⟨none, 0, rfl, Own.nil _ _ _ _, Below.refl _ _⟩
  · obtain ⟨m, hm⟩ : ∃ m, l.length = m + 8 := ⟨l.length - 8, by omega⟩
    obtain rfl : n = m + 8 := by omega
    obtain ⟨b, o, rfl, _, _⟩ := hs.ex (by rw [List.length_map]; omega)
    have hmx : m + 8 ≤ 9223372036854775807 := by have h1 := hs.le; have h2 := hs.cap; unfold maxLen at h2; omega
    have hcm : m + 8 ≤ c := hs.le
    obtain ⟨S, HS⟩ : ∃ S, Hid (sealB key (l.take m) = S) := ⟨_, rfl⟩
    have hSl : Hid (S.length = 8) := hide (by rw [← HS.out]; exact sealB_len _ _)
    obtain ⟨D8, HD8⟩ : ∃ D, Hid (l.drop m = D) := ⟨_, rfl⟩
    have hD8l : Hid (D8.length = 8) := hide (by rw [← HD8.out, List.length_drop]; omega)
    have HM := hide hm
    have hs1 := hide hs
    have hst0 : Sl w 1 (some ⟨b, o, none⟩) m c ((l.take m).map B8) := by
      refine ⟨by rw [List.length_map, List.length_take]; omega, by omega, hs.cap, (fun h => by cases h), ?_⟩
      intro p hp j u hj
      rw [List.map_take, List.getElem?_take] at hj
      split at hj
      · exact hs.cell p hp j u hj
      · cases hj
    have hst := hide hst0
    clear hst0
    have HZ : Hid (openZ key l = if S = D8 then (l.take m, 0) else ([], 9)) := hide (by
      unfold openZ
      rw [if_neg (by omega), show l.length - 8 = m by omega, HS.out, HD8.out])
    have HR : Hid ((if S = D8 then (l.take m, (0 : Int)) else ([], 9)) = r) := hide (by rw [← HZ.out]; exact hr)
    obtain ⟨bb, hbb⟩ : ∃ bb, Hid ((!decide (S = D8)) = bb) := ⟨_, rfl⟩
    have d0 : decide ((m : Int) < 0) = false := decide_eq_false (by omega)
    clear hs hm hr h8 hn
    go_enter Try.func25, Try.ntmps25
    go_wp2_with fail
    refine wp_region_free 10 [⟨0, 12, [12], fun vs _ => vs = [V64 key]⟩, ⟨1, 13, [13], fun vs _ => vs = [.slice (some ⟨b, o, none⟩) (m + 8) c]⟩, ⟨2, 14, [14], fun vs _ => vs = [.int .i64 (m : Int)]⟩, ⟨3, 15, [15], fun vs _ => vs = [.slice (some ⟨b, o, none⟩) m c]⟩, ⟨4, 16, [16], fun vs _ => vs = [.agg (S.map B8).toArray]⟩, ⟨5, 17, [17], fun vs _ => vs = [.slice (some ⟨b, o, none⟩) (m + 8) c]⟩, ⟨6, 18, [18], fun vs _ => vs = [.int .i64 (m : Int)]⟩, ⟨7, 19, [19], fun vs w' => ∃ a', vs = [.slice a' 8 (c - m)] ∧ Sl w' 1 a' 8 (c - m) (D8.map B8)⟩, ⟨8, 20, [20], fun vs w' => ∃ p, vs = [.pointer (some p)] ∧ ∀ j u, (D8.map B8)[j]? = some u → w'.cell? (p.add j) = some u⟩, ⟨9, 21, [21], fun vs _ => vs = [.agg (D8.map B8).toArray]⟩] (by kernel_rfl) (by kernel_rfl) ?_ ?_ ?_
    · simp only [All]
      refine ⟨fun _ _ _ _ h => h, fun _ _ _ _ h => h, fun _ _ _ _ h => h, fun _ _ _ _ h => h, fun _ _ _ _ h => h, fun _ _ _ _ h => h, fun _ _ _ _ h => h, ?_, ?_, fun _ _ _ _ h => h, trivial⟩
      · rintro vs w w' hb ⟨a', h1, h2⟩
        exact ⟨a', h1, h2.below hb⟩
      · rintro vs w w' hb ⟨p, h1, h2⟩
        exact ⟨p, h1, fun j u hj => cell_blw (h2 j u hj) hb⟩
    · simp only [All]
      refine ⟨?_, ?_, ?_, ?_, ?_, ?_, ?_, ?_, ?_, ?_, trivial⟩
      · intro o ho a' w' hb hfr hdep
        obtain rfl := Option.some.inj ho
        have g0 : a'.tmps[0]?.getD undef = V64 key := by have h := hfr 0 (by kernel_rfl); simpa using h
        clear ho hfr hdep
        go_wp2_with fail
        exact ⟨rfl, _, rfl, Below.refl _ _, rfl⟩
      · intro o ho a' w' hb hfr hdep
        obtain rfl := Option.some.inj ho
        have g1 : a'.tmps[1]?.getD undef = .slice (some ⟨b, o, none⟩) (m + 8) c := by have h := hfr 1 (by kernel_rfl); simpa using h
        clear ho hfr hdep
        go_wp2_with fail
        exact ⟨rfl, _, rfl, Below.refl _ _, rfl⟩
      · intro o ho a' w' hb hfr hdep
        obtain rfl := Option.some.inj ho
        have g6 : a'.tmps[6]?.getD undef = .int .i64 (m : Int) := by have h := hfr 6 (by kernel_rfl); simpa using h
        clear ho hfr hdep
        go_wp2_with fail
        exact ⟨rfl, _, rfl, Below.refl _ _, rfl⟩
      · intro o ho a' w' hb hfr hdep
        obtain rfl := Option.some.inj ho
        have g13 : a'.tmps[13]?.getD undef = .slice (some ⟨b, o, none⟩) (m + 8) c := by have h := hdep 1 _ rfl (by kernel_rfl); simpa using h
        have g14 : a'.tmps[14]?.getD undef = .int .i64 (m : Int) := by have h := hdep 2 _ rfl (by kernel_rfl); simpa using h
        clear ho hfr hdep
        refine cuthi_b 15 _ _ _ _ _ l (by simpa [Act.eval] using g13) (hs1.out.below hb) .i64 _ m (by simpa [Act.eval] using g14) rfl (by omega) ?_
        intro hcut
        exact ⟨rfl, _, rfl, Below.refl _ _, rfl⟩
      · intro o ho a' w' hb hfr hdep
        obtain rfl := Option.some.inj ho
        have g12 : a'.tmps[12]?.getD undef = V64 key := by have h := hdep 0 _ rfl (by kernel_rfl); simpa using h
        have g15 : a'.tmps[15]?.getD undef = .slice (some ⟨b, o, none⟩) m c := by have h := hdep 3 _ rfl (by kernel_rfl); simpa using h
        clear ho hfr hdep
        go_wp2_with fail
        refine (lk_seal key (l.take m) _ m c _ (by have h := hst.out.below hb; exact h) HS.out).mono ?_
        rintro e w2 ⟨rfl, h2⟩
        go_wp2_with fail
        exact ⟨rfl, _, rfl, h2, rfl⟩
      · intro o ho a' w' hb hfr hdep
        obtain rfl := Option.some.inj ho
        have g1 : a'.tmps[1]?.getD undef = .slice (some ⟨b, o, none⟩) (m + 8) c := by have h := hfr 1 (by kernel_rfl); simpa using h
        clear ho hfr hdep
        go_wp2_with fail
        exact ⟨rfl, _, rfl, Below.refl _ _, rfl⟩
      · intro o ho a' w' hb hfr hdep
        obtain rfl := Option.some.inj ho
        have g6 : a'.tmps[6]?.getD undef = .int .i64 (m : Int) := by have h := hfr 6 (by kernel_rfl); simpa using h
        clear ho hfr hdep
        go_wp2_with fail
        exact ⟨rfl, _, rfl, Below.refl _ _, rfl⟩
      · intro o ho a' w' hb hfr hdep
        obtain rfl := Option.some.inj ho
        have g17 : a'.tmps[17]?.getD undef = .slice (some ⟨b, o, none⟩) (m + 8) c := by have h := hdep 5 _ rfl (by kernel_rfl); simpa using h
        have g18 : a'.tmps[18]?.getD undef = .int .i64 (m : Int) := by have h := hdep 6 _ rfl (by kernel_rfl); simpa using h
        clear ho hfr hdep
        refine cutlo_b 19 _ _ _ _ _ l (by simpa [Act.eval] using g17) (hs1.out.below hb) .i64 _ m (by simpa [Act.eval] using g18) rfl (by omega) ?_
        intro a7 hcut hpp
        have h8 : m + 8 - m = 8 := by omega
        rw [h8] at hcut ⊢
        rw [HD8.out] at hcut
        exact ⟨rfl, _, rfl, Below.refl _ _, a7, rfl, hcut⟩
      · intro o ho a' w' hb hfr hdep
        obtain rfl := Option.some.inj ho
        obtain ⟨a7, h19, s19⟩ := hdep 7 _ rfl (by kernel_rfl)
        have g19 : a'.tmps[19]?.getD undef = .slice a7 8 (c - m) := by simpa using h19
        clear ho hfr hdep
        have hex := s19.ex (by rw [List.length_map, hD8l.out]; decide)
        obtain ⟨b7, o7, rfl, _, hc7⟩ := hex
        refine to_array 20 79 _ 8 _ Try.underlying79 (some ⟨b7, o7, none⟩) 8 (c - m) (by simpa [Act.eval] using g19) (Nat.le_refl _) ?_
        exact ⟨rfl, _, rfl, Below.refl _ _, ⟨b7, o7, none⟩, rfl, fun j u hj => by rw [Addr.add_lit]; exact hc7 j u hj⟩
      · intro o ho a' w' hb hfr hdep
        obtain rfl := Option.some.inj ho
        obtain ⟨p20, h20, c20⟩ := hdep 8 _ rfl (by kernel_rfl)
        have g20 : a'.tmps[20]?.getD undef = .pointer (some p20) := by simpa using h20
        clear ho hfr hdep
        refine load_agg 21 79 _ 8 size_8' _ _ Try.underlying79 p20 (by simpa [Act.eval] using g20) (D8.map B8) (by rw [List.length_map, hD8l.out]) c20 ?_
        exact ⟨rfl, _, rfl, Below.refl _ _, rfl⟩
    · intro g w9 hb hp'
      have p16 := hp' 4 _ rfl
      have p21 := hp' 9 _ rfl
      clear hp'
      simp at p16 p21
      simp only [List.drop_succ_cons, List.drop_zero, List.map_cons, List.map_nil, putAll, Act.put, List.setIfInBounds_toArray, List.set_cons_succ, List.set_cons_zero, List.cons_append, List.nil_append, p16, p21]
      refine neq_bytes 22 79 _ _ _ 8 Try.underlying79 Try.underlying5 size_u8 guard_8 S D8 rfl rfl hSl.out hD8l.out _ hbb.out ?_
      simp only [Act.put, List.setIfInBounds_toArray, List.set_cons_succ, List.set_cons_zero]
      by_cases he : S = D8
      · obtain rfl : bb = false := by rw [← hbb.out, decide_eq_true he]; rfl
        have hr1 : (l.take m, 0) = r := by rw [← HR.out, if_pos he]
        subst hr1
        clear he
        have htl : Hid ((l.take m).length = m) := hide (by rw [List.length_take, HM.out]; omega)
        go_wp2_with (with_reducible refine cuthi_b 25 _ _ _ _ _ l rfl (hs1.out.below hb) .i64 _ m rfl rfl (by omega) ?_; intro hcut; refine shold ?_)
        refine hide ?_
        go_wp2_with fail
        refine (clone6 (l.take m) _ m c _ hcut (by have := HM.out; omega)).mono ?_
        rintro e w10 ⟨a', c', rfl, o', h'⟩
        go_wp2_with fail
        go_ret2
        refine ⟨a', c', ?_, ?_, hb.trans (h'.mono hb.size)⟩
        · show _ = Ending.returned (.tuple #[.slice a' (List.take m l).length c', .int .i64 0])
          rw [htl.out]
          rfl
        · show Own w10 w.heap.size 5 1 a' (List.take m l).length c' _
          rw [htl.out]
          exact o'.mono hb.size
      · obtain rfl : bb = true := by rw [← hbb.out, decide_eq_false he]; rfl
        have hr1 : ([], 9) = r := by rw [← HR.out, if_neg he]
        subst hr1
        clear he
        go_wp2_with fail
        go_ret2
        exact ⟨none, 0, rfl, Own.nil _ _ _ _, hb⟩

end Go.Proofs.Ytjdnmbapmobaaaa
end

/- the text Law1 -/
section
namespace Go.Proofs.Ytjdnmbapmobaaaa
open Go.RowKit Go.Dx

theorem GetInt_any {l : List UInt8} {a : Option Addr} {n c : Nat} {w : World} (hs : Sl w 1 a n c (l.map B8)) {x y z : Int} (h : decInt l = (x, y, z)) :
    Calls Try.prog 56 #[.slice a n c] w fun e w' => e = .returned (R3 (x, y, z)) ∧ w = w' := by
  rw [← h]; exact wire_GetInt l a n c w hs
end Go.Proofs.Ytjdnmbapmobaaaa
end

/- the text Pure8 -/
section
/- Proper prefixes of encodings ask for more. No Go. -/
namespace Go.Dx

theorem cnt_more_enc {N : Nat} (hN : N ≤ 9223372036854775807) {size : Int} {i : Nat} (r : List UInt8) (hi : i < (encInt (N : Int)).length) : cntErr ((encInt (N : Int) ++ r).take i) size = 3 := by
  have h := decInt_cut (n := (N : Int)) (by omega) (by omega) hi
  rw [List.take_append_of_le_length (by omega)]
  unfold cntErr
  rw [h, if_pos (by decide)]
theorem cnt_more {N : Nat} (hN : N ≤ 9223372036854775807) {S : Nat} (h1 : 1 ≤ S) (t : List UInt8) (ht : t.length < N * S) : cntErr (encInt (N : Int) ++ t) (S : Int) = 3 := by
  have hd := decInt_enc (n := (N : Int)) (by omega) (by omega) t
  unfold cntErr
  rw [hd, if_neg (by simp), if_neg (by simp only; omega), if_pos]
  simp only
  rw [List.length_append]
  have e : (((encInt (N : Int)).length + t.length : Nat) : Int) - ((encInt (N : Int)).length : Int) = (t.length : Int) := by omega
  rw [e]
  have h3 : t.length / S < N := (Nat.div_lt_iff_lt_mul (by omega)).2 ht
  have h4 : (t.length : Int) / (S : Int) = ((t.length / S : Nat) : Int) := by simp
  rw [h4]
  omega
theorem take_enc {N : Nat} (r : List UInt8) {i : Nat} (hi : (encInt (N : Int)).length ≤ i) : (encInt (N : Int) ++ r).take i = encInt (N : Int) ++ r.take (i - (encInt (N : Int)).length) := by
  rw [List.take_append, List.take_of_length_le hi]

/-- what lacks its end asks for more -/
def Cuts {α : Type} (P : α → Prop) (f : List UInt8 → α × Int × Int) (enc : α → List UInt8) : Prop := ∀ x i, P x → i < (enc x).length → (f ((enc x).take i)).2.2 = 3
theorem cuts_int : Cuts (fun x => -9223372036854775808 ≤ x ∧ x ≤ 9223372036854775807) decInt encInt := fun x i h hi => by rw [decInt_cut h.1 h.2 hi]
theorem cuts_bytes : Cuts (fun s : ByteArray => s.size ≤ 9223372036854775807) decBytes (fun s => encBytes s.data.toList) := fun s i hs hi => by
  have hl : s.data.toList.length = s.size := Array.length_toList
  simp only [encBytes] at hi ⊢
  rw [hl] at hi ⊢
  rw [List.length_append, hl] at hi
  have hs : s.size ≤ 9223372036854775807 := hs
  have hc : cntErr ((encInt (s.size : Int) ++ s.data.toList).take i) 1 = 3 := by
    by_cases h : i < (encInt (s.size : Int)).length
    · exact cnt_more_enc hs _ h
    · rw [take_enc _ (by omega)]
      exact cnt_more (S := 1) hs (by omega) _ (by rw [List.length_take, hl]; omega)
  unfold decBytes
  rw [if_neg (by rw [hc]; decide), hc]

theorem cut_at {α : Type} (enc : α → List UInt8) : ∀ (xs : List α) (j : Nat), j < (xs.flatMap enc).length →
    ∃ (k : Nat) (hk : k < xs.length) (m : Nat), m < (enc xs[k]).length ∧ (xs.flatMap enc).take j = (xs.take k).flatMap enc ++ (enc xs[k]).take m
  | [], j, h => by simp at h
  | x :: xs, j, h => by
    rw [List.flatMap_cons, List.length_append] at h
    by_cases hj : j < (enc x).length
    · refine ⟨0, by simp, j, by simpa using hj, ?_⟩
      rw [List.flatMap_cons, List.take_append_of_le_length (by omega)]
      simp
    · obtain ⟨k, hk, m, hm, e⟩ := cut_at enc xs (j - (enc x).length) (by omega)
      refine ⟨k + 1, by simpa using hk, m, by simpa using hm, ?_⟩
      rw [List.flatMap_cons, List.take_append, List.take_of_length_le (by omega), e]
      simp
theorem decSeq_cut {α : Type} {P : α → Prop} {f : List UInt8 → α × Int × Int} {enc : α → List UInt8} (hf : Round P f enc) (hc : Cuts P f enc) (xs : List α) (hP : ∀ x ∈ xs, P x) (hN : xs.length ≤ 9223372036854775807)
    {i : Nat} (hi : i < (encInt (xs.length : Int) ++ xs.flatMap enc).length) : decSeq f ((encInt (xs.length : Int) ++ xs.flatMap enc).take i) = ([], 0, 3) := by
  rw [List.length_append] at hi
  by_cases h : i < (encInt (xs.length : Int)).length
  · rw [decSeq_cnt (by rw [cnt_more_enc hN _ h]; decide), cnt_more_enc hN _ h]
  · rw [take_enc _ (by omega)]
    generalize hj : i - (encInt (xs.length : Int)).length = j
    have hj2 : j < (xs.flatMap enc).length := by omega
    by_cases hlt : j < xs.length * 1
    · have h3 : cntErr (encInt (xs.length : Int) ++ (xs.flatMap enc).take j) 1 = 3 := cnt_more (S := 1) hN (by omega) _ (by rw [List.length_take]; omega)
      rw [decSeq_cnt (by rw [h3]; decide), h3]
    · have h0 : cntErr (encInt (xs.length : Int) ++ (xs.flatMap enc).take j) 1 = 0 := cnt_round hN (by omega) (by rw [List.length_take]; show _ * 1 ≤ _; omega)
      have hd := decInt_enc (n := (xs.length : Int)) (by omega) (by omega) ((xs.flatMap enc).take j)
      obtain ⟨k, hk, m, hm, e⟩ := cut_at enc xs j hj2
      have hs := seqTo_round hf (encInt (xs.length : Int)) ((enc xs[k]).take m) (xs.take k) (fun x hx => hP x (List.mem_of_mem_take hx)) k (by rw [List.length_take]; omega)
      rw [List.take_take, Nat.min_self] at hs
      rw [e]
      rw [e] at h0 hd
      have hdrop : (encInt (xs.length : Int) ++ ((xs.take k).flatMap enc ++ (enc xs[k]).take m)).drop ((encInt (xs.length : Int)).length + ((xs.take k).flatMap enc).length) = (enc xs[k]).take m := by
        rw [← List.append_assoc, ← List.length_append, List.drop_left]
      have h3 := hc xs[k] m (hP _ (List.getElem_mem hk)) hm
      have hst := seqTo_stop hs (by rw [hdrop, h3]; decide)
      rw [hdrop, h3] at hst
      exact decSeq_err h0 (by rw [hd]) (by rw [hd]) hk (by decide) hst
end Go.Dx
end

/- the text Law7 -/
section
namespace Go.Proofs.Ytjdnmbapmobaaaa
open Go.RowKit Go.Dx

def total (xs : List ByteArray) : Nat := (xs.map (·.size)).sum
theorem ret_dec {p q : Prop} [Decidable p] [Decidable q] (h : p ↔ q) : Ending.returned (.bool (decide p)) = .returned (.bool (decide q)) := by rw [decide_eq_decide.2 h]
theorem total_snoc (xs : List ByteArray) (y : ByteArray) : total (xs ++ [y]) = total xs + y.size := by simp [total]
theorem total_take {xs : List ByteArray} {k : Nat} {y : ByteArray} (h : xs[k]? = some y) : total (xs.take (k + 1)) = total (xs.take k) + y.size := by
  rw [List.take_add_one, h]; exact total_snoc _ _
theorem total_take_le (xs : List ByteArray) (k : Nat) : total (xs.take k) ≤ total xs := by
  have h : total xs = total (xs.take k) + total (xs.drop k) := by
    conv => lhs; rw [← List.take_append_drop k xs]
    simp only [total, List.map_append, List.sum_append]
  omega
theorem total_le {xs : List ByteArray} {M : Nat} (h : ∀ x ∈ xs, x.size ≤ M) : total xs ≤ xs.length * M := by
  induction xs with
  | nil => simp [total]
  | cons x xs ih =>
    have h1 := h x List.mem_cons_self
    have h2 := ih fun y hy => h y (List.mem_cons_of_mem _ hy)
    simp only [total, List.map_cons, List.sum_cons, List.length_cons, Nat.add_mul] at *
    omega

end Go.Proofs.Ytjdnmbapmobaaaa
end

/- the text Law8 -/
section
namespace Go.Proofs.Ytjdnmbapmobaaaa
open Go.RowKit Go.Dx

theorem tr_int {x : Int} (h0 : -9223372036854775808 ≤ x) (h1 : x ≤ 9223372036854775807) {E : List UInt8} (hE : encInt x = E) {i : Nat} (hi : i < E.length) : decInt (E.take i) = (0, 0, 3) := by
  subst hE; exact decInt_cut h0 h1 hi
theorem tr_bytes {s : ByteArray} (hs : s.size ≤ 140737488355000) {E : List UInt8} (hE : encBytes s.data.toList = E) {i : Nat} (hi : i < E.length) : ∃ y1 y2, decBytes (E.take i) = (y1, y2, 3) := by
  subst hE
  have h := cuts_bytes s i (by show s.size ≤ _; omega) hi
  exact ⟨_, _, Prod.ext rfl (Prod.ext rfl h)⟩
theorem tr_ints {l : List Int} (hl : ∀ x ∈ l, -9223372036854775808 ≤ x ∧ x ≤ 9223372036854775807) (hN : l.length ≤ 140737488355000) {E : List UInt8} (hE : encInts l = E) {i : Nat} (hi : i < E.length) : decSeq decInt (E.take i) = ([], 0, 3) := by
  subst hE; exact decSeq_cut round_int cuts_int l hl (by omega) hi
theorem tr_strs {l : List ByteArray} (hl : ∀ x ∈ l, x.size ≤ 140737488355000) (hN : l.length ≤ 140737488355000) {E : List UInt8} (hE : encStrs l = E) {i : Nat} (hi : i < E.length) : decSeq decBytes (E.take i) = ([], 0, 3) := by
  subst hE; exact decSeq_cut round_bytes cuts_bytes l (fun x hx => by have := hl x hx; show x.size ≤ _; omega) (by omega) hi
theorem tr_digs {fl : List UInt8} {n : Nat} (hf : fl.length = n * 16) (hN : n ≤ 140737488355000) {E : List UInt8} (hE : encInt n ++ fl = E) {i : Nat} (hi : i < E.length) : decDigs (E.take i) = (0, [], 0, 3) := by
  subst hE
  rw [List.length_append] at hi
  have h3 : cntErr ((encInt (n : Int) ++ fl).take i) 16 = 3 := by
    by_cases h : i < (encInt (n : Int)).length
    · exact cnt_more_enc (by omega) _ h
    · rw [take_enc _ (by omega)]
      exact cnt_more (S := 16) (by omega) (by omega) _ (by rw [List.length_take]; omega)
  unfold decDigs
  rw [if_neg (by rw [h3]; decide), h3]
theorem encStrs_le (l : List ByteArray) : (encStrs l).length ≤ 9 + 9 * l.length + total l := by
  have h : ∀ l : List ByteArray, (l.flatMap fun s => encBytes s.data.toList).length ≤ 9 * l.length + total l := by
    intro l
    induction l with
    | nil => simp [total]
    | cons x l ih =>
      have h2 := encInt_le (x.data.toList.length : Int)
      have h3 : x.data.toList.length = x.size := Array.length_toList
      simp only [List.flatMap_cons, List.length_append, List.length_cons, total, List.map_cons, List.sum_cons, encBytes] at *
      omega
  have h1 := h l
  have h2 := encInt_le (l.length : Int)
  unfold encStrs
  rw [List.length_append]
  omega
theorem encInts_le' (l : List Int) : (encInts l).length ≤ 9 + 9 * l.length := by
  have h : ∀ l : List Int, (l.flatMap encInt).length ≤ 9 * l.length := by
    intro l
    induction l with
    | nil => simp
    | cons x l ih => have := encInt_le x; rw [List.flatMap_cons, List.length_append, List.length_cons]; omega
  have h1 := h l
  have h2 := encInt_le (l.length : Int)
  unfold encInts
  rw [List.length_append]
  omega
theorem encBytes_le' (l : List UInt8) : (encBytes l).length ≤ 9 + l.length := by
  have h2 := encInt_le (l.length : Int)
  unfold encBytes
  rw [List.length_append]
  omega

end Go.Proofs.Ytjdnmbapmobaaaa
end

/- the text Law9 -/
section
namespace Go.Proofs.Ytjdnmbapmobaaaa
open Go.RowKit Go.Dx

theorem rInt_at {x : Int} {r : List UInt8} (h : encInt x = r) (h0 : -9223372036854775808 ≤ x) (h1 : x ≤ 9223372036854775807) {w : World} :
    Calls Try.prog 45 #[.int .i64 x] w (Gives 5 1 r.length (r.map B8) w) := by subst h; exact ref_Int x h0 h1 w
theorem rInts_at {l : List Int} {r : List UInt8} (h : encInts l = r) (hl : ∀ x ∈ l, -9223372036854775808 ≤ x ∧ x ≤ 9223372036854775807) (hT : r.length ≤ 140737488355000) (hN : l.length ≤ 140737488355000) {a : Option Addr} {n c : Nat} {w : World} (hs : Sl w 1 a n c (l.map I64)) :
    Calls Try.prog 34 #[.slice a n c] w (Gives 5 1 r.length (r.map B8) w) := by subst h; exact ref_Ints l hl hT hN a n c w hs
theorem rBytes_at {s : ByteArray} {r : List UInt8} (h : encBytes s.data.toList = r) (hs : s.size ≤ 140737488355000) {w : World} :
    Calls Try.prog 35 #[.string s] w (Gives 5 1 r.length (r.map B8) w) := by subst h; exact ref_Bytes s hs w
theorem size_of_total {t : List ByteArray} {x : ByteArray} (h : x ∈ t) : x.size ≤ total t := by
  induction t with
  | nil => cases h
  | cons y t ih =>
    simp only [total, List.map_cons, List.sum_cons] at *
    rcases List.mem_cons.1 h with rfl | h
    · omega
    · have := ih h; omega

end Go.Proofs.Ytjdnmbapmobaaaa
end

/- the text K5 -/
section
/- Chapter 37: a packet's bytes. -/
set_option linter.unusedVariables false
namespace Go.Proofs.Ytjdnmbapmobaaaa
open Go.RowKit Go.Dx Go.Al
theorem encInts_le (l : List Int) : (encInts l).length ≤ 9 * l.length + 9 := by
  unfold encInts
  have h3 := encInt_le ((l.length : Nat) : Int)
  have h : ∀ m : List Int, (m.flatMap encInt).length ≤ 9 * m.length := by
    intro m
    induction m with
    | nil => simp
    | cons x t ih =>
      have h1 := encInt_le x
      simp only [List.flatMap_cons, List.length_append, List.length_cons]
      omega
  have h2 := h l
  rw [List.length_append]
  omega
theorem wire_Ints_at {l : List Int} {r : List UInt8} (h : encInts l = r) (hl : ∀ x ∈ l, -9223372036854775808 ≤ x ∧ x ≤ 9223372036854775807) (hn : l.length ≤ 10) (a : Option Addr) (n c : Nat) (w : World) (hs : Sl w 1 a n c (l.map I64)) :
    Calls Try.prog 26 #[.slice a n c] w (Gives 5 1 r.length (r.map B8) w) := by
  subst h
  have hle := encInts_le l
  exact wire_Ints l hl (by omega) (by omega) a n c w hs
theorem wire_Bytes_at {l r : List UInt8} (h : encBytes l = r) (hn : (byB l).size ≤ 1000000000) (w : World) :
    Calls Try.prog 27 #[.string (byB l)] w (Gives 5 1 r.length (r.map B8) w) := by
  subst h
  exact wire_Bytes (byB l) (by omega) w
set_option maxRecDepth 100000 in
set_option maxHeartbeats 2000000 in
theorem lk_bytes (p : Pk) (h1 : -9223372036854775808 ≤ p.seq ∧ p.seq ≤ 9223372036854775807) (h2 : -9223372036854775808 ≤ p.ack ∧ p.ack ≤ 9223372036854775807) (hb : p.b.length ≤ 900) (a : Option Addr) (n c : Nat) (w : World) (hs : Sl w 1 a n c (p.b.map B8)) {R : List UInt8} (hR : pkB p = R) :
    Calls Try.prog 33 #[.agg #[.int .i64 p.seq, .int .i64 p.ack, .slice a n c]] w (Gives 5 1 R.length (R.map B8) w) := by
  obtain ⟨E, HE⟩ : ∃ E, Hid (encInts [p.seq, p.ack] = E) := ⟨_, rfl⟩
  obtain ⟨F, HF⟩ : ∃ E, Hid (encBytes p.b = E) := ⟨_, rfl⟩
  have HR : Hid (E ++ F = R) := hide (by rw [← HE.out, ← HF.out]; exact hR)
  have hle : E.length ≤ 27 := by
    have h1 := encInt_le p.seq
    have h2 := encInt_le p.ack
    have h3 := encInt_le (([p.seq, p.ack].length : Nat) : Int)
    rw [← HE.out]
    unfold encInts
    simp only [List.length_append, List.flatMap_cons, List.flatMap_nil, List.length_nil] at *
    omega
  have hfe : F.length ≤ 909 := by
    have h3 := encInt_le ((p.b.length : Nat) : Int)
    rw [← HF.out]
    unfold encBytes
    rw [List.length_append]
    omega
  have hEl : Hid (E.length ≤ 1000) := hide (by omega)
  have hFl : Hid (F.length ≤ 1000) := hide (by omega)
  have hBS : Hid ((byB p.b).size ≤ 1000000000) := hide (by rw [byB_size]; omega)
  have hb2 : Hid (∀ x ∈ [p.seq, p.ack], -9223372036854775808 ≤ x ∧ x ≤ 9223372036854775807) := hide (by intro x hx; simp at hx; rcases hx with rfl | rfl <;> assumption)
  have hs0 := hide hs
  clear hR hle hfe hs
  go_enter Try.func33, Try.ntmps33
  go_upto_region 1 with fail
  obtain ⟨w1, G1, hw1, e1, x1, b1, l1⟩ := allocs1 w [.int .i64 p.seq, .int .i64 p.ack, .slice a n c] 68
  rw [← hw1, ← e1]
  have hs1 := hide (hs0.out.below b1)
  clear hw1 e1
  go_wp2_with fail
  refine wp_region_free 12 [⟨0, 3, [3], fun vs _ => vs = [.pointer (some ⟨G1, 0, none⟩)]⟩, ⟨1, 4, [4], fun vs _ => vs = [.int .i64 p.seq]⟩, ⟨2, 5, [5], fun vs _ => vs = [.pointer (some ⟨G1, 1, none⟩)]⟩, ⟨3, 6, [6], fun vs _ => vs = [.int .i64 p.ack]⟩, ⟨4, 7, [7], fun vs w' => ∃ b, vs = [.slice (some ⟨b, 0, none⟩) 2 2] ∧ Sl w' 1 (some ⟨b, 0, none⟩) 2 2 ([p.seq, p.ack].map I64)⟩, ⟨5, 8, [8], fun vs w' => ∃ a c, vs = [.slice a E.length c] ∧ Sl w' 1 a E.length c (E.map B8)⟩, ⟨6, 9, [9], fun vs _ => vs = [.pointer (some ⟨G1, 2, none⟩)]⟩, ⟨7, 10, [10], fun vs _ => vs = [.slice a n c]⟩, ⟨8, 11, [11], fun vs _ => vs = [.string (byB p.b)]⟩, ⟨9, 12, [12], fun vs w' => ∃ a c, vs = [.slice a F.length c] ∧ Sl w' 1 a F.length c (F.map B8)⟩, ⟨10, 13, [13], fun vs w' => ∃ b a1 c1 a2 c2, vs = [.slice (some ⟨b, 0, none⟩) 2 2] ∧ Sl w' 1 (some ⟨b, 0, none⟩) 2 2 [.slice a1 E.length c1, .slice a2 F.length c2] ∧ Sl w' 1 a1 E.length c1 (E.map B8) ∧ Sl w' 1 a2 F.length c2 (F.map B8)⟩, ⟨11, 14, [14], fun vs w' => ∃ a c, vs = [.slice a R.length c] ∧ Own w' w1.heap.size 5 1 a R.length c (R.map B8)⟩] (by kernel_rfl) (by kernel_rfl) ?_ ?_ ?_
  · simp only [All]
    refine ⟨fun _ _ _ _ h => h, fun _ _ _ _ h => h, fun _ _ _ _ h => h, fun _ _ _ _ h => h, ?_, ?_, fun _ _ _ _ h => h, fun _ _ _ _ h => h, fun _ _ _ _ h => h, ?_, ?_, ?_, trivial⟩
    · rintro vs w w' hb ⟨b, h1, h2⟩
      exact ⟨b, h1, h2.below hb⟩
    · rintro vs w w' hb ⟨a, c, h1, h2⟩
      exact ⟨a, c, h1, h2.below hb⟩
    · rintro vs w w' hb ⟨a, c, h1, h2⟩
      exact ⟨a, c, h1, h2.below hb⟩
    · rintro vs w w' hb ⟨b, a1, c1, a2, c2, h1, h2, h3, h4⟩
      exact ⟨b, a1, c1, a2, c2, h1, h2.below hb, h3.below hb, h4.below hb⟩
    · rintro vs w w' hb ⟨a, c, h1, h2⟩
      exact ⟨a, c, h1, h2.below hb⟩
  · simp only [All]
    refine ⟨?_, ?_, ?_, ?_, ?_, ?_, ?_, ?_, ?_, ?_, ?_, ?_, trivial⟩
    · intro o ho a' w' hb hfr hdep
      obtain rfl := Option.some.inj ho
      have g1 : a'.tmps[1]?.getD undef = .pointer (some ⟨G1, 0, none⟩) := by have h := hfr 1 (by kernel_rfl); simpa using h
      clear ho hfr hdep
      go_wp2_with fail
      exact ⟨rfl, _, rfl, Below.refl _ _, rfl⟩
    · intro o ho a' w' hb hfr hdep
      obtain rfl := Option.some.inj ho
      have g3 : a'.tmps[3]?.getD undef = .pointer (some ⟨G1, 0, none⟩) := by have h := hdep 0 _ rfl (by kernel_rfl); simpa using h
      clear ho hfr hdep
      have hcl := (x1.under hb).at_ (j := 0) rfl
      go_wp2_with fail
      exact ⟨rfl, _, rfl, Below.refl _ _, rfl⟩
    · intro o ho a' w' hb hfr hdep
      obtain rfl := Option.some.inj ho
      have g1 : a'.tmps[1]?.getD undef = .pointer (some ⟨G1, 0, none⟩) := by have h := hfr 1 (by kernel_rfl); simpa using h
      clear ho hfr hdep
      go_wp2_with fail
      exact ⟨rfl, _, rfl, Below.refl _ _, rfl⟩
    · intro o ho a' w' hb hfr hdep
      obtain rfl := Option.some.inj ho
      have g5 : a'.tmps[5]?.getD undef = .pointer (some ⟨G1, 1, none⟩) := by have h := hdep 2 _ rfl (by kernel_rfl); simpa using h
      clear ho hfr hdep
      have hcl := (x1.under hb).at_ (j := 1) rfl
      go_wp2_with fail
      exact ⟨rfl, _, rfl, Below.refl _ _, rfl⟩
    · intro o ho a' w' hb hfr hdep
      obtain rfl := Option.some.inj ho
      have g4 : a'.tmps[4]?.getD undef = .int .i64 p.seq := by have h := hdep 1 _ rfl (by kernel_rfl); simpa using h
      have g6 : a'.tmps[6]?.getD undef = .int .i64 p.ack := by have h := hdep 3 _ rfl (by kernel_rfl); simpa using h
      clear ho hfr hdep
      go_wp2_with fail
      exact ⟨rfl, _, rfl, sblo _ _, _, rfl, Sl.fresh _ _ 1 2 ([p.seq, p.ack].map I64) rfl (by decide)⟩
    · intro o ho a' w' hb hfr hdep
      obtain rfl := Option.some.inj ho
      obtain ⟨b7, h7, s7⟩ := hdep 4 _ rfl (by kernel_rfl)
      have g7 : a'.tmps[7]?.getD undef = .slice (some ⟨b7, 0, none⟩) 2 2 := by simpa using h7
      clear ho hfr hdep
      go_wp2_with fail
      refine (wire_Ints_at HE.out hb2.out (by simp) _ _ _ _ s7).mono ?_
      rintro e w2 ⟨a2, c2, rfl, o2, h2⟩
      go_wp2_with fail
      exact ⟨rfl, _, rfl, h2, _, _, rfl, o2.sl⟩
    · intro o ho a' w' hb hfr hdep
      obtain rfl := Option.some.inj ho
      have g1 : a'.tmps[1]?.getD undef = .pointer (some ⟨G1, 0, none⟩) := by have h := hfr 1 (by kernel_rfl); simpa using h
      clear ho hfr hdep
      go_wp2_with fail
      exact ⟨rfl, _, rfl, Below.refl _ _, rfl⟩
    · intro o ho a' w' hb hfr hdep
      obtain rfl := Option.some.inj ho
      have g9 : a'.tmps[9]?.getD undef = .pointer (some ⟨G1, 2, none⟩) := by have h := hdep 6 _ rfl (by kernel_rfl); simpa using h
      clear ho hfr hdep
      have hcl := (x1.under hb).at_ (j := 2) rfl
      go_wp2_with fail
      exact ⟨rfl, _, rfl, Below.refl _ _, rfl⟩
    · intro o ho a' w' hb hfr hdep
      obtain rfl := Option.some.inj ho
      have g10 : a'.tmps[10]?.getD undef = .slice a n c := by have h := hdep 7 _ rfl (by kernel_rfl); simpa using h
      clear ho hfr hdep
      refine to_str 11 _ _ _ _ p.b (by simpa [Act.eval] using g10) (hs1.out.below hb) ?_
      exact ⟨rfl, _, rfl, Below.refl _ _, rfl⟩
    · intro o ho a' w' hb hfr hdep
      obtain rfl := Option.some.inj ho
      have g11 : a'.tmps[11]?.getD undef = .string (byB p.b) := by have h := hdep 8 _ rfl (by kernel_rfl); simpa using h
      clear ho hfr hdep
      go_wp2_with fail
      refine (wire_Bytes_at HF.out hBS.out _).mono ?_
      rintro e w2 ⟨a2, c2, rfl, o2, h2⟩
      go_wp2_with fail
      exact ⟨rfl, _, rfl, h2, _, _, rfl, o2.sl⟩
    · intro o ho a' w' hb hfr hdep
      obtain rfl := Option.some.inj ho
      obtain ⟨a8, c8, h8, s8⟩ := hdep 5 _ rfl (by kernel_rfl)
      have g8 : a'.tmps[8]?.getD undef = .slice a8 E.length c8 := by simpa using h8
      obtain ⟨a12, c12, h12, s12⟩ := hdep 9 _ rfl (by kernel_rfl)
      have g12 : a'.tmps[12]?.getD undef = .slice a12 F.length c12 := by simpa using h12
      clear ho hfr hdep
      go_wp2_with fail
      exact ⟨rfl, _, rfl, sblo _ _, _, rfl, a8, c8, a12, c12, Sl.fresh _ _ 1 2 [.slice a8 E.length c8, .slice a12 F.length c12] rfl (by decide), s8.alloc _, s12.alloc _⟩
    · intro o ho a' w' hb hfr hdep
      obtain rfl := Option.some.inj ho
      obtain ⟨b13, a8, c8, a12, c12, h13, s13, s8, s12⟩ := hdep 10 _ rfl (by kernel_rfl)
      have g13 : a'.tmps[13]?.getD undef = .slice (some ⟨b13, 0, none⟩) 2 2 := by simpa using h13
      clear ho hfr hdep
      go_wp2_with fail
      refine (concat6 E F a8 a12 c8 c12 (some ⟨b13, 0, none⟩) 2 _ s13 s8 s12 hEl.out hFl.out).mono ?_
      rintro e w2 ⟨a2, c2, rfl, o2, h2⟩
      rw [HR.out] at o2
      rw [HR.out]
      go_wp2_with fail
      exact ⟨rfl, _, rfl, h2, _, _, rfl, o2.mono hb.size⟩
  · intro g w9 hb hp'
    obtain ⟨aR, cR, p14, oR⟩ := hp' 11 _ rfl
    clear hp'
    simp at p14
    simp only [List.drop_succ_cons, List.drop_zero, List.map_cons, List.map_nil, putAll, Act.put, List.setIfInBounds_toArray, List.set_cons_succ, List.set_cons_zero, List.cons_append, List.nil_append, p14]
    go_wp2_with fail
    go_ret
    exact ⟨aR, cR, rfl, oR.mono b1.size, b1.trans (hb.mono b1.size)⟩
end Go.Proofs.Ytjdnmbapmobaaaa
end

/- the text K6 -/
section
/- Chapter 37: a packet's form. -/
set_option linter.unusedVariables false
namespace Go.Proofs.Ytjdnmbapmobaaaa
open Go.RowKit Go.Dx Go.Al
set_option maxRecDepth 100000 in
set_option maxHeartbeats 2000000 in
theorem lk_valid (S K : Int) (a : Option Addr) (n c : Nat) (w : World) :
    Calls Try.prog 48 #[.agg #[.int .i64 S, .int .i64 K, .slice a n c]] w fun e w' => e = .returned (.bool (decide (0 ≤ S) && decide (0 ≤ K) && decide (n ≤ 65536) && (decide (0 < S) || decide (n = 0)))) ∧ Below w.heap.size w w' := by
  have e3 : decide (n ≤ 65536) = decide ((n : Int) ≤ 65536) := decide_eq_decide.2 (by omega)
  have e5 : decide (n = 0) = decide ((n : Int) = 0) := decide_eq_decide.2 (by omega)
  rw [e3, e5]
  clear e3 e5
  go_enter Try.func48, Try.ntmps48
  go_upto_region 1 with fail
  obtain ⟨w1, G1, hw1, e1, x1, b1, l1⟩ := allocs1 w [.int .i64 S, .int .i64 K, .slice a n c] 68
  rw [← hw1, ← e1]
  clear hw1 e1
  have hc0 := x1.at_ (j := 0) rfl
  have hc1 := x1.at_ (j := 1) rfl
  have hc2 := x1.at_ (j := 2) rfl
  clear x1
  cases h1 : decide (0 ≤ S)
  · go_wp2_with fail
    go_ret
    refine ⟨?_, b1⟩
    show Ending.returned (.bool false) = _
    refine congrArg (fun b => Ending.returned (Value.bool b)) ?_
    rw [Bool.eq_iff_iff]
    simp at h1 ⊢
    omega
  cases h2 : decide (0 ≤ K)
  · go_wp2_with fail
    go_ret
    refine ⟨?_, b1⟩
    show Ending.returned (.bool false) = _
    refine congrArg (fun b => Ending.returned (Value.bool b)) ?_
    rw [Bool.eq_iff_iff]
    simp at h1 h2 ⊢
    omega
  cases h3 : decide ((n : Int) ≤ 65536)
  · go_wp2_with fail
    go_ret
    refine ⟨?_, b1⟩
    show Ending.returned (.bool false) = _
    refine congrArg (fun b => Ending.returned (Value.bool b)) ?_
    rw [Bool.eq_iff_iff]
    simp at h1 h2 h3 ⊢
    omega
  cases h4 : decide (0 < S)
  · go_wp2_with fail
    go_ret
    refine ⟨?_, b1⟩
    show Ending.returned (.bool ((n : Int) == 0)) = _
    refine congrArg (fun b => Ending.returned (Value.bool b)) ?_
    rw [Bool.eq_iff_iff]
    simp at h1 h2 h3 h4 ⊢
    omega
  · go_wp2_with fail
    go_ret
    refine ⟨?_, b1⟩
    show Ending.returned (.bool true) = _
    refine congrArg (fun b => Ending.returned (Value.bool b)) ?_
    rw [Bool.eq_iff_iff]
    simp at h1 h2 h3 h4 ⊢
    omega
end Go.Proofs.Ytjdnmbapmobaaaa
end

/- the text C3 -/
section
namespace Go.Proofs.Ytjdnmbapmobaaaa
open Go.RowKit Go.Dx

def sumBit (s : Nat) (x : Int) : Prop := s / bitN x % 2 = 1
theorem raw_bit {x : Int} (h : 1 ≤ x ∧ x ≤ 6) : (2 : Int) ^ (x.toNat - 1) % 256 = ((bitN x : Nat) : Int) := by
  obtain ⟨h1, h2⟩ := h
  have : x = 1 ∨ x = 2 ∨ x = 3 ∨ x = 4 ∨ x = 5 ∨ x = 6 := by omega
  rcases this with rfl | rfl | rfl | rfl | rfl | rfl <;> rfl
theorem and_fin : ∀ s : Fin 64, ∀ j : Fin 6, (bits BinOp.and IntKind.u8 ((s.val : Nat) : Int) ((2 ^ j.val : Nat) : Int) != 0) = (s.val / 2 ^ j.val % 2 == 1) ∧ (s.val / 2 ^ j.val % 2 = 0 → bits BinOp.or IntKind.u8 ((s.val : Nat) : Int) ((2 ^ j.val : Nat) : Int) = ((s.val + 2 ^ j.val : Nat) : Int)) := by decide +kernel
theorem and_yes {s : Nat} (hs : s < 64) {x : Int} (h : 1 ≤ x ∧ x ≤ 6) (hb : sumBit s x) : (bits BinOp.and IntKind.u8 (s : Int) ((bitN x : Nat) : Int) != 0) = true := by
  rw [show bitN x = 2 ^ (x - 1).toNat from rfl, (and_fin ⟨s, hs⟩ ⟨(x - 1).toNat, by omega⟩).1]; exact beq_iff_eq.2 hb
theorem and_not {s : Nat} (hs : s < 64) {x : Int} (h : 1 ≤ x ∧ x ≤ 6) (hb : ¬ sumBit s x) : (bits BinOp.and IntKind.u8 (s : Int) ((bitN x : Nat) : Int) != 0) = false ∧ bits BinOp.or IntKind.u8 (s : Int) ((bitN x : Nat) : Int) = ((s + bitN x : Nat) : Int) := by
  have h1 := and_fin ⟨s, hs⟩ ⟨(x - 1).toNat, by omega⟩
  have h2 : s / 2 ^ (x - 1).toNat % 2 = 0 := by have : ¬ (s / 2 ^ (x - 1).toNat % 2 = 1) := hb; omega
  rw [show bitN x = 2 ^ (x - 1).toNat from rfl]
  refine ⟨?_, h1.2 h2⟩
  rw [h1.1]; exact beq_eq_false_iff_ne.2 hb

abbrev ROf (r : Nat × Int) : Value := .tuple #[.int .u8 (r.1 : Int), .int .i64 r.2]

end Go.Proofs.Ytjdnmbapmobaaaa
end

/- the text C4 -/
section
namespace Go.Proofs.Ytjdnmbapmobaaaa
open Go.RowKit Go.Dx

theorem half_step (n k : Nat) : n / 2 ^ k / 2 = n / 2 ^ (k + 1) := by rw [Nat.div_div_eq_div_mul, Nat.pow_succ]
end Go.Proofs.Ytjdnmbapmobaaaa
end

/- the text C5 -/
section
namespace Go.Proofs.Ytjdnmbapmobaaaa
open Go.RowKit Go.Dx

theorem bitN_le {x : Int} (h : 1 ≤ x ∧ x ≤ 6) : bitN x ≤ 32 := by
  unfold bitN
  exact Nat.pow_le_pow_right (n := 2) (j := 5) (by omega) (by omega)

end Go.Proofs.Ytjdnmbapmobaaaa
end

/- the text C6 -/
section
namespace Go.Proofs.Ytjdnmbapmobaaaa
open Go.RowKit Go.Dx

def flipD (x : Int) : Int := if x ≤ 3 then x + 3 else x - 3
theorem flip_lo {x : Int} (h : x ≤ 3) : flipD x = x + 3 := if_pos h
theorem flip_hi {x : Int} (h : ¬ x ≤ 3) : flipD x = x - 3 := if_neg h
theorem dots_mem {u : UInt8} {k : Nat} {x : Int} (h : x ∈ dotsTo u k) : 1 ≤ x ∧ x ≤ k := by
  unfold dotsTo at h
  obtain ⟨j, hj, rfl⟩ := List.mem_map.1 h
  have := List.mem_range.1 (List.mem_filter.1 hj).1
  omega
theorem back_of_fin : ∀ n : Fin 256, ofL ((dotsL (UInt8.ofNat n.val)).map flipD) = ((backC (UInt8.ofNat n.val)).toNat, 0) := by decide +kernel
theorem of_u8 (u : UInt8) : UInt8.ofNat u.toNat = u := by simp
theorem back_of (u : UInt8) : ofL ((dotsL u).map flipD) = ((backC u).toNat, 0) := by
  have h := back_of_fin ⟨u.toNat, u.toNat_lt⟩
  rw [of_u8] at h; exact h

end Go.Proofs.Ytjdnmbapmobaaaa
end

/- the text C7 -/
section
namespace Go.Proofs.Ytjdnmbapmobaaaa
open Go.RowKit Go.Dx

set_option maxHeartbeats 400000 in
theorem ref_Few (l : List UInt8) (m : Nat) (a : Option Addr) (n c : Nat) (w : World) (hs : Sl w 1 a n c (l.map B8)) (hm : m ≤ 1000000) :
    Calls Try.prog 16 #[.slice a n c, .int .i64 m] w (Gives 5 1 (l.take m).length ((l.take m).map B8) w) := by
  obtain rfl := hs.n_eq
  have hcap := Nat.le_trans hs.le hs.cap
  unfold maxLen at hcap
  by_cases h : l.length ≤ m
  · have HE : Hid (l.take l.length = l.take m) := by show _ = _; rw [List.take_of_length_le h, List.take_length]
    have HL : Hid (l.length = (l.take m).length) := by show _ = _; rw [List.length_take]; omega
    go_enter Try.func16, Try.ntmps16
    go_wp2_with (first
      | (with_reducible refine cuthi_b 12 _ _ _ _ _ l rfl hs _ _ l.length rfl rfl (by omega) ?_; intro hcut)
      | (at_builtin; refine app_bs rfl _ _ rfl w w.heap.size _ _ _ _ rfl (Own.nil _ _ _ _) _ _ _ (l.take l.length) rfl hcut (by omega) (Nat.le_refl _) (Below.refl _ _) ?_; intro a' c' w' ho' hgr' hb'))
    go_ret
    rw [← HL.out]
    rw [HE.out] at ho'
    refine ⟨a', c', rfl, ?_, hb'⟩
    rw [Nat.zero_add, List.nil_append] at ho'
    exact ho'
  · have HL : Hid (m = (l.take m).length) := by show _ = _; rw [List.length_take]; omega
    go_enter Try.func16, Try.ntmps16
    go_wp2_with (first
      | (with_reducible refine cuthi_b 12 _ _ _ _ _ l rfl hs _ _ m rfl rfl (by omega) ?_; intro hcut)
      | (at_builtin; refine app_bs rfl _ _ rfl w w.heap.size _ _ _ _ rfl (Own.nil _ _ _ _) _ _ _ (l.take m) rfl hcut (by omega) (Nat.le_refl _) (Below.refl _ _) ?_; intro a' c' w' ho' hgr' hb'))
    go_ret
    rw [← HL.out]
    refine ⟨a', c', rfl, ?_, hb'⟩
    rw [Nat.zero_add, List.nil_append] at ho'
    exact ho'

end Go.Proofs.Ytjdnmbapmobaaaa
end

/- the text C8 -/
section
namespace Go.Proofs.Ytjdnmbapmobaaaa
open Go.RowKit Go.Dx

abbrev Hd := Option Addr × Nat × Nat
def hv (h : Hd) : Value := .slice h.1 h.2.1 h.2.2
/-- A page: the slice of its lines, and each line. -/
structure Pg (w : World) (a : Option Addr) (n c : Nat) (hs : List Hd) (p : List (List UInt8)) : Prop where
  top : Sl w 1 a n c (hs.map hv)
  len : hs.length = p.length
  row : ∀ (i : Nat) (h : Hd) (r : List UInt8), hs[i]? = some h → p[i]? = some r → Sl w 1 h.1 h.2.1 h.2.2 (r.map B8)
theorem Pg.below {w w' : World} {a : Option Addr} {n c : Nat} {hs : List Hd} {p : List (List UInt8)} (h : Pg w a n c hs p) (hb : Below w.heap.size w w') : Pg w' a n c hs p :=
  ⟨h.top.below hb, h.len, fun i x r h1 h2 => (h.row i x r h1 h2).below hb⟩
theorem Pg.drew {w : World} {a : Option Addr} {n c : Nat} {hs : List Hd} {p : List (List UInt8)} (h : Pg w a n c hs p) : Pg w.drew a n c hs p :=
  ⟨h.top.drew, h.len, fun i x r h1 h2 => (h.row i x r h1 h2).drew⟩
theorem Pg.n_eq {w : World} {a : Option Addr} {n c : Nat} {hs : List Hd} {p : List (List UInt8)} (h : Pg w a n c hs p) : n = p.length := by rw [h.top.n_eq, h.len]
theorem Pg.get {w : World} {a : Option Addr} {n c : Nat} {hs : List Hd} {p : List (List UInt8)} (h : Pg w a n c hs p) {i : Nat} {r : List UInt8} (hr : p[i]? = some r) :
    ∃ a' c', (hs.map hv)[i]? = some (.slice a' r.length c') ∧ Sl w 1 a' r.length c' (r.map B8) := by
  have hi : i < hs.length := by rw [h.len]; exact (List.getElem?_eq_some_iff.1 hr).1
  have hx : hs[i]? = some hs[i] := by simp [hi]
  have h1 := h.row i _ r hx hr
  have h2 := h1.n_eq
  refine ⟨hs[i].1, hs[i].2.2, ?_, ?_⟩
  · rw [List.getElem?_map, hx]; unfold hv; rw [← h2]; rfl
  · rw [← h2]; exact h1

section
variable {w : World} {ops : Array Oper} {rest : List Oper} {act : Act} {Q : Exit → Act → World → Prop} {ty : TypeId} {pos : String} {after : Array Edge}
end

/-- cells that are not 0; dots -/
def cN (s : List UInt8) : Nat := (s.filter (· != 0)).length
def cM (s : List UInt8) : Nat := (s.map fun c => (dotsL c).length).sum
theorem cN_le (s : List UInt8) : cN s ≤ s.length := List.length_filter_le _ _
theorem cM_le (s : List UInt8) : cM s ≤ 6 * s.length := by
  unfold cM
  induction s with
  | nil => simp
  | cons c s ih => have := dotsTo_len c 6; simp only [List.map_cons, List.sum_cons, List.length_cons]; unfold dotsL at *; omega
theorem cN_snoc (s : List UInt8) (c : UInt8) : cN (s ++ [c]) = cN s + (if c = 0 then 0 else 1) := by
  unfold cN; rw [List.filter_append, List.length_append]
  by_cases h : c = 0 <;> simp [h]
theorem cM_snoc (s : List UInt8) (c : UInt8) : cM (s ++ [c]) = cM s + (dotsL c).length := by
  unfold cM; rw [List.map_append, List.sum_append]; simp
theorem seen_next {p : List (List UInt8)} {k : Nat} {r : List UInt8} (h : p[k]? = some r) : (p.take (k + 1)).flatten = (p.take k).flatten ++ r := by rw [take_snoc h, List.flatten_append]; simp
theorem seen_le {p : List (List UInt8)} {k : Nat} {r : List UInt8} (h : p[k]? = some r) (j : Nat) : ((p.take k).flatten ++ r.take j).length ≤ p.flatten.length := by
  have e : p.flatten = (p.take (k + 1)).flatten ++ (p.drop (k + 1)).flatten := by rw [← List.flatten_append, List.take_append_drop]
  rw [e, seen_next h]
  simp only [List.length_append, List.length_take]
  omega
theorem u8_ne {c : UInt8} (h : c ≠ 0) : ((c.toNat : Int) != 0) = true := by
  have : c.toNat ≠ 0 := fun e => h (UInt8.toNat_inj.1 e)
  simp; exact this

end Go.Proofs.Ytjdnmbapmobaaaa
end

/- the text Make -/
section
/- make with a variable length, as a law of the walk that hands on an unnamed world. No program in sight. -/
set_option linter.unusedVariables false
namespace Go.Dx
open Go.RowKit

section
variable {P : Program} {w : World} {ops : Array Oper} {rest : List Oper} {act : Act} {Q : Exit → Act → World → Prop}
  {ty : TypeId} {pos : String} {after : Array Edge}
/-- 'make([]T, n)', T of one cell -/
theorem make_row (d : Nat) (t : TypeId) (l c : Operand) (e : TypeId) (z : Value) (bytes : Nat) (ht : P.underlying t = some (.slice e)) (hi : (P.info? e).map (fun i => (i.zero, i.size, i.bytes)) = some (some z, 1, bytes)) (hz1 : z.cells = #[z])
    (kl kc : IntKind) (v1 v2 : Int) (n : Nat) (hl : act.eval l = .int kl v1) (hc : act.eval c = .int kc v2) (h1 : v1 = (n : Int)) (h2 : v2 = (n : Int)) (hbytes : bytes * n ≤ 281474976710656) (h63 : n ≤ 9223372036854775807)
    (hK : ∀ w', w'.rowIs w.heap.size e n (fun _ => z) → Below w.heap.size w w' → w'.heap.size = w.heap.size + 1 → wpList P ops Q rest (act.put (some d) (.slice (some ⟨w.heap.size, 0, none⟩) n n)) w') :
    wpList P ops Q ({ dst := some d, op := .makeSlice t l c, type := ty, pos := pos, after := after, guard := none } :: rest) act w := by
  subst h1 h2
  obtain ⟨i, hi0, hz0, hz, hz2⟩ := info_parts hi
  refine wpList_make_row w rfl l c t rfl e i z ht hi0 hz0 hz hz1 kl kc n hl hc (by rw [hz2]; exact hbytes) h63 ?_
  exact hK _ (World.rowIs_made w z n e) ((Below.refl _ _).alloc (Nat.le_refl _) _) (by simp)
end

/-- a row of bytes, of truths, read as a slice -/
theorem row_sl' {w : World} {b : Nat} {t : TypeId} {n : Nat} {f : Nat → Value} (h : w.rowIs b t n f) (hm : n ≤ maxLen) (cs : List Value) (hl : cs.length = n) (he : ∀ j u, cs[j]? = some u → u = f j) : Sl w 1 (some ⟨b, 0, none⟩) n n cs :=
  ⟨by omega, Nat.le_refl _, hm, (fun h => by cases h), fun p hp j u hj => by
    cases hp
    have hj' : j < n := by rw [← hl]; exact (List.getElem?_eq_some_iff.1 hj).1
    rw [Addr.add_lit, Nat.zero_add, h.cell hj', he j u hj]⟩
theorem rowIs_below {w w' : World} {B b : Nat} {t : TypeId} {n : Nat} {f : Nat → Value} (h : w.rowIs b t n f) (hb : Below B w w') (hlt : b < B) : w'.rowIs b t n f := h.of_block (hb.block b hlt)
theorem rowIs_drewN {w : World} {b : Nat} {t : TypeId} {n : Nat} {f : Nat → Value} (h : w.rowIs b t n f) (m : Nat) : (w.drewN m).rowIs b t n f := h
end Go.Dx
end

/- the text Pg -/
section
/- Pages that a call builds by append: the slice of rows, and each row, owned. -/
namespace Go.Proofs.Ytjdnmbapmobaaaa
open Go.RowKit Go.Dx

theorem info_row : (Try.prog.info? 33).map (fun i => (i.zero, i.size, i.bytes)) = some (some (.slice none 0 0), 1, 24) := by kernel_rfl
theorem own_ne {w : World} {B B' : Nat} {e e' : TypeId} {sz sz' : Nat} {p q : Addr} {n n' c c' : Nat} {cs cs' : List Value} (h : Own w B e sz (some p) n c cs) (h' : Own w B' e' sz' (some q) n' c' cs') (he : e ≠ e') : p.block ≠ q.block := by
  intro hb
  rcases h.2 with ⟨h1, _⟩ | ⟨g, cap, cur, h1, _, h2, _⟩
  · cases h1
  · rcases h'.2 with ⟨k1, _⟩ | ⟨g', cap', cur', k1, _, k2, _⟩
    · cases k1
    · injection h1 with h1
      injection k1 with k1
      injection h1 with h1
      injection k1 with k1
      subst h1 k1
      have e : g = g' := hb
      rw [e, k2] at h2
      injection h2 with h2
      injection h2 with _ h2
      exact he h2.symm

/-- A page that the call owns. -/
structure OPage (w : World) (B : Nat) (a : Option Addr) (c : Nat) (hs : List Hd) (p : List (List UInt8)) : Prop where
  top : Own w B 33 1 a p.length c (hs.map hv)
  len : hs.length = p.length
  row : ∀ (i : Nat) (h : Hd) (r : List UInt8), hs[i]? = some h → p[i]? = some r → Own w B 5 1 h.1 h.2.1 h.2.2 (r.map B8)
theorem OPage.nil (w : World) (B : Nat) : OPage w B none 0 [] [] := ⟨Own.nil _ _ _ _, rfl, fun i h r h1 => by cases h1⟩
theorem OPage.below {w w' : World} {B : Nat} {a : Option Addr} {c : Nat} {hs : List Hd} {p : List (List UInt8)} (h : OPage w B a c hs p) (hb : Below w.heap.size w w') : OPage w' B a c hs p :=
  ⟨h.top.below hb, h.len, fun i x r h1 h2 => (h.row i x r h1 h2).below hb⟩
theorem OPage.pg {w : World} {B : Nat} {a : Option Addr} {c : Nat} {hs : List Hd} {p : List (List UInt8)} (h : OPage w B a c hs p) : Pg w a p.length c hs p :=
  ⟨h.top.sl, h.len, fun i x r h1 h2 => (h.row i x r h1 h2).sl⟩
theorem OPage.mono {w : World} {B B' : Nat} {a : Option Addr} {c : Nat} {hs : List Hd} {p : List (List UInt8)} (h : OPage w B a c hs p) (hB : B' ≤ B) : OPage w B' a c hs p :=
  ⟨h.top.mono hB, h.len, fun i x r h1 h2 => (h.row i x r h1 h2).mono hB⟩
theorem OPage.push {w w' : World} {B : Nat} {a a' : Option Addr} {c c' : Nat} {hs : List Hd} {p : List (List UInt8)} {x : Hd} {r : List UInt8} (h : OPage w B a c hs p) (hx : Own w B 5 1 x.1 x.2.1 x.2.2 (r.map B8))
    (ht : Own w' B 33 1 a' (p.length + 1) c' (hs.map hv ++ [hv x])) (hg : w.grownBy w' (a.map (·.block))) : OPage w' B a' c' (hs ++ [x]) (p ++ [r]) := by
  have key : ∀ (y : Hd) (s : List UInt8), Own w B 5 1 y.1 y.2.1 y.2.2 (s.map B8) → Own w' B 5 1 y.1 y.2.1 y.2.2 (s.map B8) := by
    intro y s hy
    refine hy.kept hg fun q hq => ?_
    cases a with
    | none => simp
    | some t =>
      have ho := h.top
      rw [hq] at hy
      have := own_ne hy ho (by decide)
      simpa using this
  refine ⟨by rw [List.length_append, List.map_append]; exact ht, by simp [h.len], ?_⟩
  intro i y s h1 h2
  rw [List.getElem?_append] at h1 h2
  by_cases hi : i < hs.length
  · rw [if_pos hi] at h1
    rw [if_pos (by rw [← h.len]; exact hi)] at h2
    exact key y s (h.row i y s h1 h2)
  · rw [if_neg hi] at h1
    rw [if_neg (by rw [← h.len]; exact hi)] at h2
    have e : i - hs.length = 0 := by
      have := (List.getElem?_eq_some_iff.1 h1).1
      simp at this; omega
    rw [e] at h1
    have e2 : i - p.length = 0 := by rw [← h.len]; exact e
    rw [e2] at h2
    simp at h1 h2
    subst h1 h2
    exact key x r hx
/-- What a call hands back that returns a page and an error. -/
def GivesPg (p : List (List UInt8)) (x : Int) (w : World) (r : Ending) (w' : World) : Prop :=
  ∃ a c h, r = .returned (.tuple #[.slice a p.length c, .int .i64 x]) ∧ Pg w' a p.length c h p ∧ Below w.heap.size w w'
section
variable {w : World} {ops : Array Oper} {rest : List Oper} {o : Oper} {act : Act} {Q : Exit → Act → World → Prop}
end
end Go.Proofs.Ytjdnmbapmobaaaa
end

/- the text To -/
section
/- '[]byte(s)': the block that is made holds bytes. Pages whose rows are made so. -/
set_option linter.unusedVariables false
namespace Go.Proofs.Ytjdnmbapmobaaaa
open Go.RowKit Go.Dx

/-- a slice of bytes lies in a block of bytes -/
def Kind (w : World) (a : Option Addr) : Prop := ∀ q, a = some q → ∃ C z, w.heap[q.block]? = some (.cells C 5 z)
theorem Kind.below {w w' : World} {a : Option Addr} (h : Kind w a) (hb : Below w.heap.size w w') : Kind w' a := fun q hq => by
  obtain ⟨C, z, hc⟩ := h q hq
  exact ⟨C, z, by rw [hb.block q.block (Array.getElem?_eq_some_iff.1 hc).1]; exact hc⟩
theorem to_kind {w : World} {ops : Array Oper} {rest : List Oper} {act : Act} {Q : Exit → Act → World → Prop} {ty : TypeId} {pos : String} {after : Array Edge} (d : Nat) (x : Operand) (s : ByteArray) (hx : act.eval x = .string s) (hm : s.size ≤ maxLen)
    (hK : ∀ a c w', Sl w' 1 a s.size c (s.data.toList.map B8) → Kind w' a → Below w.heap.size w w' → wpList Try.prog ops Q rest (act.put (some d) (.slice a s.size c)) w') :
    wpList Try.prog ops Q ({ dst := some d, op := .convert 9 33 x, type := ty, pos := pos, after := after, guard := none } :: rest) act w := by
  refine wpList_plain rfl fun K hK' => ?_
  have hrun := run_bytes_of_string (P := Try.prog) w 9 33 5 s Try.underlying9 Try.underlying33 Try.underlying5
  have hge := grownCap_ge w s.size 0 5
  have hcm := grownCap_le_maxLen w s.size 0 5 hm
  unfold Oper.wp
  simp only [execOp, hx, Sem.run_bind, hrun, Result.andThen, Sem.run_pure]
  refine hK' _ _ (hK _ _ _ ⟨?_, hge, hcm, (fun h => by cases h), ?_⟩ (fun q hq => by cases hq; exact ⟨_, _, heap_alloc_new w.drew _⟩) ((Below.refl _ _).drew.alloc (Nat.le_refl _) _))
  · rw [List.length_map, Array.length_toList, Nat.mul_one]; rfl
  · intro p hp j u hj
    cases hp
    rw [Addr.add_lit, Nat.zero_add, cell_of_row _ w.heap.size j (bytesRow s (grownCap w s.size 0 5)) 5 _ (heap_alloc_new w.drew _)]
    have hj2 : j < s.size := by
      have := (List.getElem?_eq_some_iff.1 hj).1
      rw [List.length_map, Array.length_toList] at this
      exact this
    unfold bytesRow
    rw [Array.getElem?_append_left (by rw [Array.size_map]; exact hj2)]
    rw [← hj]
    simp
theorem kind_ne {w : World} {B : Nat} {e : TypeId} {sz : Nat} {t q : Addr} {n c : Nat} {cs : List Value} (h : Own w B e sz (some t) n c cs) {C : Array Value} {z : Nat × Nat} {e' : TypeId} (hq : w.heap[q.block]? = some (.cells C e' z)) (he : e ≠ e') : q.block ≠ t.block := by
  intro hb
  rcases h.2 with ⟨h1, _⟩ | ⟨g, cap, cur, h1, _, h2, _⟩
  · cases h1
  · injection h1 with h1
    injection h1 with h1
    subst h1
    rw [hb] at hq
    rw [hq] at h2
    injection h2 with h2
    injection h2 with _ h2
    exact he h2.symm

/-- A page whose top the call owns, and whose rows lie in blocks of bytes. -/
structure KPage (w : World) (B : Nat) (a : Option Addr) (c : Nat) (hs : List Hd) (p : List (List UInt8)) : Prop where
  top : Own w B 33 1 a p.length c (hs.map hv)
  len : hs.length = p.length
  row : ∀ (i : Nat) (h : Hd) (r : List UInt8), hs[i]? = some h → p[i]? = some r → Sl w 1 h.1 h.2.1 h.2.2 (r.map B8) ∧ Kind w h.1
theorem KPage.nil (w : World) (B : Nat) : KPage w B none 0 [] [] := ⟨Own.nil _ _ _ _, rfl, fun i h r h1 => by cases h1⟩
theorem KPage.below {w w' : World} {B : Nat} {a : Option Addr} {c : Nat} {hs : List Hd} {p : List (List UInt8)} (h : KPage w B a c hs p) (hb : Below w.heap.size w w') : KPage w' B a c hs p :=
  ⟨h.top.below hb, h.len, fun i x r h1 h2 => ⟨(h.row i x r h1 h2).1.below hb, (h.row i x r h1 h2).2.below hb⟩⟩
theorem KPage.pg {w : World} {B : Nat} {a : Option Addr} {c : Nat} {hs : List Hd} {p : List (List UInt8)} (h : KPage w B a c hs p) : Pg w a p.length c hs p :=
  ⟨h.top.sl, h.len, fun i x r h1 h2 => (h.row i x r h1 h2).1⟩
theorem KPage.push {w w' : World} {B : Nat} {a a' : Option Addr} {c c' : Nat} {hs : List Hd} {p : List (List UInt8)} {x : Hd} {r : List UInt8} (h : KPage w B a c hs p) (hx : Sl w 1 x.1 x.2.1 x.2.2 (r.map B8)) (hk : Kind w x.1)
    (ht : Own w' B 33 1 a' (p.length + 1) c' (hs.map hv ++ [hv x])) (hg : w.grownBy w' (a.map (·.block))) : KPage w' B a' c' (hs ++ [x]) (p ++ [r]) := by
  have key : ∀ (y : Hd) (s : List UInt8), Sl w 1 y.1 y.2.1 y.2.2 (s.map B8) → Kind w y.1 → Sl w' 1 y.1 y.2.1 y.2.2 (s.map B8) ∧ Kind w' y.1 := by
    intro y s hy hky
    have hne : ∀ q, y.1 = some q → some q.block ≠ a.map (·.block) := by
      intro q hq e
      cases ha : a with
      | none => rw [ha] at e; cases e
      | some t =>
        obtain ⟨C, z, hc⟩ := hky q hq
        have ho := h.top
        rw [ha] at ho e
        exact kind_ne ho hc (by decide) (by simpa using e)
    refine ⟨hy.grown hg hne, fun q hq => ?_⟩
    obtain ⟨C, z, hc⟩ := hky q hq
    exact ⟨C, z, by rw [hg.block q.block (Array.getElem?_eq_some_iff.1 hc).1 (hne q hq)]; exact hc⟩
  refine ⟨by rw [List.length_append, List.map_append]; exact ht, by simp [h.len], ?_⟩
  intro i y s h1 h2
  rw [List.getElem?_append] at h1 h2
  by_cases hi : i < hs.length
  · rw [if_pos hi] at h1
    rw [if_pos (by rw [← h.len]; exact hi)] at h2
    exact key y s (h.row i y s h1 h2).1 (h.row i y s h1 h2).2
  · rw [if_neg hi] at h1
    rw [if_neg (by rw [← h.len]; exact hi)] at h2
    have e : i - hs.length = 0 := by
      have := (List.getElem?_eq_some_iff.1 h1).1
      simp at this; omega
    rw [e] at h1
    have e2 : i - p.length = 0 := by rw [← h.len]; exact e
    rw [e2] at h2
    simp at h1 h2
    subst h1 h2
    exact key x r hx hk
section
variable {w : World} {ops : Array Oper} {rest : List Oper} {o : Oper} {act : Act} {Q : Exit → Act → World → Prop}
end
end Go.Proofs.Ytjdnmbapmobaaaa
end

/- the text C9 -/
section
namespace Go.Proofs.Ytjdnmbapmobaaaa
open Go.RowKit Go.Dx

theorem Sl.drewN {w : World} {sz : Nat} {a : Option Addr} {n c : Nat} {cs : List Value} (h : Sl w sz a n c cs) (m : Nat) : Sl (w.drewN m) sz a n c cs := ⟨h.len, h.le, h.cap, h.nil, h.cell⟩

theorem quiet_more {P : Program} {f : FuncId} {args : Array Value} {w : World} {a n : Nat} {v : Value} (h : Calls P f args ((w.drewN a).drewN n) (Still v ((w.drewN a).drewN n))) :
    Calls P f args ((w.drewN a).drewN n) fun e w'' => e = .returned v ∧ ∃ m, w'' = (w.drewN a).drewN m :=
  h.mono fun _ _ ⟨he, m, hm⟩ => ⟨he, n + m, by rw [hm, World.drewN_drewN]⟩
theorem quiet_flat {P : Program} {f : FuncId} {args : Array Value} {w : World} {a n : Nat} {v : Value} (h : Calls P f args (w.drewN (a + n)) (Still v (w.drewN (a + n)))) :
    Calls P f args (w.drewN (a + n)) fun e w'' => e = .returned v ∧ ∃ m, w'' = w.drewN (a + m) :=
  h.mono fun _ _ ⟨he, m, hm⟩ => ⟨he, n + m, by rw [hm, World.drewN_drewN, Nat.add_assoc]⟩
end Go.Proofs.Ytjdnmbapmobaaaa
end

/- the text C10 -/
section
namespace Go.Proofs.Ytjdnmbapmobaaaa
open Go.RowKit Go.Dx

/-- a raster as a value -/
abbrev RV (W H : Int) (a : Option Addr) (n c : Nat) : Value := .agg #[.int .i64 W, .int .i64 H, .slice a n c]

theorem bl2 (w : World) (o1 o2 : Obj) : Below w.heap.size w ((w.alloc o1).alloc o2) := ((Below.refl _ w).alloc (Nat.le_refl _) _).alloc (by simp) _
theorem bl2d (w : World) (o1 o2 : Obj) (n : Nat) : Below w.heap.size w (((w.alloc o1).alloc o2).drewN n) := (bl2 w o1 o2).trans ((Still.below n).mono (by simp; omega))
end Go.Proofs.Ytjdnmbapmobaaaa
end

/- the text CP3 -/
section
/- Plain laws on packed rasters: no program in sight. -/
namespace Go.Proofs.Ytjdnmbapmobaaaa
open Go.RowKit Go.Dx

/-- six dots as a number -/
def bt (b : Bool) (n : Nat) : Nat := if b then n else 0
def six (p : Nat → Bool) : Nat := bt (p 0) 1 + bt (p 1) 2 + bt (p 2) 4 + bt (p 3) 8 + bt (p 4) 16 + bt (p 5) 32
theorem bt_le (b : Bool) (n : Nat) : bt b n ≤ n := by unfold bt; split <;> omega
theorem six_lt (p : Nat → Bool) : six p < 64 := by
  have h0 := bt_le (p 0) 1
  have h1 := bt_le (p 1) 2
  have h2 := bt_le (p 2) 4
  have h3 := bt_le (p 3) 8
  have h4 := bt_le (p 4) 16
  have h5 := bt_le (p 5) 32
  unfold six; omega
theorem six_congr {p q : Nat → Bool} (h : ∀ d, d < 6 → p d = q d) : six p = six q := by
  unfold six; rw [h 0 (by omega), h 1 (by omega), h 2 (by omega), h 3 (by omega), h 4 (by omega), h 5 (by omega)]
theorem six_none {p : Nat → Bool} (h : ∀ d, d < 6 → p d = false) : six p = 0 := by
  rw [six_congr (q := fun _ => false) h]; rfl
theorem six_fin : ∀ b0 b1 b2 b3 b4 b5 : Bool, ∀ d : Fin 6, ((bt b0 1 + bt b1 2 + bt b2 4 + bt b3 8 + bt b4 16 + bt b5 32) / 2 ^ d.val % 2 == 1) = (match d.val with | 0 => b0 | 1 => b1 | 2 => b2 | 3 => b3 | 4 => b4 | _ => b5) := by decide +kernel
theorem six_get (p : Nat → Bool) (d : Nat) (hd : d < 6) : (six p / 2 ^ d % 2 == 1) = p d := by
  have h := six_fin (p 0) (p 1) (p 2) (p 3) (p 4) (p 5) ⟨d, hd⟩
  unfold six
  rw [h]
  have : d = 0 ∨ d = 1 ∨ d = 2 ∨ d = 3 ∨ d = 4 ∨ d = 5 := by omega
  rcases this with rfl | rfl | rfl | rfl | rfl | rfl <;> rfl
/-- one more dot -/
theorem six_or {p q : Nat → Bool} {d : Nat} (hd : d < 6) (h0 : p d = false) (h : ∀ e, e < 6 → q e = (p e || decide (e = d))) :
    bits BinOp.or IntKind.u8 ((six p : Nat) : Int) ((2 ^ d : Nat) : Int) = ((six q : Nat) : Int) := by
  have h1 := six_get p d hd
  rw [h0] at h1
  have h1' : ¬ (six p / 2 ^ d % 2 = 1) := by simpa using h1
  have h2 : six p / 2 ^ d % 2 = 0 := by omega
  rw [(and_fin ⟨six p, six_lt p⟩ ⟨d, hd⟩).2 h2]
  congr 1
  have e : six q = six fun e => p e || decide (e = d) := six_congr h
  rw [e]
  unfold six
  have : d = 0 ∨ d = 1 ∨ d = 2 ∨ d = 3 ∨ d = 4 ∨ d = 5 := by omega
  rcases this with rfl | rfl | rfl | rfl | rfl | rfl <;> simp [h0, bt] <;> omega

/-- the dots as a list, and Of -/
def sixDots (p : Nat → Bool) (k : Nat) : List Int := List.map (fun j : Nat => (j : Int) + 1) ((List.range k).filter p)
theorem sixDots_yes {p : Nat → Bool} {k : Nat} (h : p k = true) : sixDots p (k + 1) = sixDots p k ++ [(k : Int) + 1] := by
  unfold sixDots; rw [List.range_succ, List.filter_append]; simp [h]
theorem sixDots_no {p : Nat → Bool} {k : Nat} (h : p k = false) : sixDots p (k + 1) = sixDots p k := by
  unfold sixDots; rw [List.range_succ, List.filter_append]; simp [h]
theorem sixDots_len (p : Nat → Bool) (k : Nat) : (sixDots p k).length ≤ k := by
  unfold sixDots; rw [List.length_map]; exact Nat.le_trans (List.length_filter_le _ _) (by simp)
theorem filter_congr' {p q : Nat → Bool} : ∀ (l : List Nat), (∀ x, x ∈ l → p x = q x) → l.filter p = l.filter q
  | [], _ => rfl
  | x :: l, h => by
    rw [List.filter_cons, List.filter_cons, h x (by simp), filter_congr' l (fun y hy => h y (by simp [hy]))]
theorem sixOf_fin : ∀ b0 b1 b2 b3 b4 b5 : Bool, ofL (sixDots (fun d => match d with | 0 => b0 | 1 => b1 | 2 => b2 | 3 => b3 | 4 => b4 | _ => b5) 6) = (bt b0 1 + bt b1 2 + bt b2 4 + bt b3 8 + bt b4 16 + bt b5 32, 0) := by decide +kernel
theorem sixOf (p : Nat → Bool) : ofL (sixDots p 6) = (six p, 0) := by
  have h := sixOf_fin (p 0) (p 1) (p 2) (p 3) (p 4) (p 5)
  have e : sixDots p 6 = sixDots (fun d => match d with | 0 => p 0 | 1 => p 1 | 2 => p 2 | 3 => p 3 | 4 => p 4 | _ => p 5) 6 := by
    unfold sixDots
    rw [filter_congr' (List.range 6)]
    intro x hx
    have : x < 6 := List.mem_range.1 hx
    have : x = 0 ∨ x = 1 ∨ x = 2 ∨ x = 3 ∨ x = 4 ∨ x = 5 := by omega
    rcases this with rfl | rfl | rfl | rfl | rfl | rfl <;> rfl
  rw [e, h]; rfl

/-- A raster's dot; the dots before the place k. -/
def dotAt (W H : Nat) (b : List Bool) (x y : Nat) : Bool := decide (x < W) && decide (y < H) && b.getD (y * W + x) false
def dotTo (W H : Nat) (b : List Bool) (k x y : Nat) : Bool := dotAt W H b x y && decide (y * W + x < k)
def cellTo (W H : Nat) (b : List Bool) (k Y X : Nat) : Nat := six fun d => dotTo W H b k (2 * X + d / 3) (3 * Y + d % 3)
def cellAt (W H : Nat) (b : List Bool) (Y X : Nat) : Nat := six fun d => dotAt W H b (2 * X + d / 3) (3 * Y + d % 3)
theorem cellTo_zero (W H : Nat) (b : List Bool) (Y X : Nat) : cellTo W H b 0 Y X = 0 := six_none fun d _ => by simp [dotTo]
theorem idx_lt {W H x y : Nat} (hx : x < W) (hy : y < H) : y * W + x < W * H := by
  have : (y + 1) * W ≤ H * W := Nat.mul_le_mul_right _ hy
  rw [Nat.add_mul, Nat.one_mul] at this
  rw [Nat.mul_comm W H]; omega
theorem cellTo_all {W H : Nat} {b : List Bool} {k : Nat} (hk : W * H ≤ k) (Y X : Nat) : cellTo W H b k Y X = cellAt W H b Y X := six_congr fun d _ => by
  unfold dotTo
  cases h : dotAt W H b (2 * X + d / 3) (3 * Y + d % 3)
  · rfl
  · unfold dotAt at h
    simp only [Bool.and_eq_true, decide_eq_true_eq] at h
    have := idx_lt h.1.1 h.1.2
    simp; omega
theorem divmod {W x y k : Nat} (hW : 0 < W) (hx : x < W) : y * W + x = k ↔ x = k % W ∧ y = k / W := by
  constructor
  · rintro rfl
    refine ⟨?_, ?_⟩
    · rw [Nat.mul_comm, Nat.mul_add_mod, Nat.mod_eq_of_lt hx]
    · rw [Nat.mul_comm, Nat.mul_add_div hW, Nat.div_eq_of_lt hx, Nat.add_zero]
  · rintro ⟨rfl, rfl⟩
    have := Nat.div_add_mod k W
    rw [Nat.mul_comm] at this; exact this
/-- a dot that is not set changes nothing -/
theorem cellTo_no {W H : Nat} {b : List Bool} {k : Nat} (h : b.getD k false = false) (Y X : Nat) : cellTo W H b (k + 1) Y X = cellTo W H b k Y X := six_congr fun d _ => by
  unfold dotTo
  cases hd : dotAt W H b (2 * X + d / 3) (3 * Y + d % 3)
  · rfl
  · have hne : (3 * Y + d % 3) * W + (2 * X + d / 3) ≠ k := by
      intro e
      unfold dotAt at hd
      rw [e, h] at hd
      simp at hd
    have : ((3 * Y + d % 3) * W + (2 * X + d / 3) < k + 1) = ((3 * Y + d % 3) * W + (2 * X + d / 3) < k) := propext ⟨fun h => by omega, fun h => by omega⟩
    simp only [this]
/-- a dot that is set: another cell stays -/
theorem cellTo_other {W H : Nat} {b : List Bool} {k : Nat} (hW : 0 < W) (Y X : Nat) (h : ¬ (Y = k / W / 3 ∧ X = k % W / 2)) : cellTo W H b (k + 1) Y X = cellTo W H b k Y X := six_congr fun d hd6 => by
  unfold dotTo
  cases hd : dotAt W H b (2 * X + d / 3) (3 * Y + d % 3)
  · rfl
  · have hne : (3 * Y + d % 3) * W + (2 * X + d / 3) ≠ k := by
      intro e
      unfold dotAt at hd
      simp only [Bool.and_eq_true, decide_eq_true_eq] at hd
      obtain ⟨e1, e2⟩ := (divmod hW hd.1.1).1 e
      exact h ⟨by omega, by omega⟩
    have : ((3 * Y + d % 3) * W + (2 * X + d / 3) < k + 1) = ((3 * Y + d % 3) * W + (2 * X + d / 3) < k) := propext ⟨fun h => by omega, fun h => by omega⟩
    simp only [this]
/-- .. and its own cell gets it -/
theorem cellTo_own {W H : Nat} {b : List Bool} {k : Nat} (hW : 0 < W) (hk : k < W * H) (h : b.getD k false = true) :
    bits BinOp.or IntKind.u8 ((cellTo W H b k (k / W / 3) (k % W / 2) : Nat) : Int) ((2 ^ (k / W % 3 + 3 * (k % W % 2)) : Nat) : Int) = ((cellTo W H b (k + 1) (k / W / 3) (k % W / 2) : Nat) : Int) := by
  have hxW : k % W < W := Nat.mod_lt _ hW
  have hyH : k / W < H := Nat.div_lt_of_lt_mul hk
  have hm : k % W % 2 < 2 := Nat.mod_lt _ (by omega)
  have hm3 : k / W % 3 < 3 := Nat.mod_lt _ (by omega)
  have hdk := Nat.div_add_mod k W
  rw [Nat.mul_comm] at hdk
  unfold cellTo
  have e1 : 2 * (k % W / 2) + (k / W % 3 + 3 * (k % W % 2)) / 3 = k % W := by omega
  have e2 : 3 * (k / W / 3) + (k / W % 3 + 3 * (k % W % 2)) % 3 = k / W := by omega
  refine six_or (by omega) ?_ ?_
  · show dotTo W H b k (2 * (k % W / 2) + (k / W % 3 + 3 * (k % W % 2)) / 3) (3 * (k / W / 3) + (k / W % 3 + 3 * (k % W % 2)) % 3) = false
    rw [e1, e2]
    unfold dotTo
    rw [hdk]; simp
  · intro d hd6
    show dotTo W H b (k + 1) (2 * (k % W / 2) + d / 3) (3 * (k / W / 3) + d % 3) = (dotTo W H b k (2 * (k % W / 2) + d / 3) (3 * (k / W / 3) + d % 3) || decide (d = k / W % 3 + 3 * (k % W % 2)))
    by_cases hd : d = k / W % 3 + 3 * (k % W % 2)
    · subst hd
      rw [e1, e2]
      unfold dotTo dotAt
      rw [hdk, h]
      simp [hxW, hyH]
    · rw [decide_eq_false hd, Bool.or_false]
      unfold dotTo
      cases hda : dotAt W H b (2 * (k % W / 2) + d / 3) (3 * (k / W / 3) + d % 3)
      · rfl
      · have hne : (3 * (k / W / 3) + d % 3) * W + (2 * (k % W / 2) + d / 3) ≠ k := by
          intro e
          unfold dotAt at hda
          simp only [Bool.and_eq_true, decide_eq_true_eq] at hda
          obtain ⟨f1, f2⟩ := (divmod hW hda.1.1).1 e
          exact hd (by omega)
        have : ((3 * (k / W / 3) + d % 3) * W + (2 * (k % W / 2) + d / 3) < k + 1) = ((3 * (k / W / 3) + d % 3) * W + (2 * (k % W / 2) + d / 3) < k) := propext ⟨fun h => by omega, fun h => by omega⟩
        simp only [this]
/-- the packed page -/
def packRow (W H : Nat) (b : List Bool) (Y : Nat) : List UInt8 := (List.range ((W + 1) / 2)).map fun X => UInt8.ofNat (cellAt W H b Y X)
def packL (W H : Nat) (b : List Bool) : List (List UInt8) := (List.range ((H + 2) / 3)).map (packRow W H b)
theorem u8_six (n : Nat) (h : n < 64) : (UInt8.ofNat n).toNat = n := by rw [UInt8.toNat_ofNat']; omega
end Go.Proofs.Ytjdnmbapmobaaaa
end

/- the text CP4 -/
section
/- Plain laws on unpacked pages: no program in sight. -/
namespace Go.Proofs.Ytjdnmbapmobaaaa
open Go.RowKit Go.Dx

def wideL (p : List (List UInt8)) : Nat := p.foldl (fun m l => max m l.length) 0
theorem wideL_snoc (p : List (List UInt8)) (l : List UInt8) : wideL (p ++ [l]) = max (wideL p) l.length := by unfold wideL; rw [List.foldl_append]; rfl
theorem fold_ge (p : List (List UInt8)) : ∀ m, m ≤ p.foldl (fun m l => max m l.length) m ∧ ∀ l ∈ p, l.length ≤ p.foldl (fun m l => max m l.length) m := by
  induction p with
  | nil => intro m; simp
  | cons x p ih =>
    intro m
    have h := ih (max m x.length)
    refine ⟨by have := h.1; simp only [List.foldl_cons]; omega, ?_⟩
    intro l hl
    rcases List.mem_cons.1 hl with rfl | hl
    · have := h.1; simp only [List.foldl_cons]; omega
    · exact h.2 l hl
theorem wideL_ge {p : List (List UInt8)} {l : List UInt8} (h : l ∈ p) : l.length ≤ wideL p := (fold_ge p 0).2 l h
theorem fold_le {p : List (List UInt8)} {b : Nat} (h : ∀ l ∈ p, l.length ≤ b) : ∀ m, m ≤ b → p.foldl (fun m l => max m l.length) m ≤ b := by
  induction p with
  | nil => intro m hm; exact hm
  | cons x p ih =>
    intro m hm
    simp only [List.foldl_cons]
    refine ih (fun l hl => h l (by simp [hl])) _ ?_
    have := h x (by simp); omega
theorem wideL_le {p : List (List UInt8)} {b : Nat} (h : ∀ l ∈ p, l.length ≤ b) : wideL p ≤ b := fold_le h 0 (Nat.zero_le _)

/-- a cell of a page, 0 where there is none -/
def pcell (p : List (List UInt8)) (Y X : Nat) : UInt8 := (p.getD Y []).getD X 0
/-- the dot of a raster of width W at the index i -/
def rdot (p : List (List UInt8)) (W i : Nat) : Bool := dot (pcell p (i / W / 3) (i % W / 2)) (i / W % 3 + 3 * (i % W % 2))
def rbits (p : List (List UInt8)) (W k : Nat) : List Bool := (List.range k).map (rdot p W)
theorem rbits_succ (p : List (List UInt8)) (W k : Nat) : rbits p W (k + 1) = rbits p W k ++ [rdot p W k] := by unfold rbits; rw [List.range_succ, List.map_append]; rfl
theorem rbits_len (p : List (List UInt8)) (W k : Nat) : (rbits p W k).length = k := by unfold rbits; simp
theorem dot_zero (d : Nat) : dot 0 d = false := by
  unfold dot
  have : (0 : UInt8).toNat = 0 := rfl
  rw [this, Nat.zero_div]; rfl

/-- what is set when the rows before Y0, its cells before X0, and of this one the dots ds are set -/
def upTo (p : List (List UInt8)) (W Y0 X0 : Nat) (ds : List Int) (i : Nat) : Bool :=
  rdot p W i && (decide (i / W / 3 < Y0) || (decide (i / W / 3 = Y0) && (decide (i % W / 2 < X0) || (decide (i % W / 2 = X0) && decide (((i / W % 3 + 3 * (i % W % 2) : Nat) : Int) + 1 ∈ ds)))))
theorem upTo_zero (p : List (List UInt8)) (W i : Nat) : upTo p W 0 0 [] i = false := by unfold upTo; simp
theorem mem_dots {c : UInt8} {d : Nat} (hd : d < 6) : ((d : Int) + 1 ∈ dotsL c) ↔ dot c d = true := by
  unfold dotsL dotsTo
  rw [List.mem_map]
  constructor
  · rintro ⟨j, hj, e⟩
    obtain rfl : j = d := by omega
    exact (List.mem_filter.1 hj).2
  · intro h
    exact ⟨d, List.mem_filter.2 ⟨List.mem_range.2 hd, h⟩, rfl⟩
theorem six_idx (i W : Nat) : i / W % 3 + 3 * (i % W % 2) < 6 := by omega
theorem upTo_cell (p : List (List UInt8)) (W Y0 X0 i : Nat) : upTo p W Y0 X0 (dotsL (pcell p Y0 X0)) i = upTo p W Y0 (X0 + 1) [] i := by
  unfold upTo
  cases h : rdot p W i
  · rfl
  · congr 1
    by_cases hY : i / W / 3 = Y0
    · by_cases hX : i % W / 2 = X0
      · have hm : ((i / W % 3 + 3 * (i % W % 2) : Nat) : Int) + 1 ∈ dotsL (pcell p Y0 X0) := (mem_dots (six_idx i W)).2 (by unfold rdot at h; rw [hY, hX] at h; exact h)
        rw [decide_eq_true hm]
        simp [hY, hX]
      · have : (i % W / 2 < X0 + 1) = (i % W / 2 < X0) := propext ⟨fun h => by omega, fun h => by omega⟩
        simp [hY, hX, this]
    · simp [hY]
theorem pcell_out {p : List (List UInt8)} {r : List UInt8} {Y X : Nat} (hr : p[Y]? = some r) (hX : r.length ≤ X) : pcell p Y X = 0 := by
  unfold pcell
  rw [List.getD_eq_getElem?_getD, List.getD_eq_getElem?_getD, hr]
  simp only [Option.getD_some]
  rw [List.getElem?_eq_none hX]; rfl
theorem upTo_row {p : List (List UInt8)} {r : List UInt8} {Y0 : Nat} (hr : p[Y0]? = some r) (W i : Nat) : upTo p W Y0 r.length [] i = upTo p W (Y0 + 1) 0 [] i := by
  unfold upTo
  cases h : rdot p W i
  · rfl
  · congr 1
    by_cases hY : i / W / 3 = Y0
    · have hX : i % W / 2 < r.length := by
        rcases Nat.lt_or_ge (i % W / 2) r.length with h1 | h1
        · exact h1
        · exfalso
          unfold rdot at h
          rw [hY, pcell_out hr h1, dot_zero] at h
          cases h
      simp [hY, hX]
    · have : (i / W / 3 < Y0 + 1) = (i / W / 3 < Y0) := propext ⟨fun h => by omega, fun h => by omega⟩
      simp [hY, this]
theorem upTo_all {p : List (List UInt8)} {W i : Nat} (hi : i < W * (3 * p.length)) : upTo p W p.length 0 [] i = rdot p W i := by
  unfold upTo
  have h1 : i / W < 3 * p.length := Nat.div_lt_of_lt_mul hi
  have : i / W / 3 < p.length := by omega
  simp [this]
/-- one more dot -/
theorem upTo_dot {p : List (List UInt8)} {W Y0 X0 : Nat} {ds : List Int} {d : Nat} (hd : d < 6) (hW : 2 * X0 + 1 < W) (hdot : dot (pcell p Y0 X0) d = true) (i : Nat) :
    upTo p W Y0 X0 (ds ++ [(d : Int) + 1]) i = if i = (3 * Y0 + d % 3) * W + (2 * X0 + d / 3) then true else upTo p W Y0 X0 ds i := by
  have hx : 2 * X0 + d / 3 < W := by omega
  by_cases h : i = (3 * Y0 + d % 3) * W + (2 * X0 + d / 3)
  · rw [if_pos h]
    obtain ⟨e1, e2⟩ := (divmod (by omega) hx).1 h.symm
    have e3 : i / W / 3 = Y0 := by omega
    have e4 : i % W / 2 = X0 := by omega
    have e5 : i / W % 3 + 3 * (i % W % 2) = d := by omega
    unfold upTo rdot
    rw [e3, e4, e5, hdot]
    simp
  · rw [if_neg h]
    unfold upTo
    by_cases hY : i / W / 3 = Y0
    · by_cases hX : i % W / 2 = X0
      · have hne : ((i / W % 3 + 3 * (i % W % 2) : Nat) : Int) + 1 ≠ (d : Int) + 1 := by
          intro e
          have e5 : i / W % 3 + 3 * (i % W % 2) = d := by omega
          exact h ((divmod (by omega) hx).2 ⟨by omega, by omega⟩).symm
        simp only [List.mem_append, List.mem_singleton, hne, or_false]
      · simp [hX]
    · simp [hY]
theorem dotsTo_take (c : UInt8) (j : Nat) (x : Int) (h : (dotsL c)[j]? = some x) : ∃ d : Nat, d < 6 ∧ x = (d : Int) + 1 ∧ dot c d = true := by
  have hm := List.mem_of_getElem? h
  unfold dotsL dotsTo at hm
  obtain ⟨d, hd, rfl⟩ := List.mem_map.1 hm
  obtain ⟨h1, h2⟩ := List.mem_filter.1 hd
  exact ⟨d, List.mem_range.1 h1, rfl, h2⟩

/-- Unpack: width, height, dots, error -/
def unpackL (p : List (List UInt8)) : Nat × Nat × List Bool × Int :=
  if p.any (fun l => !validB l) then (0, 0, [], 1)
  else if 65536 < 2 * wideL p ∨ 65536 < 3 * p.length ∨ 65536 < 2 * wideL p * (3 * p.length) then (0, 0, [], 4)
  else (2 * wideL p, 3 * p.length, rbits p (2 * wideL p) (2 * wideL p * (3 * p.length)), 0)
end Go.Proofs.Ytjdnmbapmobaaaa
end

/- the text C13 -/
section
namespace Go.Proofs.Ytjdnmbapmobaaaa
open Go.RowKit Go.Dx

/-- a valid raster: width, height, number of dots -/
def properB (W H n : Int) : Bool := decide (0 ≤ W ∧ 0 ≤ H ∧ W ≤ 65536 ∧ H ≤ 65536 ∧ W * H ≤ 65536 ∧ n = W * H)
theorem bl1 (w : World) (o : Obj) : Below w.heap.size w (w.alloc o) := (Below.refl _ w).alloc (Nat.le_refl _) _
theorem mul_wrap {W H : Int} (h1 : 0 ≤ W) (h2 : 0 ≤ H) (h3 : W ≤ 65536) (h4 : H ≤ 65536) : 0 ≤ W * H ∧ W * H ≤ 4294967296 := by
  refine ⟨Int.mul_nonneg h1 h2, ?_⟩
  calc W * H ≤ 65536 * H := Int.mul_le_mul_of_nonneg_right h3 h2
    _ ≤ 65536 * 65536 := Int.mul_le_mul_of_nonneg_left h4 (by omega)
    _ = 4294967296 := by decide
theorem proper_no {W H n : Int} (h : ¬ (0 ≤ W ∧ 0 ≤ H ∧ W ≤ 65536 ∧ H ≤ 65536 ∧ W * H ≤ 65536 ∧ n = W * H)) : properB W H n = false := decide_eq_false h
theorem proper_yes {W H n : Int} (h : 0 ≤ W ∧ 0 ≤ H ∧ W ≤ 65536 ∧ H ≤ 65536 ∧ W * H ≤ 65536 ∧ n = W * H) : properB W H n = true := decide_eq_true h

end Go.Proofs.Ytjdnmbapmobaaaa
end

/- the text C14 -/
section
namespace Go.Proofs.Ytjdnmbapmobaaaa
open Go.RowKit Go.Dx

theorem dotAt_x {W H x y : Nat} {b : List Bool} (h : ¬ x < W) : dotAt W H b x y = false := by unfold dotAt; simp [h]
theorem dotAt_y {W H x y : Nat} {b : List Bool} (h : ¬ y < H) : dotAt W H b x y = false := by unfold dotAt; simp [h]
theorem dotAt_in {W H x y : Nat} {b : List Bool} {v : Bool} (hx : x < W) (hy : y < H) (h : b[y * W + x]? = some v) : dotAt W H b x y = v := by
  unfold dotAt; rw [List.getD_eq_getElem?_getD, h]; simp [hx, hy]

theorem pcell_row {p : List (List UInt8)} {Y X : Nat} {r : List UInt8} {u : UInt8} (h1 : p[Y]? = some r) (h2 : r[X]? = some u) : pcell p Y X = u := by
  unfold pcell; rw [List.getD_eq_getElem?_getD, List.getD_eq_getElem?_getD, h1]; simp [h2]
theorem pcell_none {p : List (List UInt8)} {Y X : Nat} (h : p.length ≤ Y) : pcell p Y X = 0 := by
  unfold pcell; rw [List.getD_eq_getElem?_getD, List.getD_eq_getElem?_getD, List.getElem?_eq_none h]; rfl
end Go.Proofs.Ytjdnmbapmobaaaa
end

/- the text C15 -/
section
namespace Go.Proofs.Ytjdnmbapmobaaaa
open Go.RowKit Go.Dx

theorem info_bool : (Try.prog.info? 4).map (fun i => (i.zero, i.size, i.bytes)) = some (some (.bool false), 1, 1) := by kernel_rfl
theorem pos_left {W H k : Nat} (h : k < W * H) : 0 < W := by
  rcases Nat.eq_zero_or_pos W with h1 | h1
  · subst h1; simp at h
  · exact h1
theorem packL_len (W H : Nat) (b : List Bool) : (packL W H b).length = (H + 2) / 3 := by unfold packL; simp
theorem packRow_len (W H : Nat) (b : List Bool) (Y : Nat) : (packRow W H b Y).length = (W + 1) / 2 := by unfold packRow; simp
theorem packL_get {W H : Nat} {b : List Bool} {j : Nat} {r : List UInt8} (h : (packL W H b)[j]? = some r) : j < (H + 2) / 3 ∧ r = packRow W H b j := by
  have hl := (List.getElem?_eq_some_iff.1 h).1
  rw [packL_len] at hl
  refine ⟨hl, ?_⟩
  unfold packL at h
  rw [List.getElem?_map, List.getElem?_range hl] at h
  exact (Option.some.inj h).symm
theorem packRow_get {W H : Nat} {b : List Bool} {Y X : Nat} (h : X < (W + 1) / 2) : B8 ((packRow W H b Y).getD X 0) = .int .u8 ((cellAt W H b Y X : Nat) : Int) := by
  have e : (packRow W H b Y).getD X 0 = UInt8.ofNat (cellAt W H b Y X) := by
    unfold packRow
    rw [List.getD_eq_getElem?_getD, List.getElem?_map, List.getElem?_range h]; rfl
  rw [e]
  show Value.int .u8 ((UInt8.ofNat (cellAt W H b Y X)).toNat : Int) = _
  rw [u8_six (cellAt W H b Y X) (six_lt _)]
theorem pg_rows {w : World} {T h m : Nat} {rt ut : TypeId} (hrow : w.rowIs T rt h (fun i => .slice (some ⟨T + 1 + i, 0, none⟩) m m)) (hh : h ≤ maxLen) (hm : m ≤ maxLen) (p : List (List UInt8)) (hl : p.length = h)
    (hf : ∀ j r, p[j]? = some r → r.length = m ∧ w.rowIs (T + 1 + j) ut m (fun X => B8 (r.getD X 0))) :
    Pg w (some ⟨T, 0, none⟩) h h ((List.range h).map fun i => (some ⟨T + 1 + i, 0, none⟩, m, m)) p := by
  refine ⟨row_sl' hrow hh _ (by simp) ?_, by simp [hl], ?_⟩
  · intro j u hj
    rw [List.map_map, List.getElem?_map] at hj
    obtain ⟨i, hi, rfl⟩ := Option.map_eq_some_iff.1 hj
    have hjl : j < h := by have := (List.getElem?_eq_some_iff.1 hi).1; simpa using this
    rw [List.getElem?_range hjl] at hi
    cases hi
    rfl
  · intro i x r hx hr
    obtain ⟨h1, h2⟩ := hf i r hr
    rw [List.getElem?_map] at hx
    obtain ⟨i', hi', rfl⟩ := Option.map_eq_some_iff.1 hx
    have hil : i < h := by have := (List.getElem?_eq_some_iff.1 hi').1; simpa using this
    rw [List.getElem?_range hil] at hi'
    cases hi'
    refine row_sl' h2 hm _ (by rw [List.length_map]; exact h1) ?_
    intro j u hj
    rw [List.getElem?_map] at hj
    obtain ⟨y, hy, rfl⟩ := Option.map_eq_some_iff.1 hj
    rw [List.getD_eq_getElem?_getD, hy]; rfl
theorem two_fin : ∀ s : Fin 6, IntKind.u8.wrap (2 ^ s.val) = ((2 ^ s.val : Nat) : Int) := by decide
theorem two_wrap (s : Nat) (h : s < 6) : IntKind.u8.wrap (2 ^ s) = ((2 ^ s : Nat) : Int) := two_fin ⟨s, h⟩
/-- the rows of a page that is being made -/
def pageF (T m k i : Nat) : Value := if i < k then .slice (some ⟨T + 1 + i, 0, none⟩) m m else .slice none 0 0

end Go.Proofs.Ytjdnmbapmobaaaa
end

/- the text C16 -/
section
namespace Go.Proofs.Ytjdnmbapmobaaaa
open Go.RowKit Go.Dx

section
variable {P : Program} {w : World}
theorem run_results_cell2 {fn : Func} {tmps : Array Value} {t t2 : Tmp} {ty e : TypeId} {g : Nat} {cs : List Value} {v2 : Value} (hr : fn.results = #[.cell t ty, .tmp t2]) (ht : tmps.getD t undef = .pointer (some ⟨g, 0, none⟩)) (h2 : tmps.getD t2 undef = v2) (hag : IsAgg P ty) (hsz : (P.info? ty).map (·.size) = some cs.length)
    (hb : Box w g e cs) : (results fn tmps).run P w = .ok (.tuple #[.agg cs.toArray, v2]) w := by
  have hl := run_loadVar_box (P := P) (off := 0) hag hsz hb (fun j u hj => by rw [Nat.zero_add]; exact hj)
  have ht2 : tmps[t]?.getD undef = .pointer (some ⟨g, 0, none⟩) := by rw [← ht]; simp
  have ht3 : tmps[t2]?.getD undef = v2 := by rw [← h2]; simp
  simp only [results, hr]
  simp [ht2, ht3, asAddr, hl]
end
theorem Sl.far {w : World} {sz : Nat} {a : Option Addr} {n c : Nat} {cs : List Value} (h : Sl w sz a n c cs) {p : Addr} (hp : ∀ q, a = some q → q.block ≠ p.block) (u : Value) : Sl (w.setCell p u) sz a n c cs :=
  ⟨h.len, h.le, h.cap, h.nil, fun q hq j v hj => by
    have h1 := h.cell q hq j v hj
    have e : (q.add j).block = q.block := by unfold Addr.add; split <;> rfl
    rw [World.cell?_of_block (w := w) (a := q.add j) (Below.heap_setCell w p u (q.add j).block (by rw [e]; exact hp q hq))]
    exact h1⟩
theorem un_box {w w4 : World} {z : Array Value} {cs : Array Value} {t : TypeId} (hb : Below ((w.alloc (.cells z t)).alloc (.cells cs t)).heap.size ((w.alloc (.cells z t)).alloc (.cells cs t)) w4) : Box w4 (w.heap.size + 1) t cs.toList := by
  have := (Box.new (w.alloc (.cells z t)) t cs).under hb
  simpa using this
theorem un_box0 {w w4 : World} {z : Array Value} {cs : Array Value} {t : TypeId} (hb : Below ((w.alloc (.cells z t)).alloc (.cells cs t)).heap.size ((w.alloc (.cells z t)).alloc (.cells cs t)) w4) : Box w4 w.heap.size t z.toList :=
  ((Box.new w t z).alloc _).under hb

theorem bad_take {p : List (List UInt8)} {k : Nat} {r : List UInt8} (h : p[k]? = some r) (h0 : (p.take k).any (fun l => !validB l) = false) (hr : validB r = true) : (p.take (k + 1)).any (fun l => !validB l) = false :=
  any_take_no h h0 (by simp [hr])
theorem wide_next {p : List (List UInt8)} {k : Nat} {r : List UInt8} (h : p[k]? = some r) : wideL (p.take (k + 1)) = max (wideL (p.take k)) r.length := by rw [take_snoc h, wideL_snoc]
theorem wide_take_le (p : List (List UInt8)) (k : Nat) : wideL (p.take k) ≤ wideL p := by
  refine wideL_le fun l hl => wideL_ge (List.mem_of_mem_take hl)

end Go.Proofs.Ytjdnmbapmobaaaa
end

/- the text K7 -/
section
/- Chapter 37: a packet is read. -/
set_option linter.unusedVariables false
namespace Go.Proofs.Ytjdnmbapmobaaaa
open Go.RowKit Go.Dx Go.Al
theorem size_pk (s k : Int) (a : Option Addr) (n c : Nat) : (Try.prog.info? 68).map (·.size) = some ([.int .i64 s, .int .i64 k, .slice a n c] : List Value).length := by kernel_rfl
theorem agg_pk : IsAgg Try.prog 68 := .inr ⟨_, Try.underlying68⟩
/-- what a packet's reader hands back -/
def GivesK (o : Option Pk) (w : World) (r : Ending) (w' : World) : Prop :=
  ∃ s k a n c, r = .returned (.tuple #[.agg #[.int .i64 s, .int .i64 k, .slice a n c], .bool o.isSome]) ∧ Below w.heap.size w w' ∧
    ∀ p, o = some p → s = p.seq ∧ k = p.ack ∧ n = p.b.length ∧ Sl w' 1 a n c (p.b.map B8) ∧ Kind w' a
set_option maxRecDepth 100000 in
set_option maxHeartbeats 2000000 in
theorem lk_read (l : List UInt8) (a : Option Addr) (n c : Nat) (w : World) (hs : Sl w 1 a n c (l.map B8)) (hl : l.length ≤ 2000) {r : Option Pk} (hr : readZ l = r) :
    Calls Try.prog 36 #[.slice a n c] w (GivesK r w) := by
  obtain ⟨⟨L, N, E⟩, hD⟩ : ∃ r, Hid (decSeq decInt l = r) := ⟨_, rfl⟩
  have HG : Hid (∀ w, Sl w 1 a n c (l.map B8) → Calls Try.prog 46 #[.slice a n c] w (Gives3 3 1 L.length (L.map I64) N E w)) := hide (fun w h => GetInts_at hD.out (by omega) h)
  have hs0 := hide hs
  have hn := hide hs.n_eq
  have hone : ∀ u ∈ ([.int .i64 0, .int .i64 0, .slice none 0 0] : List Value), u.oneCell' = true := by simp [Value.oneCell']
  have hz := size_pk 0 0 none 0 0
  have HL := hide hl
  have HR := hide hr
  clear hs hr hl
  by_cases hE : E = 0
  · subst hE
    by_cases h2 : L.length = 2
    · obtain ⟨S0, K0, rfl⟩ : ∃ s k, L = [s, k] := by
        match L, h2 with
        | [s, k], _ => exact ⟨s, k, rfl⟩
      clear h2
      have hcn := @decSeq_canon _ _ _ canon_int l
      rw [hD.out] at hcn
      obtain ⟨hN0, hN1, _, _⟩ := hcn rfl
      clear hcn
      obtain ⟨m, hmN⟩ : ∃ m : Nat, N = m := ⟨N.toNat, by simp at hN0; omega⟩
      subst hmN
      have HG2 : Hid (∀ w, Sl w 1 a n c (l.map B8) → Calls Try.prog 46 #[.slice a n c] w (Gives3 3 1 2 [.int .i64 S0, .int .i64 K0] (m : Int) 0 w)) := HG
      clear HG
      have HG := HG2
      clear HG2
      have hnn := hn.out
      have mle : m ≤ n := by simp at hN1; omega
      have nle : n ≤ 2000 := by have h := HL.out; omega
      clear hN0 hN1
      obtain ⟨⟨SB, M, F⟩, hD2⟩ : ∃ r, Hid (decBytes (l.drop m) = r) := ⟨_, rfl⟩
      have HB : Hid (∀ w a c, Sl w 1 a (n - m) c ((l.drop m).map B8) → Calls Try.prog 47 #[.slice a (n - m) c] w fun e w' => e = .returned (.tuple #[.string SB, .int .i64 M, .int .i64 F]) ∧ Below w.heap.size w w') := hide (fun w a c h => GetBytes_at hD2.out h)
      have hSB : SB.size ≤ maxLen := by
        have h := decBytes_short (l.drop m)
        rw [hD2.out, List.length_drop] at h
        simp at h
        unfold maxLen
        omega
      obtain ⟨bb, hbb⟩ : ∃ bb, Hid ((decide (0 ≤ S0) && decide (0 ≤ K0) && decide (SB.size ≤ 65536) && (decide (0 < S0) || decide (SB.size = 0))) = bb) := ⟨_, rfl⟩
      have HV : Hid (∀ w a c, Calls Try.prog 48 #[.agg #[.int .i64 S0, .int .i64 K0, .slice a SB.size c]] w fun e w' => e = .returned (.bool bb) ∧ Below w.heap.size w w') := hide (fun w a c => by rw [← hbb.out]; exact lk_valid S0 K0 a SB.size c w)
      by_cases hF : F = 0
      · subst hF
        have hu := @decBytes_used (l.drop m)
        rw [hD2.out] at hu
        obtain ⟨hM0, hM1⟩ := hu rfl
        simp only [List.length_drop] at hM0 hM1
        clear hu
        obtain ⟨q, hq⟩ : ∃ q : Nat, M = q := ⟨M.toNat, by omega⟩
        subst hq
        have qle : q ≤ 2000 := by omega
        clear hM0 hM1
        by_cases hlen : m + q = n
        · have hrd : readZ l = if bb = true then some ⟨S0, K0, SB.data.toList⟩ else none := by
            unfold readZ
            rw [hD.out]
            simp only [Int.toNat_natCast, hD2.out]
            rw [if_pos (by simp), if_pos (by simp; omega)]
            have e : pkOk ⟨S0, K0, SB.data.toList⟩ = bb := by
              rw [← hbb.out]
              unfold pkOk
              simp
            simp only [List.getD_cons_zero, List.getD_cons_succ, e]
          have HR2 : Hid ((if bb = true then some (⟨S0, K0, SB.data.toList⟩ : Pk) else none) = r) := hide (by rw [← hrd]; exact HR.out)
          clear hrd HR
          have HR := HR2
          clear HR2
          have d5 : ((m : Int) + (q : Int) != (n : Int)) = false := by simp; omega
          clear hnn hlen
          go_enter Try.func36, Try.ntmps36
          go_upto_region 1 with fail
          obtain ⟨w1, G1, hw1, e1, x1, b1, l1⟩ := allocs1 w [.int .i64 0, .int .i64 0, .slice none 0 0] 68
          rw [← hw1, ← e1]
          have lG : w.heap.size ≤ G1 := Nat.le_of_eq e1.symm
          clear hw1 e1

          go_wp2_with (first | (go_at_call 46; refine (HG.out _ (hs0.out.below b1)).mono ?_; rintro e w2 ⟨aL, cL, rfl, oL, bL⟩; have b2 := b1.trans (bL.mono b1.size); have x2 := x1.under bL; have hs2 := hide ((hs0.out.below b1).below bL); have oL2 := hide oL; clear b1 bL x1 oL; obtain ⟨gL, rfl⟩ := own_zero oL2.out (Nat.succ_pos 1)) | (with_reducible refine cutlo_b 27 _ _ _ _ _ l rfl hs2.out .i64 _ m rfl rfl mle ?_; intro aC sC pC; clear pC) | (go_at_call 47; refine (HB.out _ _ _ sC).mono ?_; rintro e w3 ⟨rfl, b3⟩; have b4 := b2.trans (b3.mono b2.size); have x4 := x2.under b3; have b23 := hide b3; clear b2 b3 x2 sC))
          have hc0 : w3.cell? ⟨gL, 0, none⟩ = some (.int .i64 S0) := by have h := (oL2.out.sl.below b23.out).cell _ rfl 0 _ rfl; simpa [Addr.add_lit] using h
          have hc1 : w3.cell? ⟨gL, 1, none⟩ = some (.int .i64 K0) := by have h := (oL2.out.sl.below b23.out).cell _ rfl 1 _ rfl; simpa [Addr.add_lit] using h
          clear oL2 hs2 b23
          refine wp_region_free 10 [⟨0, 43, [43], fun vs _ => vs = [.slice (some ⟨gL, 0, none⟩) 2 cL]⟩, ⟨1, 44, [44], fun vs _ => vs = [.pointer (some ⟨gL, 0, none⟩)]⟩, ⟨2, 45, [45], fun vs _ => vs = [.int .i64 S0]⟩, ⟨3, 46, [46], fun vs _ => vs = [.slice (some ⟨gL, 0, none⟩) 2 cL]⟩, ⟨4, 47, [47], fun vs _ => vs = [.pointer (some ⟨gL, 1, none⟩)]⟩, ⟨5, 48, [48], fun vs _ => vs = [.int .i64 K0]⟩, ⟨6, 49, [49], fun vs _ => vs = [.string SB]⟩, ⟨7, 50, [50], fun vs w' => ∃ aB cB, vs = [.slice aB SB.size cB] ∧ Sl w' 1 aB SB.size cB (SB.data.toList.map B8) ∧ Kind w' aB⟩, ⟨8, 51, [51], fun vs w' => ∃ aB cB, vs = [.agg #[.int .i64 S0, .int .i64 K0, .slice aB SB.size cB]] ∧ Sl w' 1 aB SB.size cB (SB.data.toList.map B8) ∧ Kind w' aB⟩, ⟨9, 9, [9], fun vs w' => ∃ g, vs = [.pointer (some ⟨g, 0, none⟩)] ∧ Box w' g 68 [.int .i64 0, .int .i64 0, .slice none 0 0] ∧ w3.heap.size ≤ g⟩] (by kernel_rfl) (by kernel_rfl) ?_ ?_ ?_
          · simp only [All]
            refine ⟨fun _ _ _ _ h => h, fun _ _ _ _ h => h, fun _ _ _ _ h => h, fun _ _ _ _ h => h, fun _ _ _ _ h => h, fun _ _ _ _ h => h, fun _ _ _ _ h => h, ?_, ?_, ?_, trivial⟩
            · rintro vs w w' hb ⟨aB, cB, h1, h2, h3⟩
              exact ⟨aB, cB, h1, h2.below hb, h3.below hb⟩
            · rintro vs w w' hb ⟨aB, cB, h1, h2, h3⟩
              exact ⟨aB, cB, h1, h2.below hb, h3.below hb⟩
            · rintro vs w w' hb ⟨g, h1, h2, h3⟩
              exact ⟨g, h1, h2.under hb, h3⟩
          · simp only [All]
            refine ⟨?_, ?_, ?_, ?_, ?_, ?_, ?_, ?_, ?_, ?_, trivial⟩
            · intro o ho a' w' hb hfr hdep
              obtain rfl := Option.some.inj ho
              have g4 : a'.tmps[4]?.getD undef = .slice (some ⟨gL, 0, none⟩) 2 cL := by have h := hfr 4 (by kernel_rfl); simpa using h
              clear ho hfr hdep
              go_wp2_with fail
              exact ⟨rfl, _, rfl, Below.refl _ _, rfl⟩
            · intro o ho a' w' hb hfr hdep
              obtain rfl := Option.some.inj ho
              have g43 : a'.tmps[43]?.getD undef = .slice (some ⟨gL, 0, none⟩) 2 cL := by have h := hdep 0 _ rfl (by kernel_rfl); simpa using h
              clear ho hfr hdep
              go_wp2_with fail
              exact ⟨rfl, _, rfl, Below.refl _ _, rfl⟩
            · intro o ho a' w' hb hfr hdep
              obtain rfl := Option.some.inj ho
              have g44 : a'.tmps[44]?.getD undef = .pointer (some ⟨gL, 0, none⟩) := by have h := hdep 1 _ rfl (by kernel_rfl); simpa using h
              clear ho hfr hdep
              have hcl := cell_blw hc0 hb
              go_wp2_with fail
              exact ⟨rfl, _, rfl, Below.refl _ _, rfl⟩
            · intro o ho a' w' hb hfr hdep
              obtain rfl := Option.some.inj ho
              have g4 : a'.tmps[4]?.getD undef = .slice (some ⟨gL, 0, none⟩) 2 cL := by have h := hfr 4 (by kernel_rfl); simpa using h
              clear ho hfr hdep
              go_wp2_with fail
              exact ⟨rfl, _, rfl, Below.refl _ _, rfl⟩
            · intro o ho a' w' hb hfr hdep
              obtain rfl := Option.some.inj ho
              have g46 : a'.tmps[46]?.getD undef = .slice (some ⟨gL, 0, none⟩) 2 cL := by have h := hdep 3 _ rfl (by kernel_rfl); simpa using h
              clear ho hfr hdep
              go_wp2_with fail
              exact ⟨rfl, _, rfl, Below.refl _ _, rfl⟩
            · intro o ho a' w' hb hfr hdep
              obtain rfl := Option.some.inj ho
              have g47 : a'.tmps[47]?.getD undef = .pointer (some ⟨gL, 1, none⟩) := by have h := hdep 4 _ rfl (by kernel_rfl); simpa using h
              clear ho hfr hdep
              have hcl := cell_blw hc1 hb
              go_wp2_with fail
              exact ⟨rfl, _, rfl, Below.refl _ _, rfl⟩
            · intro o ho a' w' hb hfr hdep
              obtain rfl := Option.some.inj ho
              have g7 : a'.tmps[7]?.getD undef = .string SB := by have h := hfr 7 (by kernel_rfl); simpa using h
              clear ho hfr hdep
              go_wp2_with fail
              exact ⟨rfl, _, rfl, Below.refl _ _, rfl⟩
            · intro o ho a' w' hb hfr hdep
              obtain rfl := Option.some.inj ho
              have g49 : a'.tmps[49]?.getD undef = .string SB := by have h := hdep 6 _ rfl (by kernel_rfl); simpa using h
              clear ho hfr hdep
              refine to_kind 50 _ SB (by simpa [Act.eval] using g49) hSB ?_
              intro aB cB w9 hs9 hk9 hb9
              exact ⟨rfl, _, rfl, hb9, aB, cB, rfl, hs9, hk9⟩
            · intro o ho a' w' hb hfr hdep
              obtain rfl := Option.some.inj ho
              have g45 : a'.tmps[45]?.getD undef = .int .i64 S0 := by have h := hdep 2 _ rfl (by kernel_rfl); simpa using h
              have g48 : a'.tmps[48]?.getD undef = .int .i64 K0 := by have h := hdep 5 _ rfl (by kernel_rfl); simpa using h
              obtain ⟨aB, cB, h50, s50, k50⟩ := hdep 7 _ rfl (by kernel_rfl)
              have g50 : a'.tmps[50]?.getD undef = .slice aB SB.size cB := by simpa using h50
              clear ho hfr hdep
              go_wp2_with fail
              exact ⟨rfl, _, rfl, Below.refl _ _, aB, cB, rfl, s50, k50⟩
            · intro o ho a' w' hb hfr hdep
              obtain rfl := Option.some.inj ho
              clear ho hfr hdep
              go_wp2_with fail
              exact ⟨rfl, _, rfl, sblo _ _, _, rfl, Box.new w' 68 #[.int .i64 0, .int .i64 0, .slice none 0 0], hb.size⟩
          · intro g w5 hb hp'
            obtain ⟨aB, cB, p51, s51, k51⟩ := hp' 8 _ rfl
            obtain ⟨G9, p9, x9, l9⟩ := hp' 9 _ rfl
            clear hp'
            simp at p51 p9
            simp only [List.drop_succ_cons, List.drop_zero, List.map_cons, List.map_nil, putAll, Act.put, List.setIfInBounds_toArray, List.set_cons_succ, List.set_cons_zero, List.cons_append, List.nil_append, p51, p9]
            go_wp2_with (with_reducible refine store_all 68 _ _ 68 G9 [.int .i64 0, .int .i64 0, .slice none 0 0] [.int .i64 S0, .int .i64 K0, .slice aB SB.size cB] _ (size_pk _ _ _ _ _) x9 rfl rfl rfl (Eq.refl 3) (by simp [Value.oneCell']) ?_; intro w6 x6 g6 s6; refine shold ?_)
            refine hide ?_
            have h46 : Below w3.heap.size w3 w6 := hb.grown g6 hb.size (fun k hk => by cases hk; exact l9)
            have hne : ∀ q, aB = some q → some q.block ≠ some G9 := fun q hq e => by
              obtain ⟨C, z, hc⟩ := k51 q hq
              have hx := x9
              unfold Box at hx
              injection e with e
              rw [← e, hc] at hx
              injection hx with hx
              injection hx with _ hx
              revert hx
              decide
            have k6 : Hid (Kind w6 aB) := fun q hq => by
              obtain ⟨C, z, hc⟩ := k51 q hq
              exact ⟨C, z, by rw [g6.block q.block (Array.getElem?_eq_some_iff.1 hc).1 (hne q hq)]; exact hc⟩
            have s6 := hide (s51.grown g6 hne)
            have p0 := hide (x6.at_ (j := 0) rfl)
            have p1 := hide (x6.at_ (j := 1) rfl)
            have p2 := hide (x6.at_ (j := 2) rfl)
            clear x9 s51 k51 hne x6 g6 hb p51 p9 hc0 hc1
            go_wp2_with fail
            refine wp_region_free 3 [⟨0, 52, [52], fun vs _ => vs = [.agg #[.int .i64 S0, .int .i64 K0, .slice aB SB.size cB]]⟩, ⟨1, 53, [53], fun vs _ => vs = [.agg #[.int .i64 S0, .int .i64 K0, .slice aB SB.size cB]]⟩, ⟨2, 54, [54], fun vs _ => vs = [.bool bb]⟩] (by kernel_rfl) (by kernel_rfl) ?_ ?_ ?_
            · simp only [All]
              refine ⟨fun _ _ _ _ h => h, fun _ _ _ _ h => h, fun _ _ _ _ h => h, trivial⟩
            · simp only [All]
              refine ⟨?_, ?_, ?_, trivial⟩
              · intro o ho a' w' hb hfr hdep
                obtain rfl := Option.some.inj ho
                have g9 : a'.tmps[9]?.getD undef = .pointer (some ⟨G9, 0, none⟩) := by have h := hfr 9 (by kernel_rfl); simpa using h
                clear ho hfr hdep
                have q0 := cell_blw p0.out hb
                have q1 := cell_blw p1.out hb
                have q2 := cell_blw p2.out hb
                go_wp2_with fail
                exact ⟨rfl, _, rfl, Below.refl _ _, rfl⟩
              · intro o ho a' w' hb hfr hdep
                obtain rfl := Option.some.inj ho
                have g9 : a'.tmps[9]?.getD undef = .pointer (some ⟨G9, 0, none⟩) := by have h := hfr 9 (by kernel_rfl); simpa using h
                clear ho hfr hdep
                have q0 := cell_blw p0.out hb
                have q1 := cell_blw p1.out hb
                have q2 := cell_blw p2.out hb
                go_wp2_with fail
                exact ⟨rfl, _, rfl, Below.refl _ _, rfl⟩
              · intro o ho a' w' hb hfr hdep
                obtain rfl := Option.some.inj ho
                have g53 : a'.tmps[53]?.getD undef = .agg #[.int .i64 S0, .int .i64 K0, .slice aB SB.size cB] := by have h := hdep 1 _ rfl (by kernel_rfl); simpa using h
                clear ho hfr hdep
                go_wp2_with fail
                refine (HV.out _ _ _).mono ?_
                rintro e w9 ⟨rfl, hb9⟩
                go_wp2_with fail
                exact ⟨rfl, _, rfl, hb9, rfl⟩
            · intro g w7 hb hp'
              have p52 := hp' 0 _ rfl
              have p54 := hp' 2 _ rfl
              clear hp'
              simp at p52 p54
              simp only [List.drop_succ_cons, List.drop_zero, List.map_cons, List.map_nil, putAll, Act.put, List.setIfInBounds_toArray, List.set_cons_succ, List.set_cons_zero, List.cons_append, List.nil_append, p52, p54]
              have x7 := x4.under (h46.trans (hb.mono h46.size))
              have b7 := b4.trans ((h46.trans (hb.mono h46.size)).mono b4.size)
              have s7 := hide (s6.out.below hb)
              have k7 := hide (k6.out.below hb)
              clear x4 b4 hb p0 p1 p2
              go_wp2_with (with_reducible refine store_all 68 _ _ 68 G1 [.int .i64 0, .int .i64 0, .slice none 0 0] [.int .i64 S0, .int .i64 K0, .slice aB SB.size cB] _ (size_pk _ _ _ _ _) x7 rfl rfl rfl (Eq.refl 3) (by simp [Value.oneCell']) ?_; intro w9 x9 g9 s9)
              have hne : ∀ q, aB = some q → some q.block ≠ some G1 := fun q hq e => by
                obtain ⟨C, z, hc⟩ := k7.out q hq
                have hx := x7
                unfold Box at hx
                injection e with e
                rw [← e, hc] at hx
                injection hx with hx
                injection hx with _ hx
                revert hx
                decide
              refine bodyPost_ret (run_results_cell2 rfl rfl rfl agg_pk (size_pk _ _ _ _ _) x9) rfl ⟨S0, K0, aB, SB.size, cB, ?_, b7.grown g9 b7.size (fun k hk => by cases hk; exact lG), ?_⟩
              · rw [← HR.out]; cases bb <;> rfl
              · intro p hp
                rw [← HR.out] at hp
                cases hbb : bb
                · rw [hbb] at hp; cases hp
                · rw [hbb] at hp
                  cases hp
                  exact ⟨rfl, rfl, by show SB.size = SB.data.toList.length; simp, s7.out.grown g9 hne, fun q hq => by
                    obtain ⟨C, z, hc⟩ := k7.out q hq
                    exact ⟨C, z, by rw [g9.block q.block (Array.getElem?_eq_some_iff.1 hc).1 (hne q hq)]; exact hc⟩⟩
            

        · have hno : readZ l = none := by
            unfold readZ
            rw [hD.out]
            simp only [Int.toNat_natCast, hD2.out]
            rw [if_pos (by simp), if_neg (by simp; omega)]
          rw [hno] at HR
          have hR2 := HR.out
          subst hR2
          clear HR hno
          have d5 : ((m : Int) + (q : Int) != (n : Int)) = true := by simp; omega
          clear hlen hnn HV hbb bb
          go_enter Try.func36, Try.ntmps36
          go_upto_region 1 with fail
          obtain ⟨w1, G1, hw1, e1, x1, b1, l1⟩ := allocs1 w [.int .i64 0, .int .i64 0, .slice none 0 0] 68
          rw [← hw1, ← e1]
          have lG : w.heap.size ≤ G1 := Nat.le_of_eq e1.symm
          clear hw1 e1

          go_wp2_with (first | (go_at_call 46; refine (HG.out _ (hs0.out.below b1)).mono ?_; rintro e w2 ⟨aL, cL, rfl, oL, bL⟩; have b2 := b1.trans (bL.mono b1.size); have x2 := x1.under bL; have hs2 := hide ((hs0.out.below b1).below bL); have oL2 := hide oL; clear b1 bL x1 oL) | (with_reducible refine cutlo_b 27 _ _ _ _ _ l rfl hs2.out .i64 _ m rfl rfl mle ?_; intro aC sC pC; clear pC) | (go_at_call 47; refine (HB.out _ _ _ sC).mono ?_; rintro e w3 ⟨rfl, b3⟩; have b4 := b2.trans (b3.mono b2.size); have x4 := x2.under b3; clear b2 b3 x2 sC) | (with_reducible refine store_all 68 _ _ 68 G1 [.int .i64 0, .int .i64 0, .slice none 0 0] [.int .i64 0, .int .i64 0, .slice none 0 0] _ hz x4 rfl rfl rfl (Eq.refl 3) hone ?_; intro w8 x9 g9 s9))
          exact bodyPost_ret (run_results_cell2 rfl rfl rfl agg_pk hz x9) rfl ⟨0, 0, none, 0, 0, rfl, b4.grown g9 b4.size (fun k hk => by cases hk; exact lG), (fun p h => by cases h)⟩
      · have hno : readZ l = none := by
          unfold readZ
          rw [hD.out]
          simp only [Int.toNat_natCast, hD2.out]
          rw [if_pos (by simp), if_neg (fun h => hF h.1)]
        rw [hno] at HR
        have hR2 := HR.out
        subst hR2
        clear HR hno
        have d5 : (F != 0) = true := by simp [hF]
        clear hF hnn HV hbb bb
        go_enter Try.func36, Try.ntmps36
        go_upto_region 1 with fail
        obtain ⟨w1, G1, hw1, e1, x1, b1, l1⟩ := allocs1 w [.int .i64 0, .int .i64 0, .slice none 0 0] 68
        rw [← hw1, ← e1]
        have lG : w.heap.size ≤ G1 := Nat.le_of_eq e1.symm
        clear hw1 e1

        go_wp2_with (first | (go_at_call 46; refine (HG.out _ (hs0.out.below b1)).mono ?_; rintro e w2 ⟨aL, cL, rfl, oL, bL⟩; have b2 := b1.trans (bL.mono b1.size); have x2 := x1.under bL; have hs2 := hide ((hs0.out.below b1).below bL); have oL2 := hide oL; clear b1 bL x1 oL) | (with_reducible refine cutlo_b 27 _ _ _ _ _ l rfl hs2.out .i64 _ m rfl rfl mle ?_; intro aC sC pC; clear pC) | (go_at_call 47; refine (HB.out _ _ _ sC).mono ?_; rintro e w3 ⟨rfl, b3⟩; have b4 := b2.trans (b3.mono b2.size); have x4 := x2.under b3; clear b2 b3 x2 sC) | (with_reducible refine store_all 68 _ _ 68 G1 [.int .i64 0, .int .i64 0, .slice none 0 0] [.int .i64 0, .int .i64 0, .slice none 0 0] _ hz x4 rfl rfl rfl (Eq.refl 3) hone ?_; intro w8 x9 g9 s9))
        exact bodyPost_ret (run_results_cell2 rfl rfl rfl agg_pk hz x9) rfl ⟨0, 0, none, 0, 0, rfl, b4.grown g9 b4.size (fun k hk => by cases hk; exact lG), (fun p h => by cases h)⟩
    · have hno : readZ l = none := by
        unfold readZ
        rw [hD.out]
        exact if_neg (fun h => h2 h.2)
      rw [hno] at HR
      have hR2 := HR.out
      subst hR2
      clear HR hno
      have d2 : ((L.length : Int) != 2) = true := by simp; omega
      clear h2
      go_enter Try.func36, Try.ntmps36
      go_upto_region 1 with fail
      obtain ⟨w1, G1, hw1, e1, x1, b1, l1⟩ := allocs1 w [.int .i64 0, .int .i64 0, .slice none 0 0] 68
      rw [← hw1, ← e1]
      have lG : w.heap.size ≤ G1 := Nat.le_of_eq e1.symm
      clear hw1 e1

      go_wp2_with (first | (go_at_call 46; refine (HG.out _ (hs0.out.below b1)).mono ?_; rintro e w2 ⟨aL, cL, rfl, oL, bL⟩; have b2 := b1.trans (bL.mono b1.size); have x2 := x1.under bL; have hs2 := hide ((hs0.out.below b1).below bL); have oL2 := hide oL; clear b1 bL x1 oL) | (with_reducible refine store_all 68 _ _ 68 G1 [.int .i64 0, .int .i64 0, .slice none 0 0] [.int .i64 0, .int .i64 0, .slice none 0 0] _ hz x2 rfl rfl rfl (Eq.refl 3) hone ?_; intro w8 x9 g9 s9))
      exact bodyPost_ret (run_results_cell2 rfl rfl rfl agg_pk hz x9) rfl ⟨0, 0, none, 0, 0, rfl, b2.grown g9 b2.size (fun k hk => by cases hk; exact lG), (fun p h => by cases h)⟩
  · have hno : readZ l = none := by
      unfold readZ
      rw [hD.out]
      exact if_neg (fun h => hE h.1)
    rw [hno] at HR
    have hR2 := HR.out
    subst hR2
    clear HR hno
    have d2 : (E != 0) = true := by simp [hE]
    clear hE
    go_enter Try.func36, Try.ntmps36
    go_upto_region 1 with fail
    obtain ⟨w1, G1, hw1, e1, x1, b1, l1⟩ := allocs1 w [.int .i64 0, .int .i64 0, .slice none 0 0] 68
    rw [← hw1, ← e1]
    have lG : w.heap.size ≤ G1 := Nat.le_of_eq e1.symm
    clear hw1 e1

    go_wp2_with (first | (go_at_call 46; refine (HG.out _ (hs0.out.below b1)).mono ?_; rintro e w2 ⟨aL, cL, rfl, oL, bL⟩; have b2 := b1.trans (bL.mono b1.size); have x2 := x1.under bL; have hs2 := hide ((hs0.out.below b1).below bL); have oL2 := hide oL; clear b1 bL x1 oL) | (with_reducible refine store_all 68 _ _ 68 G1 [.int .i64 0, .int .i64 0, .slice none 0 0] [.int .i64 0, .int .i64 0, .slice none 0 0] _ hz x2 rfl rfl rfl (Eq.refl 3) hone ?_; intro w8 x9 g9 s9))
    exact bodyPost_ret (run_results_cell2 rfl rfl rfl agg_pk hz x9) rfl ⟨0, 0, none, 0, 0, rfl, b2.grown g9 b2.size (fun k hk => by cases hk; exact lG), (fun p h => by cases h)⟩
end Go.Proofs.Ytjdnmbapmobaaaa
end

/- the text IMap -/
section
/- A map whose keys are ints, entry by entry. No program in sight. -/
set_option linter.unusedSimpArgs false
set_option linter.unusedVariables false
namespace Go.Dx
open Go.RowKit Go.MapKept
/-- block b is a map with these entries, in their order -/
structure IMap (w : World) (b : Nat) (m : List (Int × Value)) : Prop where
  ex : ∃ es clock, w.heap[b]? = some (.map es clock) ∧ es.toList.map (fun e => (e.key, e.val)) = (m.map fun p => (Value.int .i64 p.1, p.2)) ∧ ∀ x ∈ es.toList, x.born < clock
def lkM (m : List (Int × Value)) (k : Int) : Option Value := (m.find? fun p => p.1 == k).map (·.2)
def delM (m : List (Int × Value)) (k : Int) : List (Int × Value) := m.eraseP fun p => p.1 == k
theorem IMap.new (w : World) : IMap (w.alloc (.map #[] 0)) w.heap.size [] := ⟨#[], 0, heap_alloc_new w _, rfl, by simp⟩
theorem IMap.lt {w : World} {b : Nat} {m : List (Int × Value)} (h : IMap w b m) : b < w.heap.size := by
  obtain ⟨es, clock, hb, _⟩ := h.ex
  exact (Array.getElem?_eq_some_iff.1 hb).1
theorem IMap.same {w w' : World} {b : Nat} {m : List (Int × Value)} (h : IMap w b m) (hb : w'.heap[b]? = w.heap[b]?) : IMap w' b m := by
  obtain ⟨es, clock, h1, he⟩ := h.ex
  exact ⟨es, clock, hb.trans h1, he⟩
theorem IMap.under {w w' : World} {b : Nat} {m : List (Int × Value)} (h : IMap w b m) (hg : Below w.heap.size w w') : IMap w' b m := h.same (hg.block b h.lt)
theorem IMap.grown {w w' : World} {row : Option Nat} {b : Nat} {m : List (Int × Value)} (h : IMap w b m) (hg : w.grownBy w' row) (hne : some b ≠ row) : IMap w' b m := h.same (hg.block b h.lt hne)
theorem find_ints (k : Int) : ∀ (l : List MapEntry) (m : List (Int × Value)) (i : Nat), l.map (fun e => (e.key, e.val)) = m.map (fun p => (Value.int .i64 p.1, p.2)) →
    (lkM m k = none ∧ Instr.findNow (.int .i64) (.int .i64 k) l i = some none ∧ (∀ p ∈ m, p.1 ≠ k)) ∨
    ∃ j v, lkM m k = some v ∧ Instr.findNow (.int .i64) (.int .i64 k) l i = some (some (i + j, v)) ∧ (l.eraseIdx j).map (fun e => (e.key, e.val)) = (delM m k).map (fun p => (Value.int .i64 p.1, p.2)) ∧ j < l.length
  | [], [], _, _ => .inl ⟨rfl, rfl, fun p hp => by cases hp⟩
  | e :: l, p :: m, i, h => by
    simp only [List.map_cons, List.cons.injEq] at h
    obtain ⟨h1, h2⟩ := h
    have hk : e.key = .int .i64 p.1 := congrArg Prod.fst h1
    have hv : e.val = p.2 := congrArg Prod.snd h1
    by_cases c : p.1 = k
    · right
      refine ⟨0, p.2, ?_, ?_, ?_, by simp⟩
      · simp [lkM, c]
      · simp [Instr.findNow, hk, Instr.sameNow, c, hv]
      · simp [delM, c, h2]
    · have c' : ¬ k = p.1 := fun e => c e.symm
      have cb : (k == p.1) = false := by simp [c']
      rcases find_ints k l m (i + 1) h2 with ⟨q1, q2, q3⟩ | ⟨j, v, q1, q2, q3, q4⟩
      · left
        refine ⟨?_, ?_, ?_⟩
        · simp only [lkM] at q1 ⊢; simp [c]; simpa using q1
        · simp [Instr.findNow, hk, Instr.sameNow, cb, q2]
        · intro q hq
          rcases List.mem_cons.1 hq with rfl | hq
          · exact c
          · exact q3 q hq
      · right
        refine ⟨j + 1, v, ?_, ?_, ?_, by simp; exact q4⟩
        · simp only [lkM] at q1 ⊢
          rw [List.find?_cons_of_neg (by simp [c])]
          exact q1
        · simp [Instr.findNow, hk, Instr.sameNow, cb, q2]; omega
        · simp only [delM] at q3 ⊢
          rw [List.eraseIdx_cons_succ, List.eraseP_cons_of_neg (by simp [c]), List.map_cons, List.map_cons, q3, h1]
section
variable {P : Program} {w : World} {ops : Array Oper} {rest : List Oper} {o : Oper} {a : Act} {Q : Exit → Act → World → Prop}
/-- 'v, ok := m[k]' -/
theorem look_int {K : TypeId} (hK0 : P.underlying K = some (.int .i64)) (hg : o.guard = none) (mm x : Operand) (t e : TypeId) (hop : o.op = Op.lookup t mm x true) (ht : P.underlying t = some (.map K e))
    (z : Value) (hz : ∀ w, (zeroValue e).run P w = .ok z w) (b : Nat) (m : List (Int × Value)) (hm : a.eval mm = .map (some b)) (hown : IMap w b m) (k : Int) (hx : a.eval x = .int .i64 k)
    (v : Value) (ok : Bool) (hv : (match lkM m k with | some v => (v, true) | none => (z, false)) = (v, ok))
    (hK : wpList P ops Q rest (a.put o.dst (.tuple #[v, .bool ok])) w) : wpList P ops Q (o :: rest) a w := by
  refine wpList_plain hg fun K' hK' => ?_
  obtain ⟨es, clock, hb, he, -⟩ := hown.ex
  have hkey : IsKey (.int .i64) (Value.int .i64 k) := by simp [IsKey]
  have hck : (Instr.checkKey es.isEmpty 10000 K (.int .i64 k)).run P w = .ok () w := run_checkKey hK0 hkey _ 9999
  rcases find_ints k es.toList m 0 he with ⟨q1, q2, _⟩ | ⟨j, u, q1, q2, _, _⟩
  · rw [q1] at hv
    simp only [Prod.mk.injEq] at hv
    obtain ⟨rfl, rfl⟩ := hv
    have hf := run_findKey (w := w) hK0 q2
    have hrun : (Instr.lookup t (.map (some b)) (.int .i64 k) true).run P w = .ok (.tuple #[z, .bool false]) w := by
      simp [Instr.lookup, run_underlying ht, MapKept.run_getObj_map hb, hck, hf, hz]
    unfold Oper.wp
    simp [execOp, hop, hm, hx, hrun, Result.andThen]
    exact hK' _ _ hK
  · rw [q1] at hv
    simp only [Prod.mk.injEq] at hv
    obtain ⟨rfl, rfl⟩ := hv
    have hf := run_findKey (w := w) hK0 q2
    have hrun : (Instr.lookup t (.map (some b)) (.int .i64 k) true).run P w = .ok (.tuple #[u, .bool true]) w := by
      simp [Instr.lookup, run_underlying ht, MapKept.run_getObj_map hb, hck, hf]
    unfold Oper.wp
    simp [execOp, hop, hm, hx, hrun, Result.andThen]
    exact hK' _ _ hK
/-- 'm[k] = v', k a new key -/
theorem put_int {K : TypeId} (hK0 : P.underlying K = some (.int .i64)) (hg : o.guard = none) (mm x v : Operand) (t e : TypeId) (hop : o.op = Op.mapUpdate t mm x v) (ht : P.underlying t = some (.map K e))
    (b : Nat) (m : List (Int × Value)) (hm : a.eval mm = .map (some b)) (hown : IMap w b m) (k : Int) (hx : a.eval x = .int .i64 k) (u : Value) (hv : a.eval v = u) (hnew : lkM m k = none)
    (hK : ∀ w', IMap w' b (m ++ [(k, u)]) → w.grownBy w' (some b) → w'.heap.size = w.heap.size → wpList P ops Q rest (a.put o.dst undef) w') : wpList P ops Q (o :: rest) a w := by
  refine wpList_plain hg fun K' hK' => ?_
  obtain ⟨es, clock, hb, he, hold2⟩ := hown.ex
  have hlt := hown.lt
  have hkey : IsKey (.int .i64) (Value.int .i64 k) := by simp [IsKey]
  have hck : (Instr.checkKey false 10000 K (.int .i64 k)).run P w = .ok () w := run_checkKey hK0 hkey _ 9999
  rcases find_ints k es.toList m 0 he with ⟨q1, q2, _⟩ | ⟨j, u', q1, q2, _, _⟩
  · have hf := run_findKey (w := w) hK0 q2
    obtain ⟨w', hw'⟩ : ∃ w', w' = { w with heap := w.heap.setIfInBounds b (.map (es.push { key := .int .i64 k, val := u, born := clock }) (clock + 1)) } := ⟨_, rfl⟩
    have hrun : (Instr.mapUpdate t (.map (some b)) (.int .i64 k) u).run P w = .ok () w' := by
      rw [hw']
      simp [Instr.mapUpdate, run_underlying ht, MapKept.run_getObj_map hb, MapKept.run_setObj_map _ hb, hck, hf]
    unfold Oper.wp
    simp [execOp, hop, hm, hx, hv, hrun, Result.andThen]
    refine hK' _ _ (hK w' ?_ ?_ ?_)
    · exact ⟨_, _, by rw [hw']; simp [Array.getElem?_setIfInBounds, hlt]; exact ⟨rfl, rfl⟩, by simp [he], fun x hx => by
        rw [Array.toList_push] at hx
        rcases List.mem_append.1 hx with hx | hx
        · have := hold2 x hx
          omega
        · simp at hx; subst hx; exact Nat.lt_succ_self _⟩
    · rw [hw']
      refine ⟨rfl, rfl, rfl, by simp, fun k hk hne => ?_⟩
      simp only [Array.getElem?_setIfInBounds]
      rw [if_neg (fun e => hne (by rw [e]))]
    · rw [hw']; simp
  · rw [hnew] at q1; cases q1
/-- 'delete(m, k)', k a key of the map -/
theorem del_int {K : TypeId} (hK0 : P.underlying K = some (.int .i64)) (hg : o.guard = none) (mm x : Operand) (t e : TypeId) (hop : o.op = Op.call { callee := Callee.builtin Builtin.delete, args := #[mm, x], argTypes := #[t, K] }) (ht : P.underlying t = some (.map K e))
    (b : Nat) (m : List (Int × Value)) (hm : a.eval mm = .map (some b)) (hown : IMap w b m) (k : Int) (hx : a.eval x = .int .i64 k) (u : Value) (hold : lkM m k = some u)
    (hK : ∀ w', IMap w' b (delM m k) → w.grownBy w' (some b) → w'.heap.size = w.heap.size → wpList P ops Q rest (a.put o.dst (.tuple #[])) w') : wpList P ops Q (o :: rest) a w := by
  refine wpList_plain hg fun K' hK' => ?_
  obtain ⟨es, clock, hb, he, hold2⟩ := hown.ex
  have hlt := hown.lt
  have hkey : IsKey (.int .i64) (Value.int .i64 k) := by simp [IsKey]
  rcases find_ints k es.toList m 0 he with ⟨q1, q2, _⟩ | ⟨j, u', q1, q2, q3, q4⟩
  · rw [hold] at q1; cases q1
  · rw [Nat.zero_add] at q2
    obtain ⟨w', hw'⟩ : ∃ w', w' = { w with heap := w.heap.setIfInBounds b (.map (es.eraseIdxIfInBounds j) clock) } := ⟨_, rfl⟩
    have hrun : (Builtin.delete_ #[t, K] o.type #[.map (some b), .int .i64 k]).run P w = .ok (.tuple #[]) w' := by
      rw [hw']
      simp [Builtin.delete_, run_underlying ht, MapKept.run_getObj_map hb, run_checkKey hK0 hkey, run_findKey hK0 q2, MapKept.run_setObj_map _ hb, Result.andThen]
    unfold Oper.wp
    simp [execOp, hop, resolve, invoke, builtin, hm, hx, hrun, Result.andThen]
    refine hK' _ _ (hK w' ?_ ?_ ?_)
    · refine ⟨_, _, by rw [hw']; simp [Array.getElem?_setIfInBounds, hlt]; exact ⟨rfl, rfl⟩, ?_, ?_⟩
      · rw [← q3]
        congr 1
        unfold Array.eraseIdxIfInBounds
        rw [dif_pos (by simpa using q4)]
        simp
      · intro x hx
        refine hold2 x ?_
        unfold Array.eraseIdxIfInBounds at hx
        rw [dif_pos (by simpa using q4)] at hx
        rw [Array.toList_eraseIdx] at hx
        exact List.mem_of_mem_eraseIdx hx
    · rw [hw']
      refine ⟨rfl, rfl, rfl, by simp, fun k hk hne => ?_⟩
      simp only [Array.getElem?_setIfInBounds]
      rw [if_neg (fun e => hne (by rw [e]))]
    · rw [hw']; simp
end
end Go.Dx
end

/- the text AppF -/
section
/- The laws on append once more: the block that is handed back is the old one or a new one. No program in sight. -/
set_option linter.unusedVariables false
namespace Go.Dx
open Go.RowKit
section laws
variable {P : Program} {w : World} {ops : Array Oper} {rest : List Oper} {o : Oper} {act : Act} {Q : Exit → Act → World → Prop}
theorem run_append_fresh (base : Nat) (t tx ty e : TypeId) (i : TypeInfo) (z : Value) (ht : P.underlying t = some (.slice e)) (hi : P.info? e = some i) (hz : i.zero = some z)
    (hzs : z.cells.size = i.size) (a : Option Addr) (n c : Nat) (xs : List Value) (hown : Own w base e i.size a n c xs)
    (x : Value) (m : Nat) (news : List Value) (hs : Src P i.size tx x m news w)
    (h63 : n + m ≤ maxLen) (hbytes : (n + m) * i.bytes ≤ 140737488355328) (hbase : base ≤ w.heap.size) :
    ∃ a' c' w', (Builtin.append_ #[t, tx] ty #[.slice a n c, x]).run P w = .ok (.slice a' (n + m) c') w' ∧ Own w' base e i.size a' (n + m) c' (xs ++ news) ∧ w.grownBy w' (a.map (·.block)) ∧ (∀ p, a' = some p → (∃ q, a = some q ∧ q.block = p.block) ∨ w.heap.size ≤ p.block) := by
  have hsmall : n + m ≤ 9223372036854775807 := by simp only [maxLen] at h63; omega
  have hlen : (xs ++ news).length = (n + m) * i.size := by rw [List.length_append, hown.1, hs.newsLen, Nat.add_mul]
  have hold : (Builtin.firstCells i.size n (.slice a n c)).run P w.drew = .ok xs.toArray w.drew := by
    have hsl := hown.sl
    cases a with
    | none =>
      have := hsl.nil rfl
      have := hsl.le
      obtain rfl : n = 0 := by omega
      have hnews : xs = [] := List.eq_nil_of_length_eq_zero (by simpa using hsl.len)
      subst hnews
      exact run_firstCells_none w.drew i.size 0 0 c
    | some p => exact run_firstCells_some w.drew i.size n p n c xs hsl.len (by simpa using hsl.cell p rfl)
  by_cases hroom : n + m ≤ c
  · rcases hown.2 with ⟨h1, h2⟩ | ⟨g, cap, cur, h1, hbg, hg, hnc, hcm, hcs, htake⟩
    · injection h1 with h1 h3 h4
      subst h1 h3 h4
      obtain rfl : m = 0 := by omega
      have hx : xs = [] := List.eq_nil_of_length_eq_zero (by simpa using hown.1)
      have hnews : news = [] := List.eq_nil_of_length_eq_zero (by simpa using hs.newsLen)
      subst hx hnews
      refine ⟨none, 0, w, ?_, Own.nil w base e i.size, World.grownBy.refl _ _, fun p hp => by cases hp⟩
      rcases hs.kind with ⟨e', hk⟩ | hk <;> simp [Builtin.append_, run_underlying ht, run_underlying hk, sizeOf, typeInfo, hi, hs.len, hs.cells]
    · injection h1 with h1 h3 h4
      subst h1 h4
      have hfit : n * i.size + news.length ≤ cur.size := by rw [hs.newsLen, hcs, ← Nat.add_mul]; exact Nat.mul_le_mul_right _ hroom
      have hst := run_storeCells_at P g (n * i.size) e news 0 cur w hg (by simpa using hfit) hs.one
      simp only [Nat.add_zero] at hst
      refine ⟨some ⟨g, 0, none⟩, c, w.setRow g (cur.toList.take (n * i.size) ++ news ++ cur.toList.drop (n * i.size + news.length)).toArray, ?_, ⟨hlen, .inr ⟨g, c, _, rfl, hbg, setRow_heap w g cur _ e _ hg, hroom, hcm, ?_, ?_⟩⟩, ⟨rfl, rfl, rfl, by simp, fun k _ hk => setRow_other w g k _ (fun e => hk (by simp [e]))⟩, fun p hp => by cases hp; exact .inl ⟨_, rfl, rfl⟩⟩
      · rcases hs.kind with ⟨e', hk⟩ | hk <;> simp [Builtin.append_, run_underlying ht, run_underlying hk, sizeOf, typeInfo, hi, hs.len, hroom, hs.cells, Addr.add_lit, hst]
      · simp only [List.size_toArray, List.length_append, List.length_take, List.length_drop, Array.length_toList]
        omega
      · rw [htake, ← hlen]
        exact List.take_left
  · have hr := run_append_grow_src (P := P) w t tx ty e i z ht hi hz a n c xs hold x m news hs (by omega) (by omega) (growslice_fits (by omega) hbytes)
    have hge := grownCap_ge w (n + m) c e
    have hcm : grownCap w (n + m) c e ≤ maxLen := grownCap_le_maxLen w (n + m) c e h63
    refine ⟨_, _, _, hr, ⟨hlen, .inr ⟨w.heap.size, _, _, rfl, hbase, heap_alloc_new w.drew _, hge, hcm, ?_, ?_⟩⟩, ⟨rfl, rfl, rfl, by simp, fun k hk _ => Below.heap_alloc w.drew _ k hk⟩, fun p hp => by cases hp; exact .inr (Nat.le_refl _)⟩
    · simp only [Array.size_append, List.size_toArray, size_zeroCells, hzs, hlen, ← Nat.add_mul]
      congr 1
      omega
    · simp only [Array.toList_append, List.append_assoc]
      rw [← List.append_assoc, ← hlen]
      exact List.take_left

/-- 'append(out, x...)', out owned, whatever x is: the general law. -/
theorem append_src_f (hg : o.guard = none) (s x : Operand) (t tx : TypeId) (hop : o.op = Op.call { callee := Callee.builtin Builtin.append, args := #[s, x], argTypes := #[t, tx] })
    (e : TypeId) (z : Value) (sz bytes : Nat) (ht : P.underlying t = some (.slice e)) (hi : (P.info? e).map (fun i => (i.zero, i.size, i.bytes)) = some (some z, sz, bytes)) (hz : z.cells.size = sz)
    (w0 : World) (B : Nat) (a : Option Addr) (n c : Nat) (xs : List Value) (hs : act.eval s = .slice a n c) (hown : Own w B e sz a n c xs)
    (v : Value) (m : Nat) (ys : List Value) (hx : act.eval x = v) (hy : Src P sz tx v m ys w)
    (hn : (n + m) * bytes ≤ 140737488355328) (hn2 : n + m ≤ maxLen) (hB : B ≤ w.heap.size) (hbel : Below B w0 w)
    (hK : ∀ a' c' w', Own w' B e sz a' (n + m) c' (xs ++ ys) → w.grownBy w' (a.map (·.block)) → (∀ p, a' = some p → (∃ q, a = some q ∧ q.block = p.block) ∨ w.heap.size ≤ p.block) → Below B w0 w' → wpList P ops Q rest (act.put o.dst (.slice a' (n + m) c')) w') :
    wpList P ops Q (o :: rest) act w := by
  obtain ⟨i, hi0, hz0, hz1, hz2⟩ := info_parts hi
  subst hz1 hz2
  clear hi
  obtain ⟨a', c', w', hrun, ho, hgr, hfr⟩ := run_append_fresh B t tx o.type e i z ht hi0 hz0 hz a n c xs hown v m ys hy hn2 hn hB
  refine wpList_plain hg fun K hK' => ?_
  unfold Oper.wp
  simp [execOp, hop, resolve, invoke, builtin, hs, hx, hrun, Result.andThen]
  refine hK' _ _ (hK a' c' w' ho hgr hfr (hbel.grown hgr hB ?_))
  intro k hk
  cases a with
  | none => cases hk
  | some p => injection hk with hk; subst hk; exact hown.base.1

/-- 'append(out, ys...)', out owned, ys a slice. -/
theorem append_own_f (hg : o.guard = none) (s x : Operand) (t : TypeId) (hop : o.op = Op.call { callee := Callee.builtin Builtin.append, args := #[s, x], argTypes := #[t, t] })
    (e : TypeId) (z : Value) (sz bytes : Nat) (ht : P.underlying t = some (.slice e)) (hi : (P.info? e).map (fun i => (i.zero, i.size, i.bytes)) = some (some z, sz, bytes)) (hz : z.cells.size = sz)
    (w0 : World) (B : Nat) (a : Option Addr) (n c : Nat) (xs : List Value) (hs : act.eval s = .slice a n c) (hown : Own w B e sz a n c xs)
    (a2 : Option Addr) (m c2 : Nat) (ys : List Value) (hx : act.eval x = .slice a2 m c2) (hy : Sl w sz a2 m c2 ys) (h1 : ∀ u ∈ ys, u.oneCell' = true)
    (hn : (n + m) * bytes ≤ 140737488355328) (hn2 : n + m ≤ maxLen) (hB : B ≤ w.heap.size) (hbel : Below B w0 w)
    (hK : ∀ a' c' w', Own w' B e sz a' (n + m) c' (xs ++ ys) → w.grownBy w' (a.map (·.block)) → (∀ p, a' = some p → (∃ q, a = some q ∧ q.block = p.block) ∨ w.heap.size ≤ p.block) → Below B w0 w' → wpList P ops Q rest (act.put o.dst (.slice a' (n + m) c')) w') :
    wpList P ops Q (o :: rest) act w :=
  append_src_f hg s x t t hop e z sz bytes ht hi hz w0 B a n c xs hs hown _ m ys hx (hy.src ht h1) hn hn2 hB hbel hK

theorem append_lit_f (hg : o.guard = none) (s x : Operand) (t : TypeId) (hop : o.op = Op.call { callee := Callee.builtin Builtin.append, args := #[s, x], argTypes := #[t, t] })
    (e : TypeId) (z : Value) (sz bytes : Nat) (ht : P.underlying t = some (.slice e)) (hi : (P.info? e).map (fun i => (i.zero, i.size, i.bytes)) = some (some z, sz, bytes)) (hz : z.cells.size = sz)
    (w0 : World) (B : Nat) (a : Option Addr) (n c : Nat) (xs : List Value) (hs : act.eval s = .slice a n c) (hown : Own w B e sz a n c xs)
    (m : Nat) (us : List Value) (hx : act.eval x = .slice (some ⟨w.heap.size, 0, none⟩) m m) (hu : us.length = m * sz) (h1 : ∀ u ∈ us, u.oneCell' = true)
    (hn : (n + m) * bytes ≤ 140737488355328) (hn2 : n + m ≤ maxLen) (hB : B ≤ w.heap.size) (hbel : Below B w0 w)
    (hK : ∀ a' c' w', Own w' B e sz a' (n + m) c' (xs ++ us) → w.grownBy w' (a.map (·.block)) → (∀ p, a' = some p → (∃ q, a = some q ∧ q.block = p.block) ∨ w.heap.size ≤ p.block) → Below B w0 w' → wpList P ops Q rest (act.put o.dst (.slice a' (n + m) c')) w') :
    wpList P ops Q (o :: rest) act (w.alloc (.cells us.toArray e)) := by
  refine append_own_f hg s x t hop e z sz bytes ht hi hz w0 B a n c xs hs (hown.alloc _) _ m m us hx ?_ h1 hn hn2 (by simp; omega) (hbel.alloc hB _) ?_
  · have := (Own.built w 0 e sz m us.toArray (Nat.zero_le _) (by simpa using hu) (by omega)).sl
    simpa using this
  · intro a' c' w' ho hgr hfr hb
    refine hK a' c' w' ho ⟨hgr.os, hgr.tape, hgr.output, ?_, ?_⟩ (fun p hp => (hfr p hp).imp id (fun h => by simp at h; omega)) hb
    · have := hgr.size; simp at this; omega
    · intro k hk hne
      rw [hgr.block k (by simp; omega) hne]
      rw [Below.heap_alloc _ _ _ hk]
end laws
end Go.Dx
end

/- the text K8 -/
section
/- Chapter 37: an end in memory; New. -/
set_option linter.unusedVariables false
namespace Go.Proofs.Ytjdnmbapmobaaaa
open Go.RowKit Go.Dx Go.Al
/-- rows of bytes, wherever they lie -/
def Rows (w : World) (hs : List Hd) (p : List (List UInt8)) : Prop :=
  hs.length = p.length ∧ ∀ (i : Nat) (h : Hd) (r : List UInt8), hs[i]? = some h → p[i]? = some r → Sl w 1 h.1 h.2.1 h.2.2 (r.map B8) ∧ Kind w h.1
theorem Rows.nil (w : World) : Rows w [] [] := ⟨rfl, fun i h r h1 => by cases h1⟩
theorem Rows.below {w w' : World} {hs : List Hd} {p : List (List UInt8)} (h : Rows w hs p) (hb : Below w.heap.size w w') : Rows w' hs p :=
  ⟨h.1, fun i x r h1 h2 => ⟨(h.2 i x r h1 h2).1.below hb, (h.2 i x r h1 h2).2.below hb⟩⟩
theorem Rows.append {w : World} {hs hs' : List Hd} {p p' : List (List UInt8)} (h : Rows w hs p) (h' : Rows w hs' p') : Rows w (hs ++ hs') (p ++ p') := by
  refine ⟨by rw [List.length_append, List.length_append, h.1, h'.1], fun i x r h1 h2 => ?_⟩
  rw [List.getElem?_append] at h1 h2
  by_cases hi : i < hs.length
  · rw [if_pos hi] at h1
    rw [if_pos (by rw [← h.1]; exact hi)] at h2
    exact h.2 i x r h1 h2
  · rw [if_neg hi] at h1
    rw [if_neg (by rw [← h.1]; exact hi), ← h.1] at h2
    exact h'.2 _ x r h1 h2
theorem Rows.one {w : World} {x : Hd} {r : List UInt8} (h : Sl w 1 x.1 x.2.1 x.2.2 (r.map B8)) (k : Kind w x.1) : Rows w [x] [r] := by
  refine ⟨rfl, fun i y s h1 h2 => ?_⟩
  cases i with
  | zero => simp at h1 h2; subst h1 h2; exact ⟨h, k⟩
  | succ i => simp at h1
theorem Rows.drop {w : World} {hs : List Hd} {p : List (List UInt8)} (h : Rows w hs p) (k : Nat) : Rows w (hs.drop k) (p.drop k) :=
  ⟨by rw [List.length_drop, List.length_drop, h.1], fun i x r h1 h2 => h.2 (k + i) x r (by rw [List.getElem?_drop] at h1; exact h1) (by rw [List.getElem?_drop] at h2; exact h2)⟩
theorem Rows.take {w : World} {hs : List Hd} {p : List (List UInt8)} (h : Rows w hs p) (k : Nat) : Rows w (hs.take k) (p.take k) := by
  refine ⟨by rw [List.length_take, List.length_take, h.1], fun i x r h1 h2 => ?_⟩
  rw [List.getElem?_take] at h1 h2
  split at h1
  · rename_i hi
    rw [if_pos hi] at h2
    exact h.2 i x r h1 h2
  · cases h1
/-- block b holds no bytes -/
def NoB (w : World) (b : Nat) : Prop := ∀ C z, w.heap[b]? ≠ some (.cells C 5 z)
theorem NoB.box {w : World} {b : Nat} {t : TypeId} {cs : List Value} (h : Box w b t cs) (ht : t ≠ 5) : NoB w b := fun C z hc => by
  have hx : w.heap[b]? = some (.cells cs.toArray t (0, 0)) := h
  rw [hc] at hx
  injection hx with hx
  injection hx with _ hx
  exact ht hx.symm
theorem NoB.map {w : World} {b : Nat} {m : List (Int × Value)} (h : IMap w b m) : NoB w b := fun C z hc => by
  obtain ⟨es, clock, hb, _⟩ := h.ex
  rw [hc] at hb
  cases hb
theorem NoB.own {w : World} {B : Nat} {t : TypeId} {sz : Nat} {q : Addr} {n c : Nat} {cs : List Value} (h : Own w B t sz (some q) n c cs) (ht : t ≠ 5) : NoB w q.block := fun C z hc => kind_ne h hc ht rfl
theorem Kind.kept {w w' : World} {row : Option Nat} {a : Option Addr} (h : Kind w a) (hg : w.grownBy w' row) (hn : ∀ b, row = some b → NoB w b) : Kind w' a := fun q hq => by
  obtain ⟨C, z, hc⟩ := h q hq
  exact ⟨C, z, by rw [hg.block q.block (Array.getElem?_eq_some_iff.1 hc).1 (fun e => hn _ e.symm C z hc)]; exact hc⟩
theorem sl_kept {w w' : World} {row : Option Nat} {a : Option Addr} {sz n c : Nat} {cs : List Value} (h : Sl w sz a n c cs) (k : Kind w a) (hg : w.grownBy w' row) (hn : ∀ b, row = some b → NoB w b) : Sl w' sz a n c cs :=
  h.grown hg fun q hq e => by
    obtain ⟨C, z, hc⟩ := k q hq
    exact hn _ e.symm C z hc
theorem Rows.kept {w w' : World} {row : Option Nat} {hs : List Hd} {p : List (List UInt8)} (h : Rows w hs p) (hg : w.grownBy w' row) (hn : ∀ b, row = some b → NoB w b) : Rows w' hs p :=
  ⟨h.1, fun i x r h1 h2 => ⟨sl_kept (h.2 i x r h1 h2).1 (h.2 i x r h1 h2).2 hg hn, (h.2 i x r h1 h2).2.kept hg hn⟩⟩
/-- all blocks but those of S are as they were -/
structure Fr (S : List Nat) (w w' : World) : Prop where
  os : w'.os = w.os
  tape : w'.tape = w.tape
  output : w'.output = w.output
  size : w.heap.size ≤ w'.heap.size
  block : ∀ k, k < w.heap.size → k ∉ S → w'.heap[k]? = w.heap[k]?
theorem Fr.refl (S : List Nat) (w : World) : Fr S w w := ⟨rfl, rfl, rfl, Nat.le_refl _, fun _ _ _ => rfl⟩
theorem Fr.trans {S : List Nat} {w w' w'' : World} (h : Fr S w w') (k : Fr S w' w'') : Fr S w w'' :=
  ⟨k.os.trans h.os, k.tape.trans h.tape, k.output.trans h.output, Nat.le_trans h.size k.size, fun i hi hS => (k.block i (Nat.lt_of_lt_of_le hi h.size) hS).trans (h.block i hi hS)⟩
theorem Fr.below {S : List Nat} {w w' w'' : World} (h : Fr S w w') (k : Below w'.heap.size w' w'') : Fr S w w'' :=
  ⟨k.os.trans h.os, k.tape.trans h.tape, k.output.trans h.output, Nat.le_trans h.size k.size, fun i hi hS => (k.block i (Nat.lt_of_lt_of_le hi h.size)).trans (h.block i hi hS)⟩
theorem Fr.of {S : List Nat} {w w' : World} (k : Below w.heap.size w w') : Fr S w w' := (Fr.refl S w).below k
theorem Fr.grown {S : List Nat} {w w' w'' : World} {row : Option Nat} (h : Fr S w w') (k : w'.grownBy w'' row) (hb : ∀ b, row = some b → b ∈ S ∨ w.heap.size ≤ b) : Fr S w w'' :=
  ⟨k.os.trans h.os, k.tape.trans h.tape, k.output.trans h.output, Nat.le_trans h.size k.size, fun i hi hS => (k.block i (Nat.lt_of_lt_of_le hi h.size) (fun e => by rcases hb i e.symm with h1 | h1; exact hS h1; omega)).trans (h.block i hi hS)⟩
theorem Fr.nil {w w' : World} (h : Fr [] w w') : Below w.heap.size w w' := ⟨h.os, h.tape, h.output, h.size, fun k hk => h.block k hk (by simp)⟩
theorem Rows.fr {S : List Nat} {w w' : World} {hs : List Hd} {p : List (List UInt8)} (h : Rows w hs p) (hf : Fr S w w') (hn : ∀ b ∈ S, NoB w b) : Rows w' hs p := by
  refine ⟨h.1, fun i x r h1 h2 => ?_⟩
  obtain ⟨s, k⟩ := h.2 i x r h1 h2
  have hbl : ∀ q, x.1 = some q → w'.heap[q.block]? = w.heap[q.block]? := fun q hq => by
    obtain ⟨C, z, hc⟩ := k q hq
    exact hf.block q.block (Array.getElem?_eq_some_iff.1 hc).1 (fun hS => hn _ hS C z hc)
  refine ⟨⟨s.len, s.le, s.cap, s.nil, fun q hq j u hj => ?_⟩, fun q hq => ?_⟩
  · have h3 := s.cell q hq j u hj
    have hq2 : (q.add j).block = q.block := by unfold Addr.add; split <;> rfl
    have hq3 : w'.cell? (q.add j) = w.cell? (q.add j) := World.cell?_of_block (by rw [hq2]; exact hbl q hq)
    rw [hq3]
    exact h3
  · obtain ⟨C, z, hc⟩ := k q hq
    exact ⟨C, z, by rw [hbl q hq]; exact hc⟩
/-- an end, its parts named -/
structure EndM (w : World) (p : Nat) (a : Option Addr) (c : Nat) (hs : List Hd) (m : Nat) (ms : List (Nat × Hd)) (e : En) : Prop where
  box : Box w p 65 [.int .i64 (e.win : Int), V64 e.key, .slice a e.wait.length c, .int .i64 (e.acked : Int), .int .i64 (e.del : Int), .map (some m), .bool e.ow, .int .i64 (e.forged : Int)]
  top : Own w 0 33 1 a e.wait.length c (hs.map hv)
  row : Rows w hs e.wait
  mp : IMap w m (ms.map fun x => ((x.1 : Int), hv x.2))
  key : ms.map (·.1) = e.held.map (·.1)
  rows : Rows w (ms.map (·.2)) (e.held.map (·.2))
/-- an end: its box, its rows' block, its map's block -/
def EndAt (w : World) (p : Nat) (g : Option Nat) (m : Nat) (e : En) : Prop := ∃ a c hs ms, EndM w p a c hs m ms e ∧ a.map (·.block) = g
def foot (p : Nat) (g : Option Nat) (m : Nat) : List Nat := p :: m :: g.toList
theorem EndM.nob {w : World} {p : Nat} {a : Option Addr} {c : Nat} {hs : List Hd} {m : Nat} {ms : List (Nat × Hd)} {e : En} (h : EndM w p a c hs m ms e) : ∀ b ∈ foot p (a.map (·.block)) m, NoB w b := by
  intro b hb
  unfold foot at hb
  rcases List.mem_cons.1 hb with rfl | hb
  · exact NoB.box h.box (by decide)
  · rcases List.mem_cons.1 hb with rfl | hb
    · exact NoB.map h.mp
    · have ht := h.top
      cases a with
      | none => cases hb
      | some q =>
        simp at hb
        subst hb
        exact NoB.own ht (by decide)
theorem EndM.lt {w : World} {p : Nat} {a : Option Addr} {c : Nat} {hs : List Hd} {m : Nat} {ms : List (Nat × Hd)} {e : En} (h : EndM w p a c hs m ms e) : ∀ b ∈ foot p (a.map (·.block)) m, b < w.heap.size := by
  intro b hb
  unfold foot at hb
  rcases List.mem_cons.1 hb with rfl | hb
  · exact h.box.lt
  · rcases List.mem_cons.1 hb with rfl | hb
    · exact h.mp.lt
    · cases a with
      | none => cases hb
      | some q =>
        simp at hb
        subst hb
        exact (World.ownsRow.lt h.top _ rfl).2
theorem own_same {w w' : World} {B : Nat} {t : TypeId} {sz : Nat} {a : Option Addr} {n c : Nat} {cs : List Value} (h : Own w B t sz a n c cs) (hb : ∀ q, a = some q → w'.heap[q.block]? = w.heap[q.block]?) : Own w' B t sz a n c cs := by
  refine ⟨h.1, ?_⟩
  rcases h.2 with h2 | ⟨g, cap, cur, h1, h2, h3, h4⟩
  · exact .inl h2
  · injection h1 with h5 h6 h7
    exact .inr ⟨g, cap, cur, by rw [h5, h7], h2, (hb _ h5).trans h3, h4⟩
theorem EndAt.fr {w w' : World} {p : Nat} {g : Option Nat} {m : Nat} {e : En} {S : List Nat} (h : EndAt w p g m e) (hf : Fr S w w') (hn : ∀ b ∈ S, NoB w b) (hd : ∀ b ∈ foot p g m, b ∉ S) : EndAt w' p g m e := by
  obtain ⟨a, c, hs, ms, h, rfl⟩ := h
  have key : ∀ b ∈ foot p (a.map (·.block)) m, w'.heap[b]? = w.heap[b]? := fun b hb => hf.block b (h.lt b hb) (hd b hb)
  have kp := key p (by simp [foot])
  have km := key m (by simp [foot])
  refine ⟨a, c, hs, ms, ⟨?_, ?_, h.row.fr hf hn, h.mp.same km, h.key, h.rows.fr hf hn⟩, rfl⟩
  · have := h.box
    unfold Box at this ⊢
    rw [kp]
    exact this
  · exact own_same h.top fun q hq => key q.block (by rw [hq]; simp [foot])
theorem EndAt.below {w w' : World} {p : Nat} {g : Option Nat} {m : Nat} {e : En} (h : EndAt w p g m e) (hb : Below w.heap.size w w') : EndAt w' p g m e := h.fr (S := []) (Fr.of hb) (by simp) (by simp)
theorem size_end : (Try.prog.info? 65).map (·.size) = some 8 := by kernel_rfl
set_option maxRecDepth 100000 in
theorem lk_New (n : Int) (key : UInt64) (w : World) (h1 : 1 ≤ n) (h2 : n ≤ 16) :
    Calls Try.prog 28 #[.int .i64 n, V64 key] w fun e w' => ∃ p m, e = .returned (.tuple #[.pointer (some ⟨p, 0, none⟩), .int .i64 0]) ∧ EndAt w' p none m (newE n.toNat key) ∧ (∀ b ∈ foot p none m, w.heap.size ≤ b) ∧ Below w.heap.size w w' := by
  obtain ⟨k, rfl⟩ : ∃ k : Nat, n = k := ⟨n.toNat, by omega⟩
  rw [Int.toNat_natCast]
  have d1 : decide ((k : Int) < 1) = false := decide_eq_false (by omega)
  have d2 : decide ((16 : Int) < (k : Int)) = false := decide_eq_false (by omega)
  clear h1 h2
  have hx := hide (Box.new (w.alloc (.map #[] 0)) 65 #[.int .i64 (k : Int), V64 key, .slice none 0 0, .int .i64 0, .int .i64 0, .map (some w.heap.size), .bool false, .int .i64 0])
  have hm := hide ((IMap.new w).under (sblo (w.alloc (.map #[] 0)) (.cells #[.int .i64 (k : Int), V64 key, .slice none 0 0, .int .i64 0, .int .i64 0, .map (some w.heap.size), .bool false, .int .i64 0] 65)))
  go_enter Try.func28, Try.ntmps28
  have hmm := @run_makeMap Try.prog
  go_wp2_with fail
  go_ret2
  refine ⟨w.heap.size + 1, rfl, w.heap.size, ⟨none, 0, [], [], ⟨?_, Own.nil _ _ _ _, Rows.nil _, ?_, rfl, Rows.nil _⟩, rfl⟩, ?_, ?_⟩
  · have h := hx.out
    simpa [newE] using h
  · exact hm.out
  · intro b hb
    simp [foot] at hb
    omega
  · exact blo3 (sblo w _) (Nat.le_refl _) _
theorem lk_New_bad (n : Int) (key : UInt64) (w : World) (h : n < 1 ∨ 16 < n) :
    Calls Try.prog 28 #[.int .i64 n, V64 key] w fun e w' => e = .returned (.tuple #[.pointer none, .int .i64 1]) ∧ w' = w := by
  by_cases h1 : n < 1
  · have d1 : decide (n < 1) = true := decide_eq_true h1
    clear h h1
    go_enter Try.func28, Try.ntmps28
    go_wp2_with fail
    go_ret2
    exact ⟨rfl, rfl⟩
  · have d1 : decide (n < 1) = false := decide_eq_false h1
    have d2 : decide (16 < n) = true := decide_eq_true (by omega)
    clear h h1
    go_enter Try.func28, Try.ntmps28
    go_wp2_with fail
    go_ret2
    exact ⟨rfl, rfl⟩
end Go.Proofs.Ytjdnmbapmobaaaa
end

/- the text Free2 -/
section
/- A region that draws its order, in whose head one operation (an append, a store) changes what lies there: TP. What it waits for (TE) comes before it; what may come at any time (TL) leaves the world as it is. No program in sight. -/
set_option linter.unusedVariables false
namespace Go.Dx
open Go.RowKit

theorem grown_of_below {w w' : World} (h : Below w.heap.size w w') (row : Option Nat) : w.grownBy w' row := ⟨h.os, h.tape, h.output, h.size, fun k hk _ => h.block k hk⟩
theorem grown_trans {a b c : World} {row : Option Nat} (h : a.grownBy b row) (k : b.grownBy c row) : a.grownBy c row :=
  ⟨k.os.trans h.os, k.tape.trans h.tape, k.output.trans h.output, Nat.le_trans h.size k.size, fun i hi hr => (k.block i (Nat.lt_of_lt_of_le hi h.size) hr).trans (h.block i hi hr)⟩
/-- what an operation leaves that does not touch the world -/
def OneStill (d : Nat) (a : Act) (w : World) (R : Value → World → Prop) (e : Exit) (a' : Act) (w' : World) : Prop := e = .normal ∧ ∃ v, a' = a.put (some d) v ∧ w' = w ∧ R v w'
def OneTurn (d : Nat) (a : Act) (R : Value → World → Prop) (e : Exit) (a' : Act) (w' : World) : Prop := e = .normal ∧ ∃ v, a' = a.put (some d) v ∧ R v w'

structure MidInv (l : List Oper) (n p : Nat) (T : List HOp) (a0 : Act) (w0 : World) (G : World → Prop) (listed : Array Bool) (a : Act) (w : World) : Prop where
  inv : HeadInv .any l.toArray n listed
  defers : a.defers = a0.defers
  size : a.tmps.size = a0.tmps.size
  frame : ∀ k, (∀ t ∈ T, t.d ≠ k) → a.tmps.getD k undef = a0.tmps.getD k undef
  pre : listed.getD p false = false → Below w0.heap.size w0 w
  post : listed.getD p false = true → G w
  facts : ∀ t ∈ T, listed.getD t.i false = true → t.fact a w

section
variable {P : Program}
theorem wp_region_mid {id : Nat} {Q : Exit → Act → World → Prop} {a0 : Act} {w0 : World} {l : List Oper} (n : Nat) (L G : World → Prop) (TP : HOp) (TE TL : List HOp) (hm : P.follows .mixedOrders = true)
    (hB : (headOk l n ((TP :: (TE ++ TL)).map fun t => (t.i, t.d, t.s)) a0.tmps.size && (TE.all fun t => Region.waitsFor .any l.toArray TP.i t.i && t.i != TP.i)) = true)
    (hL1 : ∀ w, Below w0.heap.size w0 w → L w) (hL2 : ∀ w, G w → L w)
    (hmono : All (fun t : HOp => ∀ vs w w', Below w.heap.size w w' → t.p vs w → t.p vs w') (TE ++ TL))
    (hopP : ∀ o, l[TP.i]? = some o → ∀ (a : Act) (w : World), Below w0.heap.size w0 w →
      (∀ k, ((TP :: (TE ++ TL)).map (·.d)).contains k = false → a.tmps.getD k undef = a0.tmps.getD k undef) →
      (∀ (k : Nat) (u : HOp), (TP :: (TE ++ TL))[k]? = some u → Region.waitsFor .any l.toArray TP.i u.i = true → u.p (u.s.map fun k => a.tmps.getD k undef) w) →
      wpList P l.toArray (OneTurn TP.d a fun v w' => TP.p (TP.s.map fun k => if TP.d = k then v else a.tmps.getD k undef) w' ∧ G w' ∧ All (fun u : HOp => ∀ vs, u.p vs w → u.p vs w') (TE ++ TL)) [o] a w)
    (hopE : All (fun t : HOp => ∀ o, l[t.i]? = some o → ∀ (a : Act) (w : World), Below w0.heap.size w0 w →
      (∀ k, ((TP :: (TE ++ TL)).map (·.d)).contains k = false → a.tmps.getD k undef = a0.tmps.getD k undef) →
      (∀ (k : Nat) (u : HOp), (TP :: (TE ++ TL))[k]? = some u → Region.waitsFor .any l.toArray t.i u.i = true → u.p (u.s.map fun k => a.tmps.getD k undef) w) →
      wpList P l.toArray (OneDone t.d a w fun v w' => t.p (t.s.map fun k => if t.d = k then v else a.tmps.getD k undef) w') [o] a w) TE)
    (hopL : All (fun t : HOp => ∀ o, l[t.i]? = some o → ∀ (a : Act) (w : World), L w →
      (∀ k, ((TP :: (TE ++ TL)).map (·.d)).contains k = false → a.tmps.getD k undef = a0.tmps.getD k undef) →
      (∀ (k : Nat) (u : HOp), (TP :: (TE ++ TL))[k]? = some u → Region.waitsFor .any l.toArray t.i u.i = true → u.p (u.s.map fun k => a.tmps.getD k undef) w) →
      wpList P l.toArray (OneStill t.d a w fun v w' => t.p (t.s.map fun k => if t.d = k then v else a.tmps.getD k undef) w') [o] a w) TL)
    (hend : ∀ (g : Nat → Value) (w : World), G w → (∀ (k : Nat) (u : HOp), (TP :: (TE ++ TL))[k]? = some u → u.p (u.s.map fun k => if k ∈ (TP :: (TE ++ TL)).map (·.d) then g k else a0.tmps.getD k undef) w) →
      wpList P l.toArray Q (l.drop n) (putAll a0 (((TP :: (TE ++ TL)).map (·.d)).map fun d => (d, g d))) w) : (Code.region id l.toArray true).wp P Q a0 w0 := by
  obtain ⟨T, hTdef⟩ : ∃ T, TP :: (TE ++ TL) = T := ⟨_, rfl⟩
  have memP : TP ∈ T := by rw [← hTdef]; exact List.mem_cons_self
  have split : ∀ t ∈ T, t = TP ∨ t ∈ TE ∨ t ∈ TL := by
    intro t ht
    rw [← hTdef] at ht
    rcases List.mem_cons.1 ht with h | h
    · exact .inl h
    · exact .inr (List.mem_append.1 h)
  have rest : ∀ t ∈ T, t ≠ TP → t ∈ TE ++ TL := by
    intro t ht hne
    rw [← hTdef] at ht
    rcases List.mem_cons.1 ht with h | h
    · exact absurd h hne
    · exact h
  rw [hTdef] at hB hopP hopE hopL hend
  rw [Bool.and_eq_true] at hB
  obtain ⟨hB, hE⟩ := hB
  have hE1 : ∀ t ∈ TE, Region.waitsFor .any l.toArray TP.i t.i = true ∧ t.i ≠ TP.i := by
    intro t ht
    have := List.all_eq_true.1 hE t ht
    simpa using this
  simp only [headOk, Bool.and_eq_true, decide_eq_true_eq] at hB
  obtain ⟨⟨⟨⟨⟨⟨⟨hnd, hn⟩, hs⟩, hc⟩, hseq⟩, hcov⟩, hT⟩, hpair⟩ := hB
  have hnodup : ∀ t ∈ T, ∀ u ∈ T, t.i = u.i → t = u := inj_nodup (·.i) T (by rw [List.map_map] at hnd; exact hnd)
  have hn' : n < l.toArray.size := by simpa using hn
  have cover : ∀ j, j < n → ∃ t ∈ T, t.i = j := by
    intro j hj
    have h := List.all_eq_true.1 hcov j (List.mem_range.2 hj)
    obtain ⟨x, hx, he⟩ := List.any_eq_true.1 h
    obtain ⟨t, ht, rfl⟩ := List.mem_map.1 hx
    exact ⟨t, ht, by simpa using he⟩
  have own : ∀ t ∈ T, t.i < n ∧ t.d < a0.tmps.size ∧ ∃ o, l[t.i]? = some o ∧ o.dst = some t.d ∧ ∀ e ∈ o.after, Region.binds .any e = true → e.on < t.i := by
    intro t ht
    have h := List.all_eq_true.1 hT _ (List.mem_map.2 ⟨t, ht, rfl⟩)
    simp only [Bool.and_eq_true, decide_eq_true_eq] at h
    obtain ⟨⟨h1, h2⟩, h3⟩ := h
    refine ⟨h1, h2, ?_⟩
    cases ho : l[t.i]? with
    | none => rw [ho] at h3; cases h3
    | some o =>
      rw [ho] at h3
      simp only [Bool.and_eq_true, beq_iff_eq] at h3
      refine ⟨o, rfl, h3.1, fun e he hb => ?_⟩
      have := Array.all_eq_true_iff_forall_mem.1 h3.2 e he
      simpa [hb] using this
  have pair : ∀ t ∈ T, ∀ u ∈ T, t.i ≠ u.i → t.d ≠ u.d ∧ (t.d ∈ u.s → Region.waitsFor .any l.toArray u.i t.i = true) := by
    intro t ht u hu hne
    have h := List.all_eq_true.1 (List.all_eq_true.1 hpair _ (List.mem_map.2 ⟨t, ht, rfl⟩)) _ (List.mem_map.2 ⟨u, hu, rfl⟩)
    simp only [Bool.or_eq_true, beq_iff_eq, hne, false_or, Bool.and_eq_true, bne_iff_ne, ne_eq, Bool.not_eq_true'] at h
    refine ⟨h.1, fun hin => ?_⟩
    rcases h.2 with h2 | h2
    · have : u.s.contains t.d = true := by simpa using hin
      rw [this] at h2; cases h2
    · exact h2
  have key : ∀ (f : Nat) (listed : Array Bool) (a : Act) (w : World), MidInv l n TP.i T a0 w0 G listed a w → todo listed n = f → wpAny P .any l.toArray Q (f + (l.length - n)) listed a w := by
    intro f
    induction f with
    | zero =>
      intro listed a w I h0
      have hall : ∀ j, j < n → listed.getD j true = true := by
        intro j hj
        cases hb : listed.getD j true with
        | true => rfl
        | false =>
          have : j ∈ (List.range n).filter fun j => !listed.getD j true := List.mem_filter.2 ⟨List.mem_range.2 hj, by rw [hb]; rfl⟩
          unfold todo at h0
          rw [List.eq_nil_of_length_eq_zero h0] at this
          cases this
      have hlist : listed = (List.replicate n true ++ List.replicate (l.length - n) false).toArray := by
        have hsz := I.inv.size
        apply Array.ext
        · simp at hsz ⊢; omega
        · intro j h1 h2
          by_cases hj : j < n
          · have := hall j hj
            simp [Array.getD, h1] at this
            simp [this, List.getElem_append_left, hj]
          · have := I.inv.tail j (by omega) (by rw [← hsz]; exact h1)
            simp [Array.getD, h1] at this
            simp only [this, List.getElem_toArray]
            rw [List.getElem_append_right (by simp; omega)]
            simp
      have ha : a = putAll a0 ((T.map (·.d)).map fun d => (d, a.tmps.getD d undef)) := by
        have hd : ∀ d ∈ T.map (·.d), d < a0.tmps.size := by
          intro d hd
          obtain ⟨t, ht, rfl⟩ := List.mem_map.1 hd
          exact (own t ht).2.1
        refine act_ext (by rw [putAll_defers]; exact I.defers) (by rw [putAll_size]; exact I.size) (fun k => ?_)
        rw [putAll_get (fun d => a.tmps.getD d undef) _ _ _ hd]
        by_cases h : k ∈ T.map (·.d)
        · rw [if_pos h]
        · rw [if_neg h]
          exact I.frame k (fun t ht e => h (List.mem_map.2 ⟨t, ht, e⟩))
      have hlp : listed.getD TP.i false = true := by
        have := hall TP.i (own TP memP).1
        rcases Nat.lt_or_ge TP.i listed.size with h' | h'
        · simp [h'] at this ⊢; exact this
        · have := I.inv.size; have := (own TP memP).1; omega
      have hfin := hend (fun d => a.tmps.getD d undef) w (I.post hlp) (fun k u hu => by
        have hu' := List.mem_of_getElem? hu
        have h1 := I.facts u hu' (by
          have := hall u.i (own u hu').1
          rcases Nat.lt_or_ge u.i listed.size with h' | h'
          · simp [h'] at this ⊢; exact this
          · have := I.inv.size; have := (own u hu').1; omega)
        unfold HOp.fact at h1
        have e : (u.s.map fun k => if k ∈ T.map (·.d) then a.tmps.getD k undef else a0.tmps.getD k undef) = u.s.map fun k => a.tmps.getD k undef := by
          apply List.map_congr_left
          intro k _
          by_cases h : k ∈ T.map (·.d)
          · rw [if_pos h]
          · rw [if_neg h]
            exact (I.frame k (fun t ht e => h (List.mem_map.2 ⟨t, ht, e⟩))).symm
        rw [e]
        exact h1)
      rw [← ha] at hfin
      rw [Nat.zero_add]
      have hseq' : Region.seqB .any l.toArray (l.drop n).length n listed = true := by rw [hlist, List.length_drop]; exact hseq
      have := wpAny_of_seq (md := .any) (Q' := Q) (l.drop n) n listed a w (fun j => by simp [List.getElem?_drop]) hseq' hfin
      rwa [List.length_drop] at this
    | succ f ih =>
      intro listed a w I hf
      have hex : ∃ j, j < n ∧ listed.getD j true = false := by
        cases hL : (List.range n).filter fun j => !listed.getD j true with
        | nil => unfold todo at hf; rw [hL] at hf; cases hf
        | cons j L =>
          have : j ∈ (List.range n).filter fun j => !listed.getD j true := by rw [hL]; exact List.mem_cons_self
          obtain ⟨h1, h2⟩ := List.mem_filter.1 this
          exact ⟨j, List.mem_range.1 h1, by simpa using h2⟩
      have hready : Region.ready .any l.toArray listed ≠ [] := by
        have hmin : ∀ m j, j ≤ m → j < n → listed.getD j true = false → ∃ i, i ∈ Region.ready .any l.toArray listed := by
          intro m
          induction m with
          | zero =>
            intro j hj hjn hjl
            have hj0 : j = 0 := by omega
            subst hj0
            obtain ⟨t, ht, hti⟩ := cover 0 hjn
            obtain ⟨_, _, o, ho, _, hb⟩ := own t ht
            rw [hti] at ho hb
            exact ⟨0, mem_ready.2 ⟨hjl, o, by simpa using ho, fun e he hbe => absurd (hb e he hbe) (by omega)⟩⟩
          | succ m ihm =>
            intro j hj hjn hjl
            obtain ⟨t, ht, hti⟩ := cover j hjn
            obtain ⟨_, _, o, ho, _, hb⟩ := own t ht
            rw [hti] at ho hb
            by_cases hall : ∀ e ∈ o.after, Region.binds .any e = true → listed.getD e.on false = true
            · exact ⟨j, mem_ready.2 ⟨hjl, o, by simpa using ho, hall⟩⟩
            · simp only [Classical.not_forall] at hall
              obtain ⟨e, he, hbe, hne⟩ := hall
              have hlt := hb e he hbe
              have hes : e.on < listed.size := by rw [I.inv.size]; simp; omega
              exact ihm e.on (by omega) (by omega) (getD_in hes (by simpa using hne))
        obtain ⟨j, hj, hjl⟩ := hex
        obtain ⟨i, hi⟩ := hmin j j (Nat.le_refl _) hj hjl
        intro h
        rw [h] at hi
        cases hi
      rw [show f + 1 + (l.length - n) = (f + (l.length - n)) + 1 by omega]
      refine ⟨fun h => absurd h hready, fun i hi => ?_⟩
      have hin : i < n := by
        rcases Nat.lt_or_ge i n with h | h
        · exact h
        · obtain ⟨j, hj, hjl⟩ := hex
          exact absurd hi (tail_waits hs hc hn' I.inv _ j rfl hj hjl i h)
      obtain ⟨t, ht, hti⟩ := cover i hin
      obtain ⟨_, htd, o, ho, hdst, _⟩ := own t ht
      obtain ⟨hil, oi, hoi, hafter⟩ := mem_ready.1 hi
      have hoo : oi = o := by rw [hti] at ho; exact Option.some.inj (hoi.symm.trans (by simpa using ho))
      subst hoo
      have hframe : ∀ k, (T.map (·.d)).contains k = false → a.tmps.getD k undef = a0.tmps.getD k undef := fun k hk => I.frame k (fun u hu e => by
          have : (T.map (·.d)).contains k = true := by simpa using ⟨u, hu, e⟩
          rw [this] at hk; cases hk)
      have hfacts : ∀ (k : Nat) (u : HOp), T[k]? = some u → Region.waitsFor .any l.toArray t.i u.i = true → u.p (u.s.map fun k => a.tmps.getD k undef) w := fun k u hu hw => by
        have hu' := List.mem_of_getElem? hu
        obtain ⟨oj, hoj, e, he, hb, hon⟩ := Region.waitsFor_spec hw
        have : oj = oi := by rw [hti] at hoj; exact Option.some.inj (hoj.symm.trans hoi)
        subst this
        have h1 := hafter e he hb
        rw [hon] at h1
        exact I.facts u hu' h1
      have step0 : ∀ (v : Value) (w' : World), (t.i ≠ TP.i → (listed.getD TP.i false = false → Below w0.heap.size w0 w') ∧ (listed.getD TP.i false = true → G w')) → (t.i = TP.i → G w') →
          (∀ u ∈ T, u ≠ t → listed.getD u.i false = true → ∀ vs, u.p vs w → u.p vs w') → t.p (t.s.map fun k => if t.d = k then v else a.tmps.getD k undef) w' → wpAny P .any l.toArray Q (f + (l.length - n)) (listed.setIfInBounds i true) (a.put (some t.d) v) w' := by
        intro v w' hph hG hsurv hp
        refine ih _ _ _ ⟨I.inv.set hi hin, I.defers, ?_, ?_, ?_, ?_, ?_⟩ ?_
        · rw [← I.size]; simp [Act.put]
        · intro k hk
          rw [put_get, if_neg (fun h => hk t ht h.1)]
          exact I.frame k hk
        · intro hl
          by_cases hip : t.i = TP.i
          · exfalso
            rw [← hip, hti] at hl
            have hlt : i < listed.size := by rw [I.inv.size]; omega
            simp [hlt] at hl
          · rw [getD_set_ne false (by rw [← hti]; exact hip)] at hl
            exact (hph hip).1 hl
        · intro hl
          by_cases hip : t.i = TP.i
          · exact hG hip
          · rw [getD_set_ne false (by rw [← hti]; exact hip)] at hl
            exact (hph hip).2 hl
        · intro u hu hul
          by_cases hui : t.i = u.i
          · unfold HOp.fact
            by_cases hut : u = t
            · subst hut
              have e : (u.s.map fun k => (a.put (some u.d) v).tmps.getD k undef) = u.s.map fun k => if u.d = k then v else a.tmps.getD k undef := by
                apply List.map_congr_left
                intro k _
                rw [put_get, I.size]
                by_cases hk : u.d = k
                · rw [if_pos ⟨hk, htd⟩, if_pos hk]
                · rw [if_neg (fun h => hk h.1), if_neg hk]
              rw [e]
              exact hp
            · exact absurd (hnodup t ht u hu hui).symm hut
          · unfold HOp.fact
            have hul2 : listed.getD u.i false = true := by rw [← getD_set_ne false (i := i) (j := u.i) (by rw [← hti]; exact hui)]; exact hul
            have h1 := hsurv u hu (fun e => hui (by rw [e])) hul2 _ (I.facts u hu hul2)
            have hnot : t.d ∉ u.s := by
              intro hin2
              have hw := (pair t ht u hu hui).2 hin2
              obtain ⟨ou, hou, e, he, hb, hon⟩ := Region.waitsFor_spec hw
              have := I.inv.closed u.i ou hou hul2 e he hb
              rw [hon, hti, getD_both hil] at this
              cases this
            have e : (u.s.map fun k => (a.put (some t.d) v).tmps.getD k undef) = u.s.map fun k => a.tmps.getD k undef := by
              apply List.map_congr_left
              intro k hk
              rw [put_get, if_neg (fun (h : t.d = k ∧ t.d < a.tmps.size) => hnot (by rw [h.1]; exact hk))]
            rw [e]
            exact h1
        · have := todo_set hin hil; omega
      have fin : ∀ (R : Exit → Act → World → Prop), (∀ e a' w', R e a' w' → e = .normal) → (∀ a' w', R .normal a' w' → wpAny P .any l.toArray Q (f + (l.length - n)) (listed.setIfInBounds i true) a' w') → wpList P l.toArray R [oi] a w → wpOp P l.toArray Q i (fun a' w' => wpAny P .any l.toArray Q (f + (l.length - n)) (listed.setIfInBounds i true) a' w') a w := by
        intro R hR step H
        unfold wpList at H
        unfold wpOp
        rw [hoi]
        simp only
        by_cases hwant : Region.wanted oi (yielded l.toArray a.tmps) = true
        · rw [if_pos hwant] at H
          rw [if_pos hwant]
          left
          rcases H with H | ⟨_, a1, w1, h1⟩
          · exact wp_both (fun a' w' h => step a' w' h) (fun e a' w' he h => absurd (hR _ _ _ h) he) H
          · exact absurd (hR _ _ _ h1) (by simp)
        · rw [if_neg hwant] at H
          rw [if_neg hwant]
          exact step _ _ H
      have prep : t.i = TP.i ∨ t ∈ TE → listed.getD TP.i false = false := by
        intro h
        rcases h with h | h
        · rw [h] at hti
          rw [hti]
          exact getD_both hil
        · cases hlp : listed.getD TP.i false with
          | false => rfl
          | true =>
            obtain ⟨hw, _⟩ := hE1 t h
            obtain ⟨ou, hou, e, he, hb, hon⟩ := Region.waitsFor_spec hw
            have := I.inv.closed TP.i ou hou hlp e he hb
            rw [hon, hti, getD_both hil] at this
            cases this
      by_cases htP : t = TP
      · subst htP
        have hpre := prep (.inl rfl)
        refine fin _ ?_ ?_ (hopP oi ho a w (I.pre hpre) hframe hfacts)
        · exact fun e a' w' h => h.1
        · rintro a' w' ⟨_, v, rfl, hp, hG, hS⟩
          refine step0 v w' (fun h => absurd rfl h) (fun _ => hG) (fun u hu hne _ => hS.mem u (rest u hu hne)) hp
      · have hipP : t.i ≠ TP.i := fun h => htP (hnodup t ht TP memP h)
        rcases split t ht with h | h | h
        · exact absurd h htP
        · have hpre := prep (.inr h)
          refine fin _ ?_ ?_ (hopE.mem t h oi ho a w (I.pre hpre) hframe hfacts)
          · exact fun e a' w' h => h.1
          · rintro a' w' ⟨_, v, rfl, hbel, hp⟩
            refine step0 v w' (fun _ => ⟨fun _ => (I.pre hpre).trans (hbel.mono (I.pre hpre).size), fun h => by rw [hpre] at h; cases h⟩) (fun h => absurd h hipP) (fun u hu hne hul => ?_) hp
            have huP : u ≠ TP := fun e => by rw [e, hpre] at hul; cases hul
            exact fun vs hv => hmono.mem u (rest u hu huP) vs w w' hbel hv
        · have hLw : L w := by
            cases hlp : listed.getD TP.i false with
            | false => exact hL1 w (I.pre hlp)
            | true => exact hL2 w (I.post hlp)
          refine fin _ ?_ ?_ (hopL.mem t h oi ho a w hLw hframe hfacts)
          · exact fun e a' w' h => h.1
          · rintro a' w' ⟨_, v, rfl, rfl, hp⟩
            exact step0 v _ (fun _ => ⟨I.pre, I.post⟩) (fun h => absurd h hipP) (fun u hu hne hul vs hv => hv) hp
  refine wp_region_any hm ?_
  have inv0 : HeadInv .any l.toArray n (Array.replicate l.toArray.size false) :=
    ⟨by simp, fun j oj _ hl => (by rw [getD_replicate_false] at hl; cases hl), fun t _ ht => getD_in (by simpa using ht) (getD_replicate_false _ _)⟩
  have I0 : MidInv l n TP.i T a0 w0 G (Array.replicate l.toArray.size false) a0 { w0 with drawn := w0.drawn + 1 } :=
    ⟨inv0, rfl, rfl, fun _ _ => rfl, fun _ => Still.below 1, fun hl => (by rw [getD_replicate_false] at hl; cases hl), fun t _ hl => (by rw [getD_replicate_false] at hl; cases hl)⟩
  have ht0 : todo (Array.replicate l.toArray.size false) n = n := by
    unfold todo
    rw [List.filter_eq_self.2 (fun j hj => by
      have hj' := List.mem_range.1 hj
      have : (Array.replicate l.toArray.size false).getD j true = false := getD_in (by simp; omega) (getD_replicate_false _ _)
      rw [this]; rfl), List.length_range]
  have := key n _ _ _ I0 ht0
  rwa [show n + (l.length - n) = l.toArray.size by simp; omega] at this
end
end Go.Dx
end

/- the text K9 -/
section
/- Chapter 37: Send, Waiting, Forged. -/
set_option linter.unusedVariables false
namespace Go.Proofs.Ytjdnmbapmobaaaa
open Go.RowKit Go.Dx Go.Al
theorem info_rw : (Try.prog.info? 33).map (fun i => (i.zero, i.size, i.bytes)) = some (some (.slice none 0 0), 1, 24) := by kernel_rfl
theorem size_sl : (Try.prog.info? 28).map (·.size) = some 1 := by kernel_rfl
theorem own_kindB {w : World} {B : Nat} {n c : Nat} {a : Option Addr} {cs : List Value} (h : Own w B 5 1 a n c cs) : Kind w a := fun q hq => by
  subst hq
  rcases h.2 with ⟨h1, _⟩ | ⟨g, cap, cur, h1, _, h3, _⟩
  · cases h1
  · injection h1 with h1
    injection h1 with h1
    subst h1
    exact ⟨_, _, h3⟩
theorem EndM.below {w w' : World} {p : Nat} {a : Option Addr} {c : Nat} {hs : List Hd} {m : Nat} {ms : List (Nat × Hd)} {e : En} (h : EndM w p a c hs m ms e) (hb : Below w.heap.size w w') : EndM w' p a c hs m ms e :=
  ⟨h.box.under hb, h.top.below hb, h.row.below hb, h.mp.under hb, h.key, h.rows.below hb⟩
theorem EndM.ne_ap {w : World} {p : Nat} {a : Option Addr} {c : Nat} {hs : List Hd} {m : Nat} {ms : List (Nat × Hd)} {e : En} (h : EndM w p a c hs m ms e) : some p ≠ a.map (·.block) := by
  intro e0
  cases a with
  | none => cases e0
  | some q =>
    have hx : w.heap[p]? = some (.cells _ 65 (0, 0)) := h.box
    have e1 : p = q.block := by simpa using e0
    rw [e1] at hx
    exact kind_ne h.top hx (by decide) rfl
theorem EndM.ne_am {w : World} {p : Nat} {a : Option Addr} {c : Nat} {hs : List Hd} {m : Nat} {ms : List (Nat × Hd)} {e : En} (h : EndM w p a c hs m ms e) : some m ≠ a.map (·.block) := by
  intro e0
  cases a with
  | none => cases e0
  | some q =>
    obtain ⟨es, clock, hm, _⟩ := h.mp.ex
    have e1 : m = q.block := by simpa using e0
    rcases h.top.2 with ⟨h1, _⟩ | ⟨g, cap, cur, h1, _, h3, _⟩
    · cases h1
    · injection h1 with h1
      injection h1 with h1
      subst h1
      simp only at e1
      rw [e1, h3] at hm
      cases hm
theorem EndM.ne_pm {w : World} {p : Nat} {a : Option Addr} {c : Nat} {hs : List Hd} {m : Nat} {ms : List (Nat × Hd)} {e : En} (h : EndM w p a c hs m ms e) : m ≠ p := by
  intro e0
  obtain ⟨es, clock, hm, _⟩ := h.mp.ex
  have hx : w.heap[p]? = some (.cells _ 65 (0, 0)) := h.box
  rw [← e0, hm] at hx
  cases hx
theorem EndM.nob_a {w : World} {p : Nat} {a : Option Addr} {c : Nat} {hs : List Hd} {m : Nat} {ms : List (Nat × Hd)} {e : En} (h : EndM w p a c hs m ms e) : ∀ b, a.map (·.block) = some b → NoB w b := fun b hb => h.nob b (by rw [hb]; simp [foot])
/-- waiting changes, then the box -/
theorem EndM.step {w w1 w2 : World} {p : Nat} {a a' : Option Addr} {c c' : Nat} {hs hs' : List Hd} {m : Nat} {ms : List (Nat × Hd)} {e e' : En} (h : EndM w p a c hs m ms e) (g1 : w.grownBy w1 (a.map (·.block)))
    (t : Own w1 0 33 1 a' e'.wait.length c' (hs'.map hv)) (hf : ∀ q, a' = some q → (∃ q', a = some q' ∧ q'.block = q.block) ∨ w.heap.size ≤ q.block) (r : Rows w1 hs' e'.wait) (hh : e'.held = e.held)
    (x : Box w2 p 65 [.int .i64 (e'.win : Int), V64 e'.key, .slice a' e'.wait.length c', .int .i64 (e'.acked : Int), .int .i64 (e'.del : Int), .map (some m), .bool e'.ow, .int .i64 (e'.forged : Int)]) (g2 : w1.grownBy w2 (some p)) : EndM w2 p a' c' hs' m ms e' := by
  have hx1 : NoB w1 p := NoB.box (h.box.grown g1 h.ne_ap) (by decide)
  have hn2 : ∀ b, some p = some b → NoB w1 b := fun b hb => by injection hb with hb; subst hb; exact hx1
  refine ⟨x, ?_, r.kept g2 hn2, (h.mp.grown g1 h.ne_am).grown g2 (fun e0 => h.ne_pm (by injection e0)), by rw [hh]; exact h.key, by rw [hh]; exact (h.rows.kept g1 h.nob_a).kept g2 hn2⟩
  refine own_same t fun q hq => ?_
  have hlt : q.block < w1.heap.size := (World.ownsRow.lt t _ (by rw [hq]; rfl)).2
  refine g2.block q.block hlt fun e0 => ?_
  injection e0 with e0
  rcases hf q hq with ⟨q', h1, h2⟩ | h2
  · exact h.ne_ap (by rw [h1, ← e0, ← h2]; rfl)
  · have := h.box.lt
    omega
theorem own_u8_kept {w w' : World} {row : Option Nat} {B n c : Nat} {a : Option Addr} {cs : List Value} (h : Own w B 5 1 a n c cs) (hg : w.grownBy w' row) (hn : ∀ b, row = some b → NoB w b) : Own w' B 5 1 a n c cs :=
  own_same h fun q hq => by
    obtain ⟨C, z, hc⟩ := own_kindB h q hq
    exact hg.block q.block (Array.getElem?_eq_some_iff.1 hc).1 (fun e => hn _ e.symm C z hc)
section
variable {w : World} {rest : List Oper} {ops : Array Oper} {o : Oper} {act : Act} {Q : Exit → Act → World → Prop}
/-- 'append(rows, x)' -/
theorem app_e (hg : o.guard = none) (s x : Operand) (hop : o.op = Op.call { callee := Callee.builtin Builtin.append, args := #[s, x], argTypes := #[28, 28] })
    (w0 : World) (B : Nat) (a : Option Addr) (n c : Nat) (hs : List Hd) (hes : act.eval s = .slice a n c) (hown : Own w B 33 1 a n c (hs.map hv))
    (y : Hd) (a2 : Option Addr) (c2 : Nat) (hx : act.eval x = .slice a2 1 c2) (hy : Sl w 1 a2 1 c2 [hv y]) (hn : n ≤ 1000000) (hB : B ≤ w.heap.size) (hbel : Below B w0 w)
    (hK : ∀ a' c' w', Own w' B 33 1 a' (n + 1) c' ((hs ++ [y]).map hv) → w.grownBy w' (a.map (·.block)) → (∀ p, a' = some p → (∃ q, a = some q ∧ q.block = p.block) ∨ w.heap.size ≤ p.block) → Below B w0 w' → wpList Try.prog ops Q rest (act.put o.dst (.slice a' (n + 1) c')) w') :
    wpList Try.prog ops Q (o :: rest) act w := by
  refine append_own_f hg s x 28 hop 33 (.slice none 0 0) 1 24 Try.underlying28 info_rw rfl w0 B a n c _ hes hown a2 1 c2 [hv y] hx hy (by simp [hv, Value.oneCell']) (by omega) (by unfold maxLen; omega) hB hbel ?_
  intro a' c' w' h1 h2 h3 h4
  exact hK a' c' w' (by rw [List.map_append]; exact h1) h2 h3 h4
end
theorem lk_Waiting (p : Nat) (g : Option Nat) (m : Nat) (e : En) (w : World) (h : EndAt w p g m e) :
    Calls Try.prog 21 #[.pointer (some ⟨p, 0, none⟩)] w fun r w' => r = .returned (.int .i64 (e.wait.length : Int)) ∧ w' = w := by
  obtain ⟨a, c, hs, ms, h, rfl⟩ := h
  have hc := h.box.at_ (j := 2) rfl
  generalize e.wait.length = k at *
  clear h
  go_enter Try.func21, Try.ntmps21
  go_wp2_with fail
  go_ret
  exact ⟨rfl, rfl⟩
theorem lk_Forged (p : Nat) (g : Option Nat) (m : Nat) (e : En) (w : World) (h : EndAt w p g m e) :
    Calls Try.prog 22 #[.pointer (some ⟨p, 0, none⟩)] w fun r w' => r = .returned (.int .i64 (e.forged : Int)) ∧ w' = w := by
  obtain ⟨a, c, hs, ms, h, rfl⟩ := h
  have hc := h.box.at_ (j := 7) rfl
  clear h
  go_enter Try.func22, Try.ntmps22
  go_wp2_with fail
  go_ret
  exact ⟨rfl, rfl⟩
set_option maxRecDepth 100000 in
set_option maxHeartbeats 2000000 in
theorem lk_SendM (p : Nat) (aw : Option Addr) (cw : Nat) (hs' : List Hd) (m : Nat) (ms : List (Nat × Hd)) (e : En) (b : List UInt8) (a : Option Addr) (n c : Nat) (w : World) (h : EndM w p aw cw hs' m ms e) (hs : Sl w 1 a n c (b.map B8)) (hwl : e.wait.length ≤ 100000) :
    Calls Try.prog 11 #[.pointer (some ⟨p, 0, none⟩), .slice a n c] w fun r w' => r = .returned (.int .i64 (sendE e b).2) ∧ ∃ a' c' hN, EndM w' p a' c' hN m ms (sendE e b).1 ∧ (∀ x ∈ hN, x ∈ hs' ∨ ∀ q, x.1 = some q → w.heap.size ≤ q.block) ∧ Fr (foot p (aw.map (·.block)) m) w w' ∧ ∀ x ∈ foot p (a'.map (·.block)) m, x ∈ foot p (aw.map (·.block)) m ∨ w.heap.size ≤ x := by
  obtain ⟨win, key, wait, acked, del, held, ow, forged⟩ := e
  have hn := hs.n_eq
  obtain ⟨k, hk⟩ : ∃ k, Hid (wait.length = k) := ⟨_, rfl⟩
  have hs0 := hide hs
  have h0 := hide h
  have hc2 := hide (h.box.at_ (j := 2) rfl)
  clear hs h
  have h := h0
  clear h0
  have hk2 : k ≤ 100000 := by rw [← hk.out]; exact hwl
  by_cases hb : b.length ≤ 65536 ∧ wait.length < 1000
  · have hZ : sendE ⟨win, key, wait, acked, del, held, ow, forged⟩ b = (⟨win, key, wait ++ [b], acked, del, held, ow, forged⟩, 0) := by unfold sendE; rw [if_pos hb]
    rw [hZ]
    have hk3 : k < 1000 := by rw [← hk.out]; exact hb.2
    have hn2 : n ≤ 65536 := by omega
    have d1 : decide ((65536 : Int) < (n : Int)) = false := decide_eq_false (by omega)
    have d2 : decide ((1000 : Int) ≤ (k : Int)) = false := decide_eq_false (by omega)
    clear hb hZ hwl hn
    have hc2' := hc2.out
    simp only [hk.out] at hc2'
    have hcc := hide hc2'
    go_enter Try.func11, Try.ntmps11
    go_wp2_with fail
    clear hc2 hc2'
    have hc2 := hcc
    clear hcc
    refine wp_region_mid 9 (fun _ => True) (fun _ => True) ⟨8, 24, [24], fun vs w' => ∃ w7 aB cB a8 c8, vs = [.slice a8 (k + 1) c8] ∧ Below w.heap.size w w7 ∧ Own w7 w.heap.size 5 1 aB n cB (b.map B8) ∧ w7.grownBy w' (aw.map (·.block)) ∧ Own w' 0 33 1 a8 (k + 1) c8 ((hs' ++ [(aB, n, cB)]).map hv) ∧ (∀ p, a8 = some p → (∃ q, aw = some q ∧ q.block = p.block) ∨ w7.heap.size ≤ p.block)⟩ [⟨4, 20, [20], fun vs _ => vs = [.slice aw k cw]⟩, ⟨6, 22, [22], fun vs w' => ∃ a' c', vs = [.slice a' n c'] ∧ Own w' w.heap.size 5 1 a' n c' (b.map B8)⟩, ⟨7, 23, [23], fun vs w' => ∃ gB a' c', vs = [.slice (some ⟨gB, 0, none⟩) 1 1] ∧ w.heap.size ≤ gB ∧ Sl w' 1 (some ⟨gB, 0, none⟩) 1 1 [.slice a' n c'] ∧ Own w' w.heap.size 5 1 a' n c' (b.map B8)⟩] [⟨0, 16, [16], fun vs _ => vs = [.pointer (some ⟨p, 0, none⟩)]⟩, ⟨1, 17, [17], fun vs _ => vs = [.pointer (some ⟨p, 0, none⟩)]⟩, ⟨2, 18, [18], fun vs _ => vs = [.pointer (some ⟨p, 0, none⟩)]⟩, ⟨3, 19, [19], fun vs _ => vs = [.pointer (some ⟨p, 2, none⟩)]⟩, ⟨5, 21, [21], fun vs _ => vs = [.slice a n c]⟩] (by kernel_rfl) (by kernel_rfl) ?_ ?_ ?_ ?_ ?_ ?_ ?_
    · exact fun _ _ => trivial
    · exact fun _ _ => trivial
    · simp only [All, List.cons_append, List.nil_append]
      refine ⟨fun _ _ _ _ h => h, ?_, ?_, fun _ _ _ _ h => h, fun _ _ _ _ h => h, fun _ _ _ _ h => h, fun _ _ _ _ h => h, fun _ _ _ _ h => h, trivial⟩
      · rintro vs w w' hb ⟨a', c', h1, h2⟩
        exact ⟨a', c', h1, h2.below hb⟩
      · rintro vs w w' hb ⟨gB, a', c', h1, h0, h2, h3⟩
        exact ⟨gB, a', c', h1, h0, h2.below hb, h3.below hb⟩
    · intro o ho a' w' hb hfr hdep
      obtain rfl := Option.some.inj ho
      have g20 : a'.tmps[20]?.getD undef = .slice aw k cw := by have h := hdep 1 _ rfl (by kernel_rfl); simpa using h
      obtain ⟨gB, aB, cB, g23, l23, s23, o23⟩ := hdep 3 _ rfl (by kernel_rfl)
      simp at g23
      clear ho hfr hdep
      have h7 := hide (h.out.below hb)
      have t7 := (h.out.below hb).top
      simp only [hk.out] at t7
      refine app_e rfl _ _ rfl w' 0 aw k cw hs' (by show a'.tmps.getD 20 undef = _; simpa using g20) t7 (aB, n, cB) (some ⟨gB, 0, none⟩) 1 (by show a'.tmps.getD 23 undef = _; simpa using g23) s23 (by omega) (Nat.zero_le _) (Below.refl _ _) ?_
      intro a8 c8 w8 ho8 hg8 hf8 hb8
      go_wp2_with fail
      refine ⟨rfl, _, rfl, ⟨w', aB, cB, a8, c8, rfl, hb, o23, hg8, by simpa using ho8, hf8⟩, ?_⟩
      simp only [All]
      refine ⟨fun _ h => h, ?_, ?_, fun _ h => h, fun _ h => h, fun _ h => h, fun _ h => h, fun _ h => h, trivial⟩
      · rintro vs ⟨a', c', h1, h2⟩
        exact ⟨a', c', h1, own_u8_kept h2 hg8 h7.out.nob_a⟩
      · rintro vs ⟨gB, a', c', h1, h0, h2, h3⟩
        refine ⟨gB, a', c', h1, h0, h2.grown hg8 (fun q hq e0 => ?_), own_u8_kept h3 hg8 h7.out.nob_a⟩
        cases hq
        have := h.out.lt gB (by rw [← e0]; simp [foot])
        omega
    · simp only [All]
      refine ⟨?_, ?_, ?_, trivial⟩
      · intro o ho a' w' hb hfr hdep
        obtain rfl := Option.some.inj ho
        have g19 : a'.tmps[19]?.getD undef = .pointer (some ⟨p, 2, none⟩) := by have h := hdep 7 _ rfl (by kernel_rfl); simpa using h
        clear ho hfr hdep
        have hcl := cell_blw hc2.out hb
        go_wp2_with fail
        exact ⟨rfl, _, rfl, Below.refl _ _, rfl⟩
      · intro o ho a' w' hb hfr hdep
        obtain rfl := Option.some.inj ho
        have g21 : a'.tmps[21]?.getD undef = .slice a n c := by have h := hdep 8 _ rfl (by kernel_rfl); simpa using h
        clear ho hfr hdep
        go_wp2_with fail
        refine (clone6 b a n c _ (hs0.out.below hb) (by omega)).mono ?_
        rintro e w2 ⟨a2, c2, rfl, o2, h2⟩
        go_wp2_with fail
        exact ⟨rfl, _, rfl, h2, _, _, rfl, o2.mono hb.size⟩
      · intro o ho a' w' hb hfr hdep
        obtain rfl := Option.some.inj ho
        obtain ⟨a22, c22, h22, o22⟩ := hdep 2 _ rfl (by kernel_rfl)
        have g22 : a'.tmps[22]?.getD undef = .slice a22 n c22 := by simpa using h22
        clear ho hfr hdep
        go_wp2_with fail
        exact ⟨rfl, _, rfl, sblo _ _, _, rfl, hb.size, a22, c22, Sl.fresh _ _ 1 1 [.slice a22 n c22] rfl (by decide), o22.alloc _⟩
    · simp only [All]
      refine ⟨?_, ?_, ?_, ?_, ?_, trivial⟩
      · intro o ho a' w' hb hfr hdep
        obtain rfl := Option.some.inj ho
        have g0 : a'.tmps[0]?.getD undef = .pointer (some ⟨p, 0, none⟩) := by have h := hfr 0 (by kernel_rfl); simpa using h
        clear ho hfr hdep
        go_wp2_with fail
        exact ⟨rfl, _, rfl, rfl, rfl⟩
      · intro o ho a' w' hb hfr hdep
        obtain rfl := Option.some.inj ho
        have g0 : a'.tmps[0]?.getD undef = .pointer (some ⟨p, 0, none⟩) := by have h := hfr 0 (by kernel_rfl); simpa using h
        clear ho hfr hdep
        go_wp2_with fail
        exact ⟨rfl, _, rfl, rfl, rfl⟩
      · intro o ho a' w' hb hfr hdep
        obtain rfl := Option.some.inj ho
        have g17 : a'.tmps[17]?.getD undef = .pointer (some ⟨p, 0, none⟩) := by have h := hdep 5 _ rfl (by kernel_rfl); simpa using h
        clear ho hfr hdep
        go_wp2_with fail
        exact ⟨rfl, _, rfl, rfl, rfl⟩
      · intro o ho a' w' hb hfr hdep
        obtain rfl := Option.some.inj ho
        have g18 : a'.tmps[18]?.getD undef = .pointer (some ⟨p, 0, none⟩) := by have h := hdep 6 _ rfl (by kernel_rfl); simpa using h
        clear ho hfr hdep
        go_wp2_with fail
        exact ⟨rfl, _, rfl, rfl, rfl⟩
      · intro o ho a' w' hb hfr hdep
        obtain rfl := Option.some.inj ho
        have g1 : a'.tmps[1]?.getD undef = .slice a n c := by have h := hfr 1 (by kernel_rfl); simpa using h
        clear ho hfr hdep
        go_wp2_with fail
        exact ⟨rfl, _, rfl, rfl, rfl⟩
    · intro g0 w8 hG hp'
      obtain ⟨w7, aB, cB, a8, c8, p24, hb, o23, hg8, ho8, hf8⟩ := hp' 0 _ rfl
      have p16 := hp' 4 _ rfl
      clear hp' hG
      simp at p16 p24
      simp only [List.drop_succ_cons, List.drop_zero, List.map_cons, List.map_nil, putAll, Act.put, List.setIfInBounds_toArray, List.set_cons_succ, List.set_cons_zero, List.cons_append, List.nil_append, p16, p24]
      have h7 := hide (h.out.below hb)
      have x8 := ((h.out.below hb).box).grown hg8 h7.out.ne_ap
      simp only [hk.out] at x8
      clear p16 p24
      go_wp2_with (with_reducible refine store_cell 28 _ _ 65 p 2 [.int .i64 (win : Int), V64 key, .slice aw k cw, .int .i64 (acked : Int), .int .i64 (del : Int), .map (some m), .bool ow, .int .i64 (forged : Int)] (.slice a8 (k + 1) c8) size_sl x8 rfl rfl rfl rfl (by simp) ?_; intro w9 x9 g9 s9)
      go_ret
      refine ⟨rfl, a8, c8, hs' ++ [(aB, n, cB)], ?_, ?_, ?_, ?_⟩
      · refine EndM.step h7.out hg8 (by rw [List.length_append, hk.out]; exact ho8) hf8 ((h7.out.row.append (Rows.one o23.sl (own_kindB o23))).kept hg8 h7.out.nob_a) rfl ?_ g9
        have hx := x9
        simp only [List.set_cons_succ, List.set_cons_zero] at hx
        show Box w9 p _ [_, _, .slice a8 (wait ++ [b]).length c8, _, _, _, _, _]
        rw [List.length_append, hk.out]
        exact hx
      · intro x hx
        rcases List.mem_append.1 hx with hx | hx
        · exact .inl hx
        · simp at hx
          subst hx
          exact .inr (fun q hq => (World.ownsRow.lt o23 _ (by rw [show aB = some q from hq]; rfl)).1)
      · exact ((Fr.of hb).grown hg8 (fun b' hb' => .inl (by rw [hb']; simp [foot]))).grown g9 (fun b' hb' => by cases hb'; exact .inl (by simp [foot]))
      · intro x hx
        simp only [foot, List.mem_cons] at hx ⊢
        rcases hx with hx | hx | hx
        · exact .inl (.inl hx)
        · exact .inl (.inr (.inl hx))
        · cases ha : a8 with
          | none => rw [ha] at hx; cases hx
          | some q =>
            rw [ha] at hx
            simp at hx
            subst hx
            rcases hf8 q ha with ⟨q0, hq0, hq1⟩ | hq
            · exact .inl (.inr (.inr (by rw [hq0]; simp [hq1])))
            · exact .inr (Nat.le_trans hb.size hq)

  · have hZ : sendE ⟨win, key, wait, acked, del, held, ow, forged⟩ b = (⟨win, key, wait, acked, del, held, ow, forged⟩, 4) := by unfold sendE; rw [if_neg hb]
    rw [hZ]
    have hc2' := hc2.out
    simp only [hk.out] at hc2'
    have hb2 : 65536 < n ∨ (n ≤ 65536 ∧ 1000 ≤ k) := by
      have := hk.out
      by_cases hc : n ≤ 65536
      · exact .inr ⟨hc, by have h3 : ¬ (b.length ≤ 65536 ∧ wait.length < 1000) := hb; omega⟩
      · exact .inl (by omega)
    clear hb hZ hwl hc2 hn
    rcases hb2 with hb2 | ⟨hb2, hb3⟩
    · have d1 : decide ((65536 : Int) < (n : Int)) = true := decide_eq_true (by omega)
      clear hb2
      go_enter Try.func11, Try.ntmps11
      go_wp2_with fail
      go_ret
      exact ⟨rfl, aw, cw, hs', h.out, fun x hx => .inl hx, Fr.refl _ _, fun x hx => .inl hx⟩
    · have d1 : decide ((65536 : Int) < (n : Int)) = false := decide_eq_false (by omega)
      have d2 : decide ((1000 : Int) ≤ (k : Int)) = true := decide_eq_true (by omega)
      clear hb2 hb3
      go_enter Try.func11, Try.ntmps11
      go_wp2_with fail
      go_ret
      exact ⟨rfl, aw, cw, hs', h.out, fun x hx => .inl hx, Fr.refl _ _, fun x hx => .inl hx⟩
theorem lk_Send (p : Nat) (g : Option Nat) (m : Nat) (e : En) (b : List UInt8) (a : Option Addr) (n c : Nat) (w : World) (h : EndAt w p g m e) (hs : Sl w 1 a n c (b.map B8)) (hwl : e.wait.length ≤ 100000) :
    Calls Try.prog 11 #[.pointer (some ⟨p, 0, none⟩), .slice a n c] w fun r w' => r = .returned (.int .i64 (sendE e b).2) ∧ ∃ g', EndAt w' p g' m (sendE e b).1 ∧ Fr (foot p g m) w w' ∧ ∀ x ∈ foot p g' m, x ∈ foot p g m ∨ w.heap.size ≤ x := by
  obtain ⟨aw, cw, hs', ms, h, rfl⟩ := h
  refine (lk_SendM p aw cw hs' m ms e b a n c w h hs hwl).mono ?_
  rintro r w' ⟨h1, a', c', hN, h2, -, h3, h4⟩
  exact ⟨h1, _, ⟨a', c', hN, ms, h2, rfl⟩, h3, h4⟩
end Go.Proofs.Ytjdnmbapmobaaaa
end
