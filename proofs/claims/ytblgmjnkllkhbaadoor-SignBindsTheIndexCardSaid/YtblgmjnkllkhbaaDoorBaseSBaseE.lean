/- The contracts of the functions that the law reaches, joined into one text. -/
import Derived.Test.YtblgmjnkllkhbaaDoorBaseSBaseD
import Derived.OpenShut
import Derived.Deep.Slices
import Derived.Deep.Strs
import Derived.SizedLaws
import Derived.Test.YtblgmjnkllkhbaaDoorRows
import Derived.ProofKit
import Derived.LaidMore
import Derived.Stop.Joined
set_option linter.unusedVariables false
set_option linter.unusedSimpArgs false

/- the text S10 -/
section
/- Chapter 03: Verify. -/
namespace Go.Proofs.YtblgmjnkllkhbaaDoor
open Go.RowKit Go.Dx
section
variable {w : World} {ops : Array Oper} {rest : List Oper} {act : Act} {Q : Exit → Act → World → Prop} {ty : TypeId} {pos : String} {after : Array Edge}
theorem neq_bytes {P : Program} (d : Nat) (t : TypeId) (x y : Operand) (e n : Nat) (ht : P.underlying t = some (.array n e)) (he : P.underlying e = some (.int .u8)) (hsz : (P.info? e).map (·.size) = some 1) (hgt : P.eqGuardType P.depth t = false)
    (xs ys : List UInt8) (hx : act.eval x = .agg (xs.map B8).toArray) (hy : act.eval y = .agg (ys.map B8).toArray) (hxl : xs.length = n) (hyl : ys.length = n) (b : Bool) (hb : (!decide (xs = ys)) = b)
    (hK : wpList P ops Q rest (act.put (some d) (.bool b)) w) :
    wpList P ops Q ({ dst := some d, op := .binOp .neq t x y t, type := ty, pos := pos, after := after, guard := none } :: rest) act w := by
  subst hb
  refine val_at rfl _ ?_ hK
  have h1 := run_eqGuard_agg (P := P) (w := w) .neq t x y (xs.map B8).toArray (ys.map B8).toArray hgt
  have h2 := run_neq_arr (P := P) w t e n .u8 ht he hsz (xs.map fun d => (d.toNat : Int)) (ys.map fun d => (d.toNat : Int)) (by simpa using hxl) (by simpa using hyl)
  rw [← bytes_ints, ← bytes_ints] at h2
  have h3 : decide ((xs.map fun d => (d.toNat : Int)) = (ys.map fun d => (d.toNat : Int))) = decide (xs = ys) := decide_eq_decide.2 bytes_inj
  rw [h3] at h2
  simp only [execOp, hx, hy, Sem.run_bind, h1, h2, Result.andThen_ok, Sem.run_pure]
end
theorem sg_value_z (z : Int) (l : List UInt8) (c : Nat) (hz : z = (c : Int)) (hc : (c + 1) * 16 ≤ l.length) (a : Option Addr) (n cp : Nat) (Gr : Nat) {D : List UInt8} (hD : valL l c = D) (hm : l.length ≤ 1000000) (w : World)
    (xr : Box w Gr 52 [.slice a n cp]) (hs : Sl w 1 a n cp (l.map B8)) :
    Calls Tryd.prog 37 #[.int .i64 z, .pointer (some ⟨Gr, 0, none⟩)] w fun e w' => e = .returned (.agg (D.map B8).toArray) ∧ Below w.heap.size w w' := by
  subst hz
  exact sg_value l c hc a n cp Gr hD hm w xr hs
theorem and_bits {q : Int} (h0 : 0 ≤ q) (h1 : q < 64) : bits .and .i64 q 1 = q % 2 := by
  have h : ∀ n : Fin 64, bits .and .i64 (n.val : Int) 1 = ((n.val : Nat) : Int) % 2 := by decide
  have h2 := h ⟨q.toNat, by omega⟩
  simp only [Int.toNat_of_nonneg h0] at h2
  exact h2
/-- a step of the way up -/
def climb (r : List UInt8) (i : Int) : Nat → List UInt8 → List UInt8
  | 0, v => v
  | n + 1, v => if (i / 2 ^ n) % 2 = 1 then nodeL (valL r (68 + n)) (climb r i n v) else nodeL (climb r i n v) (valL r (68 + n))
/-- the leaf that a signature's body shows -/
def leafV (r M : List UInt8) (i : Int) : List UInt8 := leafD fun c => if c < 68 then advL i c (dgs M c) (3 - dgs M c) (valL r c) else zero16
def rootV (r p : List UInt8) (i : Int) (H : Nat) (m : ByteArray) : List UInt8 := climb r i H (leafV r (msgD p i m) i)
theorem climb_len (r : List UInt8) (i : Int) (n : Nat) {v : List UInt8} (h : v.length = 16) : (climb r i n v).length = 16 := by
  cases n with
  | zero => exact h
  | succ n => rw [climb]; split <;> exact ofD_len _ _
set_option maxRecDepth 100000 in
set_option maxHeartbeats 4000000 in
theorem sg_Verify_fit (p : List UInt8) (hp : p.length = 16) (h : Int) (m S : ByteArray) (h0 : 0 ≤ h) (h6 : h ≤ 6) (hm : m.size ≤ 10000) (hS : S.size ≤ 100000) (i : Int) (k : Nat) (hdec : decInt S.data.toList = (i, (k : Int), 0)) (hk : k ≤ S.size) (hi0 : 0 ≤ i) (hi1 : i < 2 ^ h.toNat)
    (hlen : S.size - k = (68 + h.toNat) * 16) {r : Int × Int} (hr : (if rootV (S.data.toList.drop k) p i h.toNat m = p then (i, (0 : Int)) else (0, 10)) = r) (w : World) (hL : Laid w) :
    Calls Tryd.prog 18 #[.agg (p.map B8).toArray, .int .i64 h, .string m, .string S] w fun e w' => e = .returned (.tuple #[.int .i64 r.1, .int .i64 r.2]) ∧ Below w.heap.size w w' := by
  have hL := hide hL
  obtain ⟨H, rfl⟩ : ∃ H : Nat, h = (H : Int) := ⟨h.toNat, by omega⟩
  rw [Int.toNat_natCast] at hi1 hlen hr
  have hH : H ≤ 6 := by omega
  have hp2 : (2 : Int) ^ H ≤ 64 := by rcases (by omega : H = 0 ∨ H = 1 ∨ H = 2 ∨ H = 3 ∨ H = 4 ∨ H = 5 ∨ H = 6) with rfl | rfl | rfl | rfl | rfl | rfl | rfl <;> decide
  have hi64 : i < 64 := by omega
  have hw2 : wrap64 ((2 : Int) ^ H) = 2 ^ H := by
    have hp1 : (0 : Int) < 2 ^ H := Int.pow_pos (by decide)
    generalize (2 : Int) ^ H = q at *
    unfold wrap64
    omega
  have d3 : decide (wrap64 ((2 : Int) ^ H) ≤ i) = false := by rw [hw2]; exact decide_eq_false (by omega)
  clear hp2 hw2
  have hm' : (m.size : Int) ≤ 1048576 := by omega
  have d1 : decide (i < 0) = false := decide_eq_false (by omega)
  have d2 : decide ((1048576 : Int) < m.size) = false := decide_eq_false (by omega)
  have hval := sg_valid (H : Int)
  rw [decide_eq_true h0, decide_eq_true h6] at hval
  have hval := hide hval
  have HDEC := hide hdec
  have hSl : S.data.toList.length = S.size := Array.length_toList
  have HLEN := hide hlen
  clear hi1 h0 h6 hdec hlen
  obtain ⟨L, HLr⟩ : ∃ L, Hid (S.data.toList.drop k = L) := ⟨_, rfl⟩
  have hLl : Hid (L.length = (68 + H) * 16) := hide (by rw [← HLr.out, List.length_drop, hSl]; exact HLEN.out)
  have HX : Hid (S.extract k S.size = ⟨L.toArray⟩) := hide (by have := byB_drop S.data.toList k; rw [byB_of, HLr.out] at this; exact this)
  rw [HLr.out] at hr
  have HR := hide hr
  have hp := hide hp
  clear hr hSl
  go_enter Tryd.func18, Tryd.ntmps18
  go_wp2_with fail
  obtain ⟨w1, G4, hw1, e1, x4, b1, l1⟩ := allocs1 w (p.map B8) 23
  rw [← hw1, ← e1]
  have l0 : w.heap.size ≤ G4 := Nat.le_of_eq e1.symm
  clear hw1 e1
  refine (hval.out _).mono ?_
  rintro e w1' ⟨rfl, hq⟩
  rw [hq]
  clear hq
  go_wp2_with (with_reducible refine to_bytes 28 _ S rfl (by unfold maxLen; omega) ?_; intro a2 c2 w2 hs2 h2 hp2; refine shold ?_)
  refine hide ?_
  have x4 := x4.under h2
  have b2 := b1.trans (h2.mono b1.size)
  clear h2 hp2 b1
  go_wp2_with fail
  have HG := wire_GetInt _ _ _ _ _ hs2
  rw [HDEC.out] at HG
  refine HG.mono ?_
  rintro e w3 ⟨rfl, hq⟩
  rw [← hq]
  clear hq HG hs2
  go_wp2_with (first
    | (with_reducible refine str_lo 38 9 Tryd.underlying9 _ _ S ⟨L.toArray⟩ .i64 k rfl rfl hk HX.out ?_)
    | (with_reducible refine to_bytes_l 39 _ L ((68 + H) * 16) hLl.out (by omega) (by unfold maxLen; omega) rfl ?_; intro br orr cr w4 s4 h4 hp4; refine shold ?_))
  refine hide ?_
  have xi := Box.new w2 3 #[.int .i64 i]
  have xi := xi.under h4
  have x4 := (x4.alloc (.cells #[.int .i64 i] 3)).under h4
  have b4 := (blo3 b2 (Nat.le_refl _) (.cells #[.int .i64 i] 3)).trans (h4.mono (blo3 b2 (Nat.le_refl _) (.cells #[.int .i64 i] 3)).size)
  generalize w2.heap.size = G10 at *
  have HS4 := hide s4
  clear h4 hp4 b2 s4
  go_wp2_with fail
  obtain ⟨w5, G13, hw5, e5, x13, b5, l5⟩ := allocs1 w4 [.slice (some ⟨br, orr, none⟩) ((68 + H) * 16) cr] 52
  have xi := xi.under b5
  have x4 := x4.under b5
  have HS5 := hide (HS4.out.below b5)
  have b5 := b4.trans (b5.mono b4.size)
  rw [← hw5, ← e5]
  clear hw5 e5 HS4 b4
  refine wp_region_free 15 [⟨0, 40, [40], fun vs _ => vs = [.int .i64 i]⟩, ⟨1, 41, [41], fun vs _ => vs = [.bool false]⟩, ⟨2, 42, [42], fun vs _ => vs = [.bool false]⟩, ⟨3, 43, [43], fun vs _ => vs = [.int .i64 i]⟩, ⟨4, 44, [44], fun vs _ => vs = [.int .i64 (H : Int)]⟩, ⟨5, 45, [45], fun vs _ => vs = [.int .i64 (wrap64 (2 ^ H))]⟩, ⟨6, 46, [46], fun vs _ => vs = [.bool false]⟩, ⟨7, 47, [47], fun vs _ => vs = [.bool false]⟩, ⟨8, 48, [48], fun vs _ => vs = [.bool false]⟩, ⟨9, 49, [49], fun vs _ => vs = [.slice (some ⟨br, orr, none⟩) ((68 + H) * 16) cr]⟩, ⟨10, 50, [50], fun vs _ => vs = [.int .i64 (((68 + H) * 16 : Nat) : Int)]⟩, ⟨11, 51, [51], fun vs _ => vs = [.int .i64 (H : Int)]⟩, ⟨12, 52, [52], fun vs _ => vs = [.int .i64 (68 + (H : Int))]⟩, ⟨13, 53, [53], fun vs _ => vs = [.int .i64 ((68 + (H : Int)) * 16)]⟩, ⟨14, 54, [54], fun vs _ => vs = [.bool false]⟩] (by kernel_rfl) (by kernel_rfl) ?_ ?_ ?_
  · simp only [All]
    refine ⟨fun _ _ _ _ h => h, fun _ _ _ _ h => h, fun _ _ _ _ h => h, fun _ _ _ _ h => h, fun _ _ _ _ h => h, fun _ _ _ _ h => h, fun _ _ _ _ h => h, fun _ _ _ _ h => h, fun _ _ _ _ h => h, fun _ _ _ _ h => h, fun _ _ _ _ h => h, fun _ _ _ _ h => h, fun _ _ _ _ h => h, fun _ _ _ _ h => h, fun _ _ _ _ h => h, trivial⟩
  · simp only [All]
    refine ⟨?_, ?_, ?_, ?_, ?_, ?_, ?_, ?_, ?_, ?_, ?_, ?_, ?_, ?_, ?_, trivial⟩
    · intro o ho a' w' hb hfr hdep
      obtain rfl := Option.some.inj ho
      have g10 : a'.tmps[10]?.getD undef = .pointer (some ⟨G10, 0, none⟩) := by have h := hfr 10 (by kernel_rfl); simpa using h
      clear ho hfr hdep
      have hcl := (xi.under hb).at_ (j := 0) rfl
      go_wp2_with fail
      exact ⟨rfl, _, rfl, Below.refl _ _, rfl⟩
    · intro o ho a' w' hb hfr hdep
      obtain rfl := Option.some.inj ho
      have g40 : a'.tmps[40]?.getD undef = .int .i64 i := by have h := hdep 0 _ rfl (by kernel_rfl); simpa using h
      clear ho hfr hdep
      go_wp2_with fail
      exact ⟨rfl, _, rfl, Below.refl _ _, rfl⟩
    · intro o ho a' w' hb hfr hdep
      obtain rfl := Option.some.inj ho
      have g41 : a'.tmps[41]?.getD undef = .bool false := by have h := hdep 1 _ rfl (by kernel_rfl); simpa using h
      clear ho hfr hdep
      go_wp2_with fail
      exact ⟨rfl, _, rfl, Below.refl _ _, rfl⟩
    · intro o ho a' w' hb hfr hdep
      obtain rfl := Option.some.inj ho
      have g10 : a'.tmps[10]?.getD undef = .pointer (some ⟨G10, 0, none⟩) := by have h := hfr 10 (by kernel_rfl); simpa using h
      have g42 : a'.tmps[42]?.getD undef = .bool false := by have h := hdep 2 _ rfl (by kernel_rfl); simpa using h
      have q42 := opt_bool g42
      clear ho hfr hdep
      refine unguard_any (by simp [Region.wanted, yielded, q42]) ?_
      have hcl := (xi.under hb).at_ (j := 0) rfl
      go_wp2_with fail
      exact ⟨rfl, _, rfl, Below.refl _ _, rfl⟩
    · intro o ho a' w' hb hfr hdep
      obtain rfl := Option.some.inj ho
      have g1 : a'.tmps[1]?.getD undef = .int .i64 (H : Int) := by have h := hfr 1 (by kernel_rfl); simpa using h
      have g42 : a'.tmps[42]?.getD undef = .bool false := by have h := hdep 2 _ rfl (by kernel_rfl); simpa using h
      have q42 := opt_bool g42
      clear ho hfr hdep
      refine unguard_any (by simp [Region.wanted, yielded, q42]) ?_
      go_wp2_with fail
      exact ⟨rfl, _, rfl, Below.refl _ _, rfl⟩
    · intro o ho a' w' hb hfr hdep
      obtain rfl := Option.some.inj ho
      have g44 : a'.tmps[44]?.getD undef = .int .i64 (H : Int) := by have h := hdep 4 _ rfl (by kernel_rfl); simpa using h
      have g42 : a'.tmps[42]?.getD undef = .bool false := by have h := hdep 2 _ rfl (by kernel_rfl); simpa using h
      have q42 := opt_bool g42
      clear ho hfr hdep
      refine unguard_any (by simp [Region.wanted, yielded, q42]) ?_
      go_wp2_with fail
      exact ⟨rfl, _, rfl, Below.refl _ _, rfl⟩
    · intro o ho a' w' hb hfr hdep
      obtain rfl := Option.some.inj ho
      have g43 : a'.tmps[43]?.getD undef = .int .i64 i := by have h := hdep 3 _ rfl (by kernel_rfl); simpa using h
      have g45 : a'.tmps[45]?.getD undef = .int .i64 (wrap64 (2 ^ H)) := by have h := hdep 5 _ rfl (by kernel_rfl); simpa using h
      have g42 : a'.tmps[42]?.getD undef = .bool false := by have h := hdep 2 _ rfl (by kernel_rfl); simpa using h
      have q42 := opt_bool g42
      clear ho hfr hdep
      refine unguard_any (by simp [Region.wanted, yielded, q42]) ?_
      go_wp2_with fail
      exact ⟨rfl, _, rfl, Below.refl _ _, rfl⟩
    · intro o ho a' w' hb hfr hdep
      obtain rfl := Option.some.inj ho
      have g42 : a'.tmps[42]?.getD undef = .bool false := by have h := hdep 2 _ rfl (by kernel_rfl); simpa using h
      have g46 : a'.tmps[46]?.getD undef = .bool false := by have h := hdep 6 _ rfl (by kernel_rfl); simpa using h
      clear ho hfr hdep
      go_wp2_with fail
      exact ⟨rfl, _, rfl, Below.refl _ _, rfl⟩
    · intro o ho a' w' hb hfr hdep
      obtain rfl := Option.some.inj ho
      have g47 : a'.tmps[47]?.getD undef = .bool false := by have h := hdep 7 _ rfl (by kernel_rfl); simpa using h
      clear ho hfr hdep
      go_wp2_with fail
      exact ⟨rfl, _, rfl, Below.refl _ _, rfl⟩
    · intro o ho a' w' hb hfr hdep
      obtain rfl := Option.some.inj ho
      have g13 : a'.tmps[13]?.getD undef = .pointer (some ⟨G13, 0, none⟩) := by have h := hfr 13 (by kernel_rfl); simpa using h
      have g48 : a'.tmps[48]?.getD undef = .bool false := by have h := hdep 8 _ rfl (by kernel_rfl); simpa using h
      have q48 := opt_bool g48
      clear ho hfr hdep
      refine unguard_any (by simp [Region.wanted, yielded, q48]) ?_
      have hcl := (x13.under hb).at_ (j := 0) rfl
      go_wp2_with fail
      exact ⟨rfl, _, rfl, Below.refl _ _, rfl⟩
    · intro o ho a' w' hb hfr hdep
      obtain rfl := Option.some.inj ho
      have g49 : a'.tmps[49]?.getD undef = .slice (some ⟨br, orr, none⟩) ((68 + H) * 16) cr := by have h := hdep 9 _ rfl (by kernel_rfl); simpa using h
      have g48 : a'.tmps[48]?.getD undef = .bool false := by have h := hdep 8 _ rfl (by kernel_rfl); simpa using h
      have q48 := opt_bool g48
      clear ho hfr hdep
      refine unguard_any (by simp [Region.wanted, yielded, q48]) ?_
      go_wp2_with fail
      exact ⟨rfl, _, rfl, Below.refl _ _, rfl⟩
    · intro o ho a' w' hb hfr hdep
      obtain rfl := Option.some.inj ho
      have g1 : a'.tmps[1]?.getD undef = .int .i64 (H : Int) := by have h := hfr 1 (by kernel_rfl); simpa using h
      have g48 : a'.tmps[48]?.getD undef = .bool false := by have h := hdep 8 _ rfl (by kernel_rfl); simpa using h
      have q48 := opt_bool g48
      clear ho hfr hdep
      refine unguard_any (by simp [Region.wanted, yielded, q48]) ?_
      go_wp2_with fail
      exact ⟨rfl, _, rfl, Below.refl _ _, rfl⟩
    · intro o ho a' w' hb hfr hdep
      obtain rfl := Option.some.inj ho
      have g51 : a'.tmps[51]?.getD undef = .int .i64 (H : Int) := by have h := hdep 11 _ rfl (by kernel_rfl); simpa using h
      have g48 : a'.tmps[48]?.getD undef = .bool false := by have h := hdep 8 _ rfl (by kernel_rfl); simpa using h
      have q48 := opt_bool g48
      clear ho hfr hdep
      refine unguard_any (by simp [Region.wanted, yielded, q48]) ?_
      go_wp2_with fail
      exact ⟨rfl, _, rfl, Below.refl _ _, rfl⟩
    · intro o ho a' w' hb hfr hdep
      obtain rfl := Option.some.inj ho
      have g52 : a'.tmps[52]?.getD undef = .int .i64 (68 + (H : Int)) := by have h := hdep 12 _ rfl (by kernel_rfl); simpa using h
      have g48 : a'.tmps[48]?.getD undef = .bool false := by have h := hdep 8 _ rfl (by kernel_rfl); simpa using h
      have q48 := opt_bool g48
      clear ho hfr hdep
      refine unguard_any (by simp [Region.wanted, yielded, q48]) ?_
      go_wp2_with fail
      exact ⟨rfl, _, rfl, Below.refl _ _, rfl⟩
    · intro o ho a' w' hb hfr hdep
      obtain rfl := Option.some.inj ho
      have g50 : a'.tmps[50]?.getD undef = .int .i64 (((68 + H) * 16 : Nat) : Int) := by have h := hdep 10 _ rfl (by kernel_rfl); simpa using h
      have g53 : a'.tmps[53]?.getD undef = .int .i64 ((68 + (H : Int)) * 16) := by have h := hdep 13 _ rfl (by kernel_rfl); simpa using h
      have g48 : a'.tmps[48]?.getD undef = .bool false := by have h := hdep 8 _ rfl (by kernel_rfl); simpa using h
      have q48 := opt_bool g48
      clear ho hfr hdep
      refine unguard_any (by simp [Region.wanted, yielded, q48]) ?_
      have hqq : (((68 + H) * 16 : Nat) : Int) = (68 + (H : Int)) * 16 := by omega
      go_wp2_with fail
      exact ⟨rfl, _, rfl, Below.refl _ _, rfl⟩
  · intro g w6 hb hp'
    have p54 := hp' 14 _ rfl
    have p48 := hp' 8 _ rfl
    clear hp'
    simp at p54 p48
    simp only [List.drop_succ_cons, List.drop_zero, List.map_cons, List.map_nil, putAll, Act.put, List.setIfInBounds_toArray, List.set_cons_succ, List.set_cons_zero, List.cons_append, List.nil_append, p54, p48]
    clear p54 p48
    have xi := xi.under hb
    have x4 := x4.under hb
    have x13 := x13.under hb
    have HS6 := hide (HS5.out.below hb)
    have b6 := b5.trans (hb.mono b5.size)
    clear hb b5 HS5
    go_wp2_with (with_reducible refine hold_store ?_)
    refine hide ?_
    have x14 := Box.new w6 69 #[.nilFunc]
    refine store_all 69 _ _ 69 w6.heap.size [.nilFunc] [.func (.func 37) #[] #[.pointer (some ⟨G13, 0, none⟩)]] (.func (.func 37) #[] #[.pointer (some ⟨G13, 0, none⟩)]) (by kernel_rfl) x14 (by rfl) (by rfl) rfl rfl (by intro u hu; simp at hu; subst hu; rfl) ?_
    intro w7 xv hgr hsz'
    have h7 : Below w6.heap.size w6 w7 := (sblo w6 _).grown hgr (by simp) (fun k hk => by cases hk; exact Nat.le_refl _)
    have xi := xi.under h7
    have x4 := x4.under h7
    have xr := x13.under h7
    have HS7 := hide (HS6.out.below h7)
    have b7 := b6.trans (h7.mono b6.size)
    generalize w6.heap.size = Gv at *
    clear h7 hgr hsz' x13 x14 HS6 b6
    obtain ⟨D, HD⟩ : ∃ D, Hid (msgD p i m = D) := ⟨_, rfl⟩
    have hDl : Hid (D.length = 16) := hide (by rw [← HD.out]; exact List.length_take.trans (by rw [sha_len]; rfl))
    have hzp : Hid ((Tryd.prog.info? 23).map (·.size) = some (p.map B8).length) := hide (by rw [List.length_map, hp.out]; exact size_dig')
    have qi := xi.at_ (j := 0) rfl
    go_wp2_with (with_reducible refine load_box 57 23 _ 23 G4 0 (p.map B8) (p.map B8) isAgg_dig hzp.out x4 rfl (fun j u hj => by rw [Nat.zero_add]; exact hj) ?_)
    clear qi
    refine (sg_Digest p hp.out i (by omega) (by omega) m hm HD.out _ (hL.out.below b7)).mono ?_
    rintro e w8 ⟨rfl, h8⟩
    have xi := xi.under h8
    have x4 := x4.under h8
    have xr := xr.under h8
    have xv := xv.under h8
    have HS8 := hide (HS7.out.below h8)
    have b8 := b7.trans (h8.mono b7.size)
    clear h8 b7 HS7
    go_wp2_with fail
    refine (sg_Digits D hDl.out _).mono ?_
    rintro e w9 ⟨bd, rfl, x8, hbd, h9⟩
    have xi := xi.under h9
    have x4 := x4.under h9
    have xr := xr.under h9
    have xv := xv.under h9
    have HS9 := hide (HS8.out.below h9)
    have b9 := b8.trans (h9.mono b8.size)
    clear h9 b8 HS8 hbd
    go_wp2_with fail
    obtain ⟨w10, Gd, hw10, e10, xd, b10, l10⟩ := allocs1 w9 [.slice (some ⟨bd, 0, none⟩) 68 68] 25
    have xi := xi.under b10
    have x4 := x4.under b10
    have xr := xr.under b10
    have xv := xv.under b10
    have x8 := x8.under b10
    have HSA := hide (HS9.out.below b10)
    have bA := b9.trans (b10.mono b9.size)
    rw [← hw10, ← e10]
    clear hw10 e10 HS9 b9 b10
    obtain ⟨V0, HV0⟩ : ∃ V, Hid (leafV L D i = V) := ⟨_, rfl⟩
    have hV0l : Hid (V0.length = 16) := hide (by rw [← HV0.out]; exact ofD_len _ _)
    have HRr : Hid ((if climb L i H V0 = p then (i, (0 : Int)) else (0, 10)) = r) := hide (by rw [← HR.out]; unfold rootV; rw [HD.out, HV0.out])
    refine (sg_leaf2 L D (by rw [hLl.out]; omega) (by rw [hLl.out]; omega) i ⟨hi0, by omega⟩ _ _ _ G10 Gd Gv G13 bd (fun c => if c < 68 then advL i c (dgs D c) (3 - dgs D c) (valL L c) else zero16) (fun c hc => if_pos hc) (fun c => by
      show (if c < 68 then advL i c (dgs D c) (3 - dgs D c) (valL L c) else zero16).length = 16
      split
      · exact advL_len _ _ _ _ (valL_len (by rw [hLl.out]; omega))
      · rfl) HV0.out _ (hL.out.below bA) xi xd x8 xv xr HSA.out).mono ?_
    rintro e w11 ⟨rfl, h11⟩
    have xi := xi.under h11
    have x4 := x4.under h11
    have xr := xr.under h11
    have xv := xv.under h11
    have HSB := hide (HSA.out.below h11)
    have bB := bA.trans (h11.mono bA.size)
    have hzV0 : Hid ((Tryd.prog.info? 23).map (·.size) = some (V0.map B8).length) := hide (by rw [List.length_map, hV0l.out]; exact size_dig')
    obtain ⟨Z, hZ⟩ : ∃ Z, Hid (zero16 = Z) := ⟨_, rfl⟩
    have h16 := zero_16
    rw [hZ.out] at h16
    have hZl : Hid (Z.length = 16) := hide (by rw [← hZ.out]; rfl)
    clear h11 bA HSA xd x8
    have g10 := xi.lt
    have g4 := x4.lt
    have g13 := xr.lt
    have gv := xv.lt
    obtain ⟨G16, hG16⟩ : ∃ G, Hid (w11.heap.size = G) := ⟨_, rfl⟩
    rw [hG16.out] at g10 g4 g13 gv
    have hWG : w.heap.size ≤ G16 := by rw [← hG16.out]; exact bB.size
    go_wp2_with (with_reducible refine hold_store ?_)
    refine hide ?_
    refine store_all 23 _ _ 23 w11.heap.size (Z.map B8) (V0.map B8) (.agg (V0.map B8).toArray) hzV0.out (Box.new w11 _ _) (by rfl) (by rfl) rfl (by rw [List.length_map, hV0l.out, List.length_map, hZl.out]) (one_map _ (fun _ => rfl) _) ?_
    intro w12 x16 hgr hsz'
    have h12 : Below w11.heap.size w11 w12 := (sblo w11 _).grown hgr (by simp) (fun k hk => by cases hk; exact Nat.le_refl _)
    rw [hG16.out] at h12 x16 ⊢
    clear hgr hsz' h16
    go_wp2_with fail
    go_loopg [65] H (fun gh v w' => ∃ l : Nat, l ≤ H ∧ gh = H - l ∧ v = .int .i64 (l : Int) ∧ Box w' G16 23 ((climb L i l V0).map B8) ∧ Below G16 w11 w')
    case atStart => exact ⟨0, by omega, by omega, rfl, x16, h12⟩
    case round =>
      clear x16 h12
      obtain ⟨l, hl, hg, rfl, x16, hq⟩ := hrel
      have HG2 := hide hg
      clear hg
      have yi := xi.below hq g10
      have y4 := x4.below hq g4
      have yr := xr.below hq g13
      have yv := xv.below hq gv
      have HSr := hide (HSB.out.below (by rw [hG16.out]; exact hq))
      have br' := bB.trans (hq.mono hWG)
      obtain ⟨Cv, HCv⟩ : ∃ C, Hid (climb L i l V0 = C) := ⟨_, rfl⟩
      have hCl : Hid (Cv.length = 16) := hide (by rw [← HCv.out]; exact climb_len _ _ _ hV0l.out)
      have hzC : Hid ((Tryd.prog.info? 23).map (·.size) = some (Cv.map B8).length) := hide (by rw [List.length_map, hCl.out]; exact size_dig')
      rw [HCv.out] at x16
      have qi := yi.at_ (j := 0) rfl
      by_cases hlt : l < H
      · have d0 : decide ((l : Int) < (H : Int)) = true := decide_eq_true (by omega)
        have d0' : decide (l < H) = true := decide_eq_true hlt
        have hq0 : 0 ≤ i / 2 ^ l := Int.ediv_nonneg hi0 (Int.le_of_lt (Int.pow_pos (by decide)))
        have hq1 : i / 2 ^ l < 64 := Int.lt_of_le_of_lt (Int.ediv_le_self _ hi0) hi64
        have hx : bits .and .i64 (i / 2 ^ l) 1 = (i / 2 ^ l) % 2 := and_bits hq0 hq1
        clear hq0 hq1
        obtain ⟨Vv, HVv⟩ : ∃ V, Hid (valL L (68 + l) = V) := ⟨_, rfl⟩
        have hVl : Hid (Vv.length = 16) := hide (by rw [← HVv.out]; exact valL_len (by rw [hLl.out]; omega))
        have hvc : (68 + l + 1) * 16 ≤ L.length := by rw [hLl.out]; omega
        have hvm : L.length ≤ 1000000 := by rw [hLl.out]; omega
        have hvc := hide hvc
        have hvm := hide hvm
        by_cases hbit : (i / 2 ^ l) % 2 = 1
        · obtain ⟨N, HN⟩ : ∃ N, Hid (nodeL Vv Cv = N) := ⟨_, rfl⟩
          have hNl : Hid (N.length = 16) := hide (by rw [← HN.out]; exact ofD_len _ _)
          have hzN : Hid ((Tryd.prog.info? 23).map (·.size) = some (N.map B8).length) := hide (by rw [List.length_map, hNl.out]; exact size_dig')
          have HCN : Hid (climb L i (l + 1) V0 = N) := hide (by rw [climb, if_pos hbit, HVv.out, HCv.out, HN.out])
          rw [hbit] at hx
          go_wp2_with fail
          refine wp_region_free 6 [⟨0, 73, [73], fun vs _ => vs = [.func (.func 37) #[] #[.pointer (some ⟨G13, 0, none⟩)]]⟩, ⟨1, 74, [74], fun vs _ => vs = [.int .i64 (l : Int)]⟩, ⟨2, 75, [75], fun vs _ => vs = [.int .i64 (68 + (l : Int))]⟩, ⟨3, 76, [76], fun vs _ => vs = [.agg (Vv.map B8).toArray]⟩, ⟨4, 77, [77], fun vs _ => vs = [.agg (Cv.map B8).toArray]⟩, ⟨5, 78, [78], fun vs _ => vs = [.agg (N.map B8).toArray]⟩] (by kernel_rfl) (by kernel_rfl) ?_ ?_ ?_
          · simp only [All]
            refine ⟨fun _ _ _ _ h => h, fun _ _ _ _ h => h, fun _ _ _ _ h => h, fun _ _ _ _ h => h, fun _ _ _ _ h => h, fun _ _ _ _ h => h, trivial⟩
          · simp only [All]
            refine ⟨?_, ?_, ?_, ?_, ?_, ?_, trivial⟩
            · intro o ho a' w' hb hfr hdep
              obtain rfl := Option.some.inj ho
              have g14 : a'.tmps[14]?.getD undef = .pointer (some ⟨Gv, 0, none⟩) := by have h := hfr 14 (by kernel_rfl); simpa using h
              clear ho hfr hdep
              have hcl := (yv.under hb).at_ (j := 0) rfl
              go_wp2_with fail
              exact ⟨rfl, _, rfl, Below.refl _ _, rfl⟩
            · intro o ho a' w' hb hfr hdep
              obtain rfl := Option.some.inj ho
              have g17 : a'.tmps[17]?.getD undef = .int .i64 (l : Int) := by have h := hfr 17 (by kernel_rfl); simpa using h
              clear ho hfr hdep
              go_wp2_with fail
              exact ⟨rfl, _, rfl, Below.refl _ _, rfl⟩
            · intro o ho a' w' hb hfr hdep
              obtain rfl := Option.some.inj ho
              have g74 : a'.tmps[74]?.getD undef = .int .i64 (l : Int) := by have h := hdep 1 _ rfl (by kernel_rfl); simpa using h
              clear ho hfr hdep
              go_wp2_with fail
              exact ⟨rfl, _, rfl, Below.refl _ _, rfl⟩
            · intro o ho a' w' hb hfr hdep
              obtain rfl := Option.some.inj ho
              have g73 : a'.tmps[73]?.getD undef = .func (.func 37) #[] #[.pointer (some ⟨G13, 0, none⟩)] := by have h := hdep 0 _ rfl (by kernel_rfl); simpa using h
              have g75 : a'.tmps[75]?.getD undef = .int .i64 (68 + (l : Int)) := by have h := hdep 2 _ rfl (by kernel_rfl); simpa using h
              clear ho hfr hdep
              go_wp2_with fail
              refine (sg_value_z (68 + (l : Int)) L (68 + l) (by omega) hvc.out _ _ _ G13 HVv.out hvm.out _ (yr.under hb) (HSr.out.below hb)).mono ?_
              rintro e w2 ⟨rfl, h2⟩
              go_wp2_with fail
              exact ⟨rfl, _, rfl, h2, rfl⟩
            · intro o ho a' w' hb hfr hdep
              obtain rfl := Option.some.inj ho
              have g16 : a'.tmps[16]?.getD undef = .pointer (some ⟨G16, 0, none⟩) := by have h := hfr 16 (by kernel_rfl); simpa using h
              clear ho hfr hdep
              refine load_box 77 23 _ 23 G16 0 (Cv.map B8) (Cv.map B8) isAgg_dig hzC.out (x16.under hb) (by simpa [Act.eval] using g16) (fun j u hj => by rw [Nat.zero_add]; exact hj) ?_
              exact ⟨rfl, _, rfl, Below.refl _ _, rfl⟩
            · intro o ho a' w' hb hfr hdep
              obtain rfl := Option.some.inj ho
              have g76 : a'.tmps[76]?.getD undef = .agg (Vv.map B8).toArray := by have h := hdep 3 _ rfl (by kernel_rfl); simpa using h
              have g77 : a'.tmps[77]?.getD undef = .agg (Cv.map B8).toArray := by have h := hdep 4 _ rfl (by kernel_rfl); simpa using h
              clear ho hfr hdep
              go_wp2_with fail
              refine (sg_node Vv Cv hVl.out hCl.out HN.out _ (hL.out.below (br'.trans (hb.mono br'.size)))).mono ?_
              rintro e w2 ⟨rfl, h2⟩
              go_wp2_with fail
              exact ⟨rfl, _, rfl, h2, rfl⟩
          · intro g w2' hb hp'
            have p78 := hp' 5 _ rfl
            clear hp'
            simp at p78
            simp only [List.drop_succ_cons, List.drop_zero, List.map_cons, List.map_nil, putAll, Act.put, List.setIfInBounds_toArray, List.set_cons_succ, List.set_cons_zero, List.cons_append, List.nil_append, p78]
            refine store_all 23 _ _ 23 G16 (Cv.map B8) (N.map B8) (.agg (N.map B8).toArray) hzN.out (x16.under hb) (by rfl) (by rfl) rfl (by rw [List.length_map, hNl.out, List.length_map, hCl.out]) (one_map _ (fun _ => rfl) _) ?_
            intro w3 x9 hgr hsz'
            have hg16 := x16.lt
            have hq9 := (hq.trans (hb.mono (by omega))).grown hgr (by rw [← hG16.out]; have := hq.size; have := hb.size; omega) (fun k hk => by cases hk; omega)
            clear hgr hb hg16
            go_wp2_with fail
            go_roundg (H - (l + 1))
            case measure => have := HG2.out; omega
            case rel => exact ⟨l + 1, by omega, rfl, by go_num, by rw [HCN.out]; exact x9, hq9⟩
    
        · have hbit0 : (i / 2 ^ l) % 2 = 0 := by omega
          obtain ⟨N, HN⟩ : ∃ N, Hid (nodeL Cv Vv = N) := ⟨_, rfl⟩
          have hNl : Hid (N.length = 16) := hide (by rw [← HN.out]; exact ofD_len _ _)
          have hzN : Hid ((Tryd.prog.info? 23).map (·.size) = some (N.map B8).length) := hide (by rw [List.length_map, hNl.out]; exact size_dig')
          have HCN : Hid (climb L i (l + 1) V0 = N) := hide (by rw [climb, if_neg hbit, HVv.out, HCv.out, HN.out])
          rw [hbit0] at hx
          clear hbit
          go_wp2_with fail
          refine wp_region_free 6 [⟨0, 79, [79], fun vs _ => vs = [.agg (Cv.map B8).toArray]⟩, ⟨1, 80, [80], fun vs _ => vs = [.func (.func 37) #[] #[.pointer (some ⟨G13, 0, none⟩)]]⟩, ⟨2, 81, [81], fun vs _ => vs = [.int .i64 (l : Int)]⟩, ⟨3, 82, [82], fun vs _ => vs = [.int .i64 (68 + (l : Int))]⟩, ⟨4, 83, [83], fun vs _ => vs = [.agg (Vv.map B8).toArray]⟩, ⟨5, 84, [84], fun vs _ => vs = [.agg (N.map B8).toArray]⟩] (by kernel_rfl) (by kernel_rfl) ?_ ?_ ?_
          · simp only [All]
            refine ⟨fun _ _ _ _ h => h, fun _ _ _ _ h => h, fun _ _ _ _ h => h, fun _ _ _ _ h => h, fun _ _ _ _ h => h, fun _ _ _ _ h => h, trivial⟩
          · simp only [All]
            refine ⟨?_, ?_, ?_, ?_, ?_, ?_, trivial⟩
            · intro o ho a' w' hb hfr hdep
              obtain rfl := Option.some.inj ho
              have g16 : a'.tmps[16]?.getD undef = .pointer (some ⟨G16, 0, none⟩) := by have h := hfr 16 (by kernel_rfl); simpa using h
              clear ho hfr hdep
              refine load_box 79 23 _ 23 G16 0 (Cv.map B8) (Cv.map B8) isAgg_dig hzC.out (x16.under hb) (by simpa [Act.eval] using g16) (fun j u hj => by rw [Nat.zero_add]; exact hj) ?_
              exact ⟨rfl, _, rfl, Below.refl _ _, rfl⟩
            · intro o ho a' w' hb hfr hdep
              obtain rfl := Option.some.inj ho
              have g14 : a'.tmps[14]?.getD undef = .pointer (some ⟨Gv, 0, none⟩) := by have h := hfr 14 (by kernel_rfl); simpa using h
              clear ho hfr hdep
              have hcl := (yv.under hb).at_ (j := 0) rfl
              go_wp2_with fail
              exact ⟨rfl, _, rfl, Below.refl _ _, rfl⟩
            · intro o ho a' w' hb hfr hdep
              obtain rfl := Option.some.inj ho
              have g17 : a'.tmps[17]?.getD undef = .int .i64 (l : Int) := by have h := hfr 17 (by kernel_rfl); simpa using h
              clear ho hfr hdep
              go_wp2_with fail
              exact ⟨rfl, _, rfl, Below.refl _ _, rfl⟩
            · intro o ho a' w' hb hfr hdep
              obtain rfl := Option.some.inj ho
              have g81 : a'.tmps[81]?.getD undef = .int .i64 (l : Int) := by have h := hdep 2 _ rfl (by kernel_rfl); simpa using h
              clear ho hfr hdep
              go_wp2_with fail
              exact ⟨rfl, _, rfl, Below.refl _ _, rfl⟩
            · intro o ho a' w' hb hfr hdep
              obtain rfl := Option.some.inj ho
              have g80 : a'.tmps[80]?.getD undef = .func (.func 37) #[] #[.pointer (some ⟨G13, 0, none⟩)] := by have h := hdep 1 _ rfl (by kernel_rfl); simpa using h
              have g82 : a'.tmps[82]?.getD undef = .int .i64 (68 + (l : Int)) := by have h := hdep 3 _ rfl (by kernel_rfl); simpa using h
              clear ho hfr hdep
              go_wp2_with fail
              refine (sg_value_z (68 + (l : Int)) L (68 + l) (by omega) hvc.out _ _ _ G13 HVv.out hvm.out _ (yr.under hb) (HSr.out.below hb)).mono ?_
              rintro e w2 ⟨rfl, h2⟩
              go_wp2_with fail
              exact ⟨rfl, _, rfl, h2, rfl⟩
            · intro o ho a' w' hb hfr hdep
              obtain rfl := Option.some.inj ho
              have g79 : a'.tmps[79]?.getD undef = .agg (Cv.map B8).toArray := by have h := hdep 0 _ rfl (by kernel_rfl); simpa using h
              have g83 : a'.tmps[83]?.getD undef = .agg (Vv.map B8).toArray := by have h := hdep 4 _ rfl (by kernel_rfl); simpa using h
              clear ho hfr hdep
              go_wp2_with fail
              refine (sg_node Cv Vv hCl.out hVl.out HN.out _ (hL.out.below (br'.trans (hb.mono br'.size)))).mono ?_
              rintro e w2 ⟨rfl, h2⟩
              go_wp2_with fail
              exact ⟨rfl, _, rfl, h2, rfl⟩
          · intro g w2' hb hp'
            have p84 := hp' 5 _ rfl
            clear hp'
            simp at p84
            simp only [List.drop_succ_cons, List.drop_zero, List.map_cons, List.map_nil, putAll, Act.put, List.setIfInBounds_toArray, List.set_cons_succ, List.set_cons_zero, List.cons_append, List.nil_append, p84]
            refine store_all 23 _ _ 23 G16 (Cv.map B8) (N.map B8) (.agg (N.map B8).toArray) hzN.out (x16.under hb) (by rfl) (by rfl) rfl (by rw [List.length_map, hNl.out, List.length_map, hCl.out]) (one_map _ (fun _ => rfl) _) ?_
            intro w3 x9 hgr hsz'
            have hg16 := x16.lt
            have hq9 := (hq.trans (hb.mono (by omega))).grown hgr (by rw [← hG16.out]; have := hq.size; have := hb.size; omega) (fun k hk => by cases hk; omega)
            clear hgr hb hg16
            go_wp2_with fail
            go_roundg (H - (l + 1))
            case measure => have := HG2.out; omega
            case rel => exact ⟨l + 1, by omega, rfl, by go_num, by rw [HCN.out]; exact x9, hq9⟩
    
      · obtain rfl : l = H := by omega
        have d0 : decide ((l : Int) < (l : Int)) = false := decide_eq_false (by omega)
        have HRr2 := HRr.out
        rw [HCv.out] at HRr2
        have HRr2 := hide HRr2
        by_cases hpe : Cv = p
        · have hb : Hid ((!decide (Cv = p)) = false) := hide (by rw [decide_eq_true hpe]; rfl)
          have hr1 : r = (i, 0) := by rw [← HRr2.out, if_pos hpe]
          subst hr1
          clear hpe
          go_wp2_with (first
            | (with_reducible refine load_box 86 23 _ 23 G16 0 (Cv.map B8) (Cv.map B8) isAgg_dig hzC.out x16 rfl (fun j u hj => by rw [Nat.zero_add]; exact hj) ?_)
            | (with_reducible refine load_box 87 23 _ 23 G4 0 (p.map B8) (p.map B8) isAgg_dig hzp.out y4 rfl (fun j u hj => by rw [Nat.zero_add]; exact hj) ?_)
            | (with_reducible refine neq_bytes 88 23 _ _ _ 16 Tryd.underlying23 Tryd.underlying5 size_u8 guard_dig Cv p rfl rfl hCl.out hp.out _ hb.out ?_))
          go_ret2
          exact ⟨rfl, br'⟩
        · have hb : Hid ((!decide (Cv = p)) = true) := hide (by rw [decide_eq_false hpe]; rfl)
          have hr1 : r = (0, 10) := by rw [← HRr2.out, if_neg hpe]
          subst hr1
          clear hpe
          go_wp2_with (first
            | (with_reducible refine load_box 86 23 _ 23 G16 0 (Cv.map B8) (Cv.map B8) isAgg_dig hzC.out x16 rfl (fun j u hj => by rw [Nat.zero_add]; exact hj) ?_)
            | (with_reducible refine load_box 87 23 _ 23 G4 0 (p.map B8) (p.map B8) isAgg_dig hzp.out y4 rfl (fun j u hj => by rw [Nat.zero_add]; exact hj) ?_)
            | (with_reducible refine neq_bytes 88 23 _ _ _ 16 Tryd.underlying23 Tryd.underlying5 size_u8 guard_dig Cv p rfl rfl hCl.out hp.out _ hb.out ?_))
          go_ret2
          exact ⟨rfl, br'⟩
    
end Go.Proofs.YtblgmjnkllkhbaaDoor
end

/- the text S11 -/
section
/- Chapter 03: the law's seed. -/
namespace Go.Proofs.YtblgmjnkllkhbaaDoor
open Go.RowKit Go.Dx
/-- the first k bytes written -/
def seedA (c : UInt8) (k : Nat) : List UInt8 := List.replicate k c ++ List.replicate (32 - k) 0
theorem seedA_len {c : UInt8} {k : Nat} (h : k ≤ 32) : (seedA c k).length = 32 := by unfold seedA; rw [List.length_append, List.length_replicate, List.length_replicate]; omega
theorem seedA_set {c : UInt8} {k : Nat} (h : k < 32) : ((seedA c k).map B8).set k (B8 c) = (seedA c (k + 1)).map B8 := by
  rw [← List.map_set]
  congr 1
  unfold seedA
  rw [List.set_append_right _ _ (by rw [List.length_replicate]; omega), List.length_replicate, Nat.sub_self, show 32 - k = (32 - (k + 1)) + 1 by omega, List.replicate_succ, List.set_cons_zero, List.replicate_succ', List.append_assoc]
  rfl
theorem make32 (W : World) : (Instr.makeSlice 52 (.int .i64 32) (.int .i64 32)).run Tryd.prog W = .ok (.slice (some ⟨W.heap.size, 0, none⟩) 32 32) (W.alloc (.cells ((List.replicate 32 (0 : UInt8)).map B8).toArray 5)) := by kernel_rfl
set_option maxRecDepth 100000 in
set_option maxHeartbeats 2000000 in
theorem law_seed (c : UInt8) (w : World) :
    Calls Tryd.prog 20 #[B8 c] w fun e w' => e = .returned (.string ⟨(List.replicate 32 c).toArray⟩) ∧ Below w.heap.size w w' := by
  have hmk : ∀ W : World, (Instr.makeSlice 52 (.int .i64 32) (.int .i64 32)).run Tryd.prog W = .ok (.slice (some ⟨W.heap.size, 0, none⟩) 32 32) (W.alloc (.cells ((seedA c 0).map B8).toArray 5)) := fun W => make32 W
  go_enter Tryd.func20, Tryd.ntmps20
  go_wp2_with fail
  obtain ⟨w1, G, hw1, e1, x1, b1, l1⟩ := allocs1 w ((seedA c 0).map B8) 5
  rw [← hw1, ← e1]
  have l0 : w.heap.size ≤ G := Nat.le_of_eq e1.symm
  clear hw1 e1 hmk
  go_loopg [4] 32 (fun gh v w' => ∃ k : Nat, k ≤ 32 ∧ gh = 32 - k ∧ v = .int .i64 (k : Int) ∧ Box w' G 5 ((seedA c k).map B8) ∧ Below w.heap.size w w')
  case atStart => exact ⟨0, by omega, by omega, rfl, x1, b1⟩
  case round =>
    clear x1 b1
    obtain ⟨k, hk, hg, rfl, x1, b⟩ := hrel
    have HG := hide hg
    clear hg
    by_cases hlt : k < 32
    · have f3 := x1.free k
      have q3 : ∃ z, wr.cell? ⟨G, k, none⟩ = some (B8 z) := ⟨_, x1.at_ (box_at (List.getElem?_eq_getElem (by rw [seedA_len hk]; exact hlt)))⟩
      obtain ⟨z, q3⟩ := q3
      have d0 : decide ((k : Int) < 32) = true := decide_eq_true (by omega)
      go_wp2_with fail
      go_roundg (32 - (k + 1))
      case measure => have := HG.out; omega
      case rel =>
        have x1' := x1.put k (B8 c)
        rw [seedA_set hlt] at x1'
        exact ⟨k + 1, by omega, rfl, by go_num, x1', b.setCell (by simp; omega) _⟩
    · obtain rfl : k = 32 := by omega
      have s1 := x1.sl_all (n := 32) (by rw [List.length_map, seedA_len hk]) (by decide)
      have hS : seedA c 32 = List.replicate 32 c := by unfold seedA; simp
      rw [hS] at s1
      go_wp2_with (with_reducible refine to_str 15 _ _ _ _ (List.replicate 32 c) rfl s1 ?_)
      go_ret
      exact ⟨rfl, b⟩
end Go.Proofs.YtblgmjnkllkhbaaDoor
end

/- the text S12 -/
section
/- Chapter 03: Sign where it does not sign. -/
namespace Go.Proofs.YtblgmjnkllkhbaaDoor
open Go.RowKit Go.Dx
set_option maxRecDepth 100000 in
set_option maxHeartbeats 2000000 in
theorem sg_Sign_arg (s : ByteArray) (h i : Int) (m : ByteArray) (hb : ¬ (s.size = 32 ∧ 0 ≤ h ∧ h ≤ 6)) (w : World) :
    Calls Tryd.prog 14 #[.string s, .int .i64 h, .int .i64 i, .string m] w fun e w' => e = .returned (.tuple #[.string ⟨#[]⟩, .int .i64 1]) ∧ w = w' := by
  have hval := sg_valid h
  obtain ⟨vb, hvb⟩ : ∃ vb, Hid ((decide (0 ≤ h) && decide (h ≤ 6)) = vb) := ⟨_, rfl⟩
  rw [hvb.out] at hval
  have hval := hide hval
  go_enter Tryd.func14, Tryd.ntmps14
  by_cases h32 : s.size = 32
  · have hvf : vb = false := by
      rw [← hvb.out]
      by_cases h0 : 0 ≤ h
      · have h6 : ¬ h ≤ 6 := fun h6 => hb ⟨h32, h0, h6⟩
        simp [h6]
      · simp [h0]
    have hs' : (s.size : Int) = 32 := by omega
    clear hb
    subst hvf
    go_wp2_with fail
    refine (hval.out _).mono ?_
    rintro e w1' ⟨rfl, rfl⟩
    go_wp2_with fail
    go_ret2
    exact ⟨rfl, rfl⟩
  · have d0 : ((s.size : Int) == 32) = false := by simp; omega
    have d1 : ((s.size : Int) != 32) = true := by simp [bne, d0]
    have d3 : ¬ (s.size : Int) = 32 := by omega
    clear hb
    go_wp2_with fail
    go_ret2
    exact ⟨rfl, rfl⟩
set_option maxRecDepth 100000 in
set_option maxHeartbeats 2000000 in
theorem sg_Sign_spent (s : ByteArray) (h i : Int) (m : ByteArray) (h32 : s.size = 32) (h0 : 0 ≤ h) (h6 : h ≤ 6) (hi : i < 0 ∨ 2 ^ h.toNat ≤ i) (w : World) :
    Calls Tryd.prog 14 #[.string s, .int .i64 h, .int .i64 i, .string m] w fun e w' => e = .returned (.tuple #[.string ⟨#[]⟩, .int .i64 27]) ∧ w = w' := by
  obtain ⟨H, rfl⟩ : ∃ H : Nat, h = (H : Int) := ⟨h.toNat, by omega⟩
  rw [Int.toNat_natCast] at hi
  have hp2 : (2 : Int) ^ H ≤ 64 := by rcases (by omega : H = 0 ∨ H = 1 ∨ H = 2 ∨ H = 3 ∨ H = 4 ∨ H = 5 ∨ H = 6) with rfl | rfl | rfl | rfl | rfl | rfl | rfl <;> decide
  have hw2 : wrap64 ((2 : Int) ^ H) = 2 ^ H := by
    have hp1 : (0 : Int) < 2 ^ H := Int.pow_pos (by decide)
    generalize (2 : Int) ^ H = p at *
    unfold wrap64
    omega
  have hH : H ≤ 6 := by omega
  have hs' : (s.size : Int) = 32 := by omega
  have hval := sg_valid (H : Int)
  rw [decide_eq_true h0, decide_eq_true h6] at hval
  have hval := hide hval
  by_cases hn : i < 0
  · have d1 : decide (i < 0) = true := decide_eq_true hn
    clear hw2 hp2 hi h0 h6
    go_enter Tryd.func14, Tryd.ntmps14
    go_wp2_with fail
    refine (hval.out _).mono ?_
    rintro e w1' ⟨rfl, rfl⟩
    go_wp2_with fail
    go_ret2
    exact ⟨rfl, rfl⟩
  · have d1 : decide (i < 0) = false := decide_eq_false hn
    have d4 : wrap64 ((2 : Int) ^ H) ≤ i := by rw [hw2]; omega
    have d3 : decide (wrap64 ((2 : Int) ^ H) ≤ i) = true := decide_eq_true d4
    clear hw2 hp2 hi h0 h6
    go_enter Tryd.func14, Tryd.ntmps14
    go_wp2_with fail
    refine (hval.out _).mono ?_
    rintro e w1' ⟨rfl, rfl⟩
    go_wp2_with fail
    go_ret2
    exact ⟨rfl, rfl⟩
end Go.Proofs.YtblgmjnkllkhbaaDoor
end

/- the text S13 -/
section
/- Chapter 03, plain: a signature is accepted. No program in sight. -/
namespace Go.Proofs.YtblgmjnkllkhbaaDoor
open Go.RowKit Go.Dx
theorem catL_take {f : Nat → List UInt8} (h : ∀ j, (f j).length = 16) (r : List UInt8) : ∀ (n c : Nat), c < n → valL (catL f n ++ r) c = f c := by
  intro n
  induction n generalizing r with
  | zero => intro c hc; omega
  | succ n ih =>
    intro c hc
    rw [catL, List.append_assoc]
    by_cases e : c = n
    · subst e
      unfold valL
      rw [List.drop_append, catL_len h, List.drop_eq_nil_of_le (by rw [catL_len h]; exact Nat.le_refl _), List.nil_append, Nat.sub_self, List.drop_zero, List.take_append, h c, List.take_of_length_le (by rw [h]; exact Nat.le_refl _)]
      simp
    · exact ih _ c (by omega)
theorem valL_shift {a r : List UInt8} {n : Nat} (h : a.length = n * 16) (c : Nat) : valL (a ++ r) (n + c) = valL r c := by
  unfold valL
  rw [List.drop_append, List.drop_eq_nil_of_le (by rw [h]; omega), List.nil_append, h, show (n + c) * 16 - n * 16 = c * 16 by omega]
theorem catL_congr {f g : Nat → List UInt8} : ∀ n, (∀ c, c < n → f c = g c) → catL f n = catL g n := by
  intro n
  induction n with
  | zero => intro _; rfl
  | succ n ih => intro h; rw [catL, catL, ih (fun c hc => h c (by omega)), h n (by omega)]
theorem advL_add (i k : Int) (v : List UInt8) {d : Nat} (h : d ≤ 3) : advL i k d (3 - d) (advL i k 0 d v) = advL i k 0 3 v := by
  rcases (by omega : d = 0 ∨ d = 1 ∨ d = 2 ∨ d = 3) with rfl | rfl | rfl | rfl <;> simp [advL]
theorem leaf_ok (s : List UInt8) (i : Int) (M r : List UInt8) : leafV (chainsL s i M ++ r) M i = treeL s 0 i := by
  unfold leafV chainsL
  rw [treeL]
  unfold leafD
  rw [catL_congr 68 (f := fun c => if c < 68 then advL i c (dgs M c) (3 - dgs M c) (valL (catL (fun c => advL i c 0 (dgs M c) (startL s i c)) 68 ++ r) c) else zero16) (g := fun c : Nat => advL i c 0 3 (startL s i c))]
  intro c hc
  rw [if_pos hc, catL_take (fun j => advL_len _ _ _ _ (startL_len _ _ _)) r 68 c hc, advL_add _ _ _ (dgs_le M c)]
theorem climb_ok (s : List UInt8) (i : Int) (a : List UInt8) (ha : a.length = 68 * 16) (H : Nat) : ∀ n, n ≤ H → climb (a ++ pathL s i H) i n (treeL s 0 i) = treeL s n (i / 2 ^ n) := by
  intro n
  induction n with
  | zero => intro _; rw [climb]; simp
  | succ n ih =>
    intro hn
    have hv : valL (a ++ pathL s i H) (68 + n) = treeL s n (sib i n) := by
      rw [valL_shift ha]
      have := catL_take (f := fun l => treeL s l (sib i l)) (fun j => treeL_len _ _ _) [] H n (by omega)
      rw [List.append_nil] at this
      exact this
    have hd : i / 2 ^ (n + 1) = i / 2 ^ n / 2 := by rw [Int.pow_succ, Int.ediv_ediv_of_nonneg (Int.le_of_lt (Int.pow_pos (by decide)))]
    rw [climb, hv, ih (by omega), treeL, hd]
    unfold sib
    generalize i / 2 ^ n = q
    by_cases hq : q % 2 = 1
    · rw [if_pos hq, if_neg (by omega), show 2 * (q / 2) = q - 1 by omega, show q - 1 + 1 = q by omega]
    · rw [if_neg hq, if_pos (by omega), show 2 * (q / 2) = q by omega]
theorem accept (s : List UInt8) (i : Int) (H : Nat) (hi0 : 0 ≤ i) (hi : i < 2 ^ H) (m : ByteArray) (p : List UInt8) (hp : p = treeL s H 0) : rootV (chainsL s i (msgD p i m) ++ pathL s i H) p i H m = p := by
  unfold rootV
  rw [leaf_ok, climb_ok s i _ (by unfold chainsL; rw [catL_len (fun j => advL_len _ _ _ _ (startL_len _ _ _))]) H H (Nat.le_refl _), Int.ediv_eq_zero_of_lt hi0 hi, hp]
end Go.Proofs.YtblgmjnkllkhbaaDoor
end

/- the text N4 -/
section
/- Chapter 03: the signer's values on natural numbers, for the kernel. -/
set_option linter.unusedVariables false
namespace Go.Proofs.YtblgmjnkllkhbaaDoor
open Go.RowKit Go.Dx Go.Dx.NS
/-- what stands ahead of a chain's value -/
def preL (i k t : Int) : List UInt8 := tagB 5 :: (encBytes (encInts [i, k, t]) ++ encInt 16)
theorem preL_len (i k t : Int) : (preL i k t).length ≤ 100 := by
  have h1 := encInts_le [i, k, t]
  have h2 := encInt_le 16
  have h3 := encInt_le (((encInts [i, k, t]).length : Nat) : Int)
  unfold preL encBytes
  simp only [List.length_cons, List.length_append, List.length_nil] at *
  omega
noncomputable def stepN (i k t : Int) (u : Nat) : Nat := fc (val (preL i k t)) fun p => fc (preL i k t).length fun n => ofN (p * 256 ^ 16 + u) (n + 16)
theorem of_nat (t : Int) (ps : List (List UInt8)) {L : List UInt8} (hL : inputL t (ps.map byB) = L) (hl : L.length ≤ 1000000) : val (ofD t ps) = ofN (val L) L.length := by
  unfold ofD
  rw [hL, sha16 _ (by omega) (sha_len _)]
theorem val_pre (a v : List UInt8) {n : Nat} (h : v.length = n) : val (a ++ v) = val a * 256 ^ n + val v := by rw [val_append, h]
theorem enc_two (a b : List UInt8) : encBytes a ++ (encBytes b ++ []) = (encBytes a ++ encInt b.length) ++ b := by unfold encBytes; simp
theorem input_one (t : Int) (a : List UInt8) : inputL t ([a].map byB) = (tagB t :: encInt a.length) ++ a := by
  show tagB t :: (encBytes a ++ []) = _
  unfold encBytes
  simp
theorem input_two (t : Int) (a b : List UInt8) : inputL t ([a, b].map byB) = (tagB t :: (encBytes a ++ encInt b.length)) ++ b := by
  show tagB t :: (encBytes a ++ (encBytes b ++ [])) = _
  rw [enc_two]; rfl
theorem step_nat (i k t : Int) {v : List UInt8} (hv : v.length = 16) : val (ofD 5 [encInts [i, k, t], v]) = stepN i k t (val v) := by
  have hp := preL_len i k t
  have e : inputL 5 ([encInts [i, k, t], v].map byB) = preL i k t ++ v := by rw [input_two, hv]; rfl
  rw [of_nat 5 _ e (by rw [List.length_append, hv]; omega)]
  unfold stepN
  rw [fc_eq, fc_eq, val_pre _ v hv, List.length_append, hv]
noncomputable def advN (i k f : Int) (n v : Nat) : Nat := @Nat.rec (fun _ => Nat) v (fun n u => fc u fun u => stepN i k (f + (n : Int)) u) n
theorem advN_succ (i k f : Int) (n v : Nat) : advN i k f (n + 1) v = stepN i k (f + (n : Int)) (advN i k f n v) := by
  show fc _ _ = _
  rw [fc_eq]
  rfl
theorem adv_nat (i k f : Int) {v : List UInt8} (hv : v.length = 16) : ∀ n, val (advL i k f n v) = advN i k f n (val v)
  | 0 => rfl
  | n + 1 => by rw [advL, step_nat _ _ _ (advL_len _ _ _ _ hv), adv_nat i k f hv n, advN_succ]
def seed5 : List UInt8 := List.replicate 32 5
def KI : Nat := val (padK seed5 0x36)
def KO : Nat := val (padK seed5 0x5c)
def preM (i k : Int) : List UInt8 := chainB ++ encInts [i, k]
theorem preM_len (i k : Int) : (preM i k).length ≤ 100 := by
  have h1 := encInts_le [i, k]
  unfold preM chainB
  simp only [List.length_cons, List.length_append, List.length_nil] at *
  omega
noncomputable def startN (i k : Int) : Nat := fc (val (preM i k)) fun t => fc (preM i k).length fun n =>
  fc (shaN (KI * 256 ^ n + t) (64 + n)) fun x => ofN (KO * 256 ^ 32 + x) 96
theorem start_nat (i k : Int) : val (startL seed5 i k) = startN i k := by
  have hp := preM_len i k
  have hk : keyL seed5 = seed5 := by unfold keyL; rw [if_neg (by decide)]
  have l1 : (padK seed5 0x36).length = 64 := padK_len (by decide) _
  have l2 : (padK seed5 0x5c).length = 64 := padK_len (by decide) _
  unfold startL macL
  rw [hk]
  have hl : (padK seed5 0x5c ++ sha (padK seed5 0x36 ++ (chainB ++ encInts [i, k]))).length = 96 := by rw [List.length_append, l2, sha_len]
  rw [sha16 _ (by rw [hl]; decide) (sha_len _), hl, val_pre _ _ (sha_len _)]
  have hl2 : (padK seed5 0x36 ++ (chainB ++ encInts [i, k])).length = 64 + (preM i k).length := by rw [List.length_append, l1]; rfl
  rw [sha_nat _ (by rw [hl2]; omega), hl2, val_append]
  unfold startN
  rw [fc_eq, fc_eq, fc_eq]
  rfl
noncomputable def catN (f : Nat → Nat) (n : Nat) : Nat := @Nat.rec (fun _ => Nat) 0 (fun n u => fc u fun u => fc (f n) fun y => u * 256 ^ 16 + y) n
theorem catN_succ (f : Nat → Nat) (n : Nat) : catN f (n + 1) = catN f n * 256 ^ 16 + f n := by
  have e : catN f (n + 1) = fc (catN f n) fun u => fc (f n) fun y => u * 256 ^ 16 + y := rfl
  rw [e, fc_eq, fc_eq]
theorem cat_nat {f : Nat → List UInt8} (h : ∀ j, (f j).length = 16) {g : Nat → Nat} (hg : ∀ j, val (f j) = g j) : ∀ n, val (catL f n) = catN g n
  | 0 => rfl
  | n + 1 => by rw [catL, val_pre _ _ (h n), cat_nat h hg n, catN_succ, hg]
def D1088 : Nat := Nat.pow (Nat.pow 256 64) 17
theorem pow_two (m a b n : Nat) (h : n = a * b) : m ^ n = Nat.pow (Nat.pow m a) b := by rw [h, Nat.pow_mul]; rfl
theorem d1088 (n : Nat) (h : n = 64 * 17) : 256 ^ n = D1088 := pow_two 256 64 17 n h
def h3 : List UInt8 := tagB 3 :: encInt 1088
def h1 : List UInt8 := tagB 1 :: encInt 16
def h2 : List UInt8 := tagB 2 :: encInt 16
noncomputable def leafN (f : Nat → Nat) : Nat := fc (catN f 68) fun u => fc (ofN (val h3 * D1088 + u) (h3.length + 1088)) fun k => ofN (val h1 * 256 ^ 16 + k) (h1.length + 16)
theorem h1_len : h1.length ≤ 10 := by unfold h1; have := encInt_le 16; rw [List.length_cons]; omega
theorem h2_len : h2.length ≤ 10 := by unfold h2; have := encInt_le 16; rw [List.length_cons]; omega
theorem h3_len : h3.length ≤ 10 := by unfold h3; have := encInt_le 1088; rw [List.length_cons]; omega
theorem key_nat {C : List UInt8} (hc : C.length = 1088) : val (ofD 3 [C]) = ofN (val h3 * D1088 + val C) (h3.length + 1088) := by
  have b3 := h3_len
  have e3 : inputL 3 ([C].map byB) = h3 ++ C := by rw [input_one, hc]; rfl
  have hp : 256 ^ C.length = D1088 := d1088 _ (hc.trans (by decide))
  generalize h3 = H at *
  have hl3 : (H ++ C).length = H.length + 1088 := by rw [List.length_append, hc]
  have hv3 : val (H ++ C) = val H * D1088 + val C := by rw [val_append, hp]
  have hh : (H ++ C).length ≤ 1000000 := by omega
  rw [of_nat 3 _ e3 hh, hl3, hv3]
theorem leaf_nat {f : Nat → List UInt8} (h : ∀ j, (f j).length = 16) {g : Nat → Nat} (hg : ∀ j, val (f j) = g j) : val (leafD f) = leafN g := by
  have hc : (catL f 68).length = 1088 := by rw [catL_len h]
  have b1 := h1_len
  have v3 : val (ofD 3 [catL f 68]) = ofN (val h3 * D1088 + catN g 68) (h3.length + 1088) := by
    have hv := cat_nat h hg 68
    rw [← hv]
    exact key_nat hc
  unfold leafD
  have l3 : (ofD 3 [catL f 68]).length = 16 := ofD_len _ _
  generalize ofD 3 [catL f 68] = k3 at *
  have e1 : inputL 1 ([k3].map byB) = h1 ++ k3 := by rw [input_one, l3]; rfl
  rw [of_nat 1 _ e1 (by rw [List.length_append, l3]; omega), List.length_append, val_pre _ _ l3, l3, v3]
  unfold leafN
  rw [fc_eq, fc_eq]
noncomputable def nodeN (l r : Nat) : Nat := ofN (((val h2 * 256 ^ 16 + l) * 256 ^ 2 + val (encInt 16)) * 256 ^ 16 + r) (h2.length + 16 + 2 + 16)
theorem node_nat {l r : List UInt8} (hl : l.length = 16) (hr : r.length = 16) : val (nodeL l r) = nodeN (val l) (val r) := by
  have b2 := h2_len
  have l16 : (encInt 16).length = 2 := by decide
  have e : inputL 2 ([l, r].map byB) = ((h2 ++ l) ++ encInt 16) ++ r := by
    rw [input_two, hr]
    unfold h2 encBytes
    rw [hl]
    simp
  unfold nodeL
  rw [of_nat 2 _ e (by simp only [List.length_append, hl, hr, l16]; omega), val_pre _ _ hr, val_pre _ _ l16, val_pre _ _ hl]
  simp only [List.length_append, hl, hr, l16]
  rfl
def b16 (x : Nat) : List UInt8 := digs x 16 16
theorem b16_len (x : Nat) : (b16 x).length = 16 := digs_length _ _ _
theorem val_b16 {x : Nat} (h : x < 340282366920938463463374607431768211456) : val (b16 x) = x := val_digs (k := 16) h
theorem of_b16 {l : List UInt8} {x : Nat} (hl : l.length = 16) (h : val l = x) : l = b16 x := by
  refine val_inj (by rw [hl, b16_len]) ?_
  have := val_lt l
  rw [hl] at this
  rw [val_b16 (by omega), h]
theorem b16_ne {x y : Nat} (hx : x < 340282366920938463463374607431768211456) (hy : y < 340282366920938463463374607431768211456) (h : x ≠ y) : b16 x ≠ b16 y := by
  intro e
  have := congrArg val e
  rw [val_b16 hx, val_b16 hy] at this
  exact h this
/-- a leaf of the examples' tree -/
noncomputable def leaf5 (i : Int) : Nat := leafN fun c => advN i (c : Int) 0 3 (startN i (c : Int))
theorem leaf5_eq (i : Int) : val (treeL seed5 0 i) = leaf5 i := by
  rw [treeL]
  exact leaf_nat (fun j => advL_len _ _ _ _ (startL_len _ _ _)) (fun j => by rw [adv_nat _ _ _ (startL_len _ _ _), start_nat])
/-- the leaf that a signature shows for another message -/
noncomputable def other5 (i : Int) (M N : List UInt8) : Nat := leafN fun c => advN i (c : Int) (dgs N c : Int) (3 - dgs N c) (advN i (c : Int) 0 (dgs M c) (startN i (c : Int)))
theorem other5_eq (i : Int) (M N r : List UInt8) : val (leafV (chainsL seed5 i M ++ r) N i) = other5 i M N := by
  have e : leafV (chainsL seed5 i M ++ r) N i = leafD fun c => advL i c (dgs N c) (3 - dgs N c) (advL i c 0 (dgs M c) (startL seed5 i c)) := by
    unfold leafV leafD chainsL
    rw [catL_congr 68 (g := fun c : Nat => advL i c (dgs N c) (3 - dgs N c) (advL i c 0 (dgs M c) (startL seed5 i c)))]
    intro c hc
    rw [if_pos hc, catL_take (fun j => advL_len _ _ _ _ (startL_len _ _ _)) r 68 c hc]
  rw [e]
  exact leaf_nat (fun j => advL_len _ _ _ _ (advL_len _ _ _ _ (startL_len _ _ _))) (fun j => by rw [adv_nat _ _ _ (advL_len _ _ _ _ (startL_len _ _ _)), adv_nat _ _ _ (startL_len _ _ _), start_nat])
noncomputable def msgN (p : Nat) (i : Int) (m : List UInt8) : Nat := fc (val (inputL 4 [byB (b16 p), byB (encInt i), byB m])) fun v => fc (inputL 4 [byB (b16 p), byB (encInt i), byB m]).length fun n => ofN v n
theorem msg_nat (p : Nat) (i : Int) (m : List UInt8) (h : (inputL 4 [byB (b16 p), byB (encInt i), byB m]).length ≤ 1000000) : val (msgD (b16 p) i (byB m)) = msgN p i m := by
  unfold msgD msgN
  rw [sha16 _ (by omega) (sha_len _), fc_eq, fc_eq]
end Go.Proofs.YtblgmjnkllkhbaaDoor
end

/- the text N5 -/
section
/- Chapter 03: the examples' values, evaluated by the kernel. -/
set_option linter.unusedVariables false
namespace Go.Proofs.YtblgmjnkllkhbaaDoor
open Go.RowKit Go.Dx Go.Dx.NS

set_option maxRecDepth 100000 in
theorem ev_L0 : leaf5 0 = 75834388955101247480436101653958410843 := by decide +kernel
set_option maxRecDepth 100000 in
theorem ev_L1 : leaf5 1 = 328226668460810497587721703932304802084 := by decide +kernel
theorem ev_P : nodeN 75834388955101247480436101653958410843 328226668460810497587721703932304802084 = 84894325024026104674930802076797857984 := by decide +kernel
theorem ev_M1 : msgN 84894325024026104674930802076797857984 1 [109] = 209784191418592467743708763540994863173 := by decide +kernel
theorem ev_M0 : msgN 84894325024026104674930802076797857984 0 [109] = 155260342525406904151191918993764394773 := by decide +kernel
theorem ev_N1 : msgN 84894325024026104674930802076797857984 1 [110] = 202076568525989820496287547387274940098 := by decide +kernel
set_option maxRecDepth 100000 in
theorem ev_V : other5 1 (b16 209784191418592467743708763540994863173) (b16 202076568525989820496287547387274940098) = 9335899557113659830843976340035550409 := by decide +kernel
theorem ev_R : nodeN 75834388955101247480436101653958410843 9335899557113659830843976340035550409 = 44462974240320033059145218903297327539 := by decide +kernel
def pub5 : List UInt8 := b16 84894325024026104674930802076797857984
theorem leaf5_0 : treeL seed5 0 0 = b16 75834388955101247480436101653958410843 := of_b16 (treeL_len _ _ _) ((leaf5_eq 0).trans ev_L0)
theorem leaf5_1 : treeL seed5 0 1 = b16 328226668460810497587721703932304802084 := of_b16 (treeL_len _ _ _) ((leaf5_eq 1).trans ev_L1)
theorem node16 {x y z : Nat} (h : nodeN x y = z) (hx : x < 340282366920938463463374607431768211456) (hy : y < 340282366920938463463374607431768211456) : nodeL (b16 x) (b16 y) = b16 z :=
  of_b16 (ofD_len _ _) (by rw [node_nat (b16_len _) (b16_len _), val_b16 hx, val_b16 hy]; exact h)
theorem pub5_eq : treeL seed5 1 0 = pub5 := by
  show nodeL (treeL seed5 0 (2 * 0)) (treeL seed5 0 (2 * 0 + 1)) = _
  rw [show (2 * 0 : Int) = 0 by rfl, show (0 + 1 : Int) = 1 by rfl, leaf5_0, leaf5_1]
  exact node16 ev_P (by decide) (by decide)
theorem msg5_M1 : msgD pub5 1 (byB [109]) = b16 209784191418592467743708763540994863173 := of_b16 (by unfold msgD; rw [List.length_take, sha_len]; rfl) ((msg_nat 84894325024026104674930802076797857984 1 [109] (by decide)).trans ev_M1)
theorem msg5_M0 : msgD pub5 0 (byB [109]) = b16 155260342525406904151191918993764394773 := of_b16 (by unfold msgD; rw [List.length_take, sha_len]; rfl) ((msg_nat 84894325024026104674930802076797857984 0 [109] (by decide)).trans ev_M0)
theorem msg5_N1 : msgD pub5 1 (byB [110]) = b16 202076568525989820496287547387274940098 := of_b16 (by unfold msgD; rw [List.length_take, sha_len]; rfl) ((msg_nat 84894325024026104674930802076797857984 1 [110] (by decide)).trans ev_N1)
theorem msg5_ne : msgD pub5 1 (byB [109]) ≠ msgD pub5 0 (byB [109]) := by
  rw [msg5_M1, msg5_M0]; exact b16_ne (by decide) (by decide) (by decide)
theorem root5_ne : rootV (chainsL seed5 1 (msgD pub5 1 (byB [109])) ++ pathL seed5 1 1) pub5 1 1 (byB [110]) ≠ pub5 := by
  have hl : (chainsL seed5 1 (msgD pub5 1 (byB [109]))).length = 68 * 16 := by unfold chainsL; rw [catL_len (fun j => advL_len _ _ _ _ (startL_len _ _ _))]
  have hv : valL (chainsL seed5 1 (msgD pub5 1 (byB [109])) ++ pathL seed5 1 1) (68 + 0) = b16 75834388955101247480436101653958410843 := by
    rw [valL_shift hl, ← leaf5_0]
    have := catL_take (f := fun l => treeL seed5 l (sib 1 l)) (fun j => treeL_len _ _ _) [] 1 0 (by omega)
    rw [List.append_nil] at this
    exact this
  have hV : leafV (chainsL seed5 1 (msgD pub5 1 (byB [109])) ++ pathL seed5 1 1) (msgD pub5 1 (byB [110])) 1 = b16 9335899557113659830843976340035550409 := by
    refine of_b16 (ofD_len _ _) ?_
    rw [other5_eq, msg5_M1, msg5_N1]
    exact ev_V
  unfold rootV
  rw [climb, if_pos (by decide), hv, climb, hV, node16 ev_R (by decide) (by decide)]
  exact b16_ne (by decide) (by decide) (by decide)
end Go.Proofs.YtblgmjnkllkhbaaDoor
end

/- the text N6 -/
section
/- Chapter 03: the examples' signature. No program in sight. -/
namespace Go.Proofs.YtblgmjnkllkhbaaDoor
open Go.RowKit Go.Dx
def sig5 : List UInt8 := signL seed5 1 1 ⟨#[109]⟩
def body5 : List UInt8 := chainsL seed5 1 (msgD pub5 1 (byB [109])) ++ pathL seed5 1 1
theorem body5_len : body5.length = 69 * 16 := by
  unfold body5 chainsL pathL
  rw [List.length_append, catL_len (fun j => advL_len _ _ _ _ (startL_len _ _ _)), catL_len (fun j => treeL_len _ _ _)]
theorem sig5_eq : sig5 = encInt 1 ++ body5 := by
  have h : byB [109] = ⟨#[109]⟩ := rfl
  unfold sig5 signL body5
  rw [pub5_eq, ← h, List.append_assoc]
theorem enc1_len : (encInt 1).length = 2 := by decide
theorem sig5_len : sig5.length = 1106 := by rw [sig5_eq, List.length_append, enc1_len, body5_len]
theorem sig5_dec : decInt sig5 = (1, ((2 : Nat) : Int), 0) := by
  rw [sig5_eq, decInt_enc (by decide) (by decide), enc1_len]
theorem sig5_drop : sig5.drop 2 = body5 := by
  rw [sig5_eq, ← enc1_len, List.drop_left]
theorem sig5_ok : (if rootV (sig5.drop 2) pub5 1 1 ⟨#[109]⟩ = pub5 then ((1 : Int), (0 : Int)) else (0, 10)) = (1, 0) := by
  have h := accept seed5 1 1 (by decide) (by decide) (byB [109]) pub5 pub5_eq.symm
  have h2 : byB [109] = ⟨#[109]⟩ := rfl
  rw [sig5_drop, if_pos]
  rw [← h2]
  exact h
theorem sig5_no : (if rootV (sig5.drop 2) pub5 1 1 ⟨#[110]⟩ = pub5 then ((1 : Int), (0 : Int)) else (0, 10)) = (0, 10) := by
  have h2 : byB [110] = ⟨#[110]⟩ := rfl
  rw [sig5_drop, if_neg]
  rw [← h2]
  exact root5_ne
theorem dz0 : dgs zero16 0 = 0 := by decide +kernel
theorem dz64 : dgs zero16 64 = 3 := by decide +kernel
theorem dz67 : dgs zero16 67 = 0 := by decide +kernel
end Go.Proofs.YtblgmjnkllkhbaaDoor
end

/- the text S14 -/
section
/- Chapter 03, plain: the digits of two digests cross. No program in sight. -/
namespace Go.Proofs.YtblgmjnkllkhbaaDoor
open Go.RowKit Go.Dx
theorem digN_le (d : List UInt8) (j : Nat) : digN d j ≤ 3 := by unfold digN; omega
theorem sum_mono (a b : List UInt8) : ∀ n, (∀ j, j < n → digN b j ≤ digN a j) → sumN a n ≤ sumN b n ∧ (sumN a n = sumN b n → ∀ j, j < n → digN a j = digN b j) := by
  intro n
  induction n with
  | zero => intro _; exact ⟨Nat.le_refl _, fun _ j hj => by omega⟩
  | succ n ih =>
    intro h
    obtain ⟨h1, h2⟩ := ih (fun j hj => h j (by omega))
    have h3 := h n (by omega)
    have h4 := digN_le a n
    have h5 := digN_le b n
    rw [sumN, sumN]
    refine ⟨by omega, fun e j hj => ?_⟩
    by_cases hjn : j = n
    · subst hjn; omega
    · exact h2 (by omega) j (by omega)
theorem bytes_of_digs {a b : List UInt8} (ha : a.length = 16) (hb : b.length = 16) (h : ∀ j, j < 64 → digN a j = digN b j) : a = b := by
  apply List.ext_getElem (by rw [ha, hb])
  intro q h1 h2
  have d0 := h (4 * q) (by omega)
  have d1 := h (4 * q + 1) (by omega)
  have d2 := h (4 * q + 2) (by omega)
  have d3 := h (4 * q + 3) (by omega)
  unfold digN at d0 d1 d2 d3
  have ga : a.getD q 0 = a[q] := by rw [List.getD_eq_getElem?_getD, List.getElem?_eq_getElem h1]; rfl
  have gb : b.getD q 0 = b[q] := by rw [List.getD_eq_getElem?_getD, List.getElem?_eq_getElem h2]; rfl
  rw [show 4 * q / 4 = q by omega, show 3 - 4 * q % 4 = 3 by omega, ga, gb] at d0
  rw [show (4 * q + 1) / 4 = q by omega, show 3 - (4 * q + 1) % 4 = 2 by omega, ga, gb] at d1
  rw [show (4 * q + 2) / 4 = q by omega, show 3 - (4 * q + 2) % 4 = 1 by omega, ga, gb] at d2
  rw [show (4 * q + 3) / 4 = q by omega, show 3 - (4 * q + 3) % 4 = 0 by omega, ga, gb] at d3
  apply UInt8.toNat_inj.1
  have := UInt8.toNat_lt a[q]
  have := UInt8.toNat_lt b[q]
  omega
theorem four_digs {x : Nat} (h : x < 256) : x = x / 64 % 4 * 64 + x / 16 % 4 * 16 + x / 4 % 4 * 4 + x % 4 := by omega
theorem cross_le {a b : List UInt8} (ha : a.length = 16) (hb : b.length = 16) (h : ∀ j, j < 68 → dgs b j ≤ dgs a j) : a = b := by
  have hd : ∀ j, j < 64 → digN b j ≤ digN a j := fun j hj => by have := h j (by omega); unfold dgs at this; rw [if_pos hj, if_pos hj] at this; exact this
  obtain ⟨h1, h2⟩ := sum_mono a b 64 hd
  have c0 := h 64 (by omega)
  have c1 := h 65 (by omega)
  have c2 := h 66 (by omega)
  have c3 := h 67 (by omega)
  unfold dgs at c0 c1 c2 c3
  simp only [show ¬ (64 < 64) by omega, show ¬ (65 < 64) by omega, show ¬ (66 < 64) by omega, show ¬ (67 < 64) by omega, if_false] at c0 c1 c2 c3
  have sa := sumN_le a 64
  have sb := sumN_le b 64
  refine bytes_of_digs ha hb (h2 ?_)
  simp only [show 67 - 64 = 3 by rfl, show 67 - 65 = 2 by rfl, show 67 - 66 = 1 by rfl, show 67 - 67 = 0 by rfl, show 4 ^ 3 = 64 by rfl, show 4 ^ 2 = 16 by rfl, show 4 ^ 1 = 4 by rfl, show 4 ^ 0 = 1 by rfl, Nat.div_one] at c0 c1 c2 c3
  have ea := four_digs (x := sumN a 64) (by omega)
  have eb := four_digs (x := sumN b 64) (by omega)
  generalize sumN a 64 / 64 % 4 = a0 at *
  generalize sumN a 64 / 16 % 4 = a1 at *
  generalize sumN a 64 / 4 % 4 = a2 at *
  generalize sumN a 64 % 4 = a3 at *
  generalize sumN b 64 / 64 % 4 = b0 at *
  generalize sumN b 64 / 16 % 4 = b1 at *
  generalize sumN b 64 / 4 % 4 = b2 at *
  generalize sumN b 64 % 4 = b3 at *
  omega
end Go.Proofs.YtblgmjnkllkhbaaDoor
end

/- the text S20 -/
section
/- Chapter 03: the law's examples. -/
set_option linter.unusedVariables false
namespace Go.Proofs.YtblgmjnkllkhbaaDoor
open Go.RowKit Go.Dx
theorem law_seed5 (w : World) : Calls Tryd.prog 20 #[.int .u8 5] w fun e w' => e = .returned (.string (byB seed5)) ∧ Below w.heap.size w w' := law_seed 5 w
set_option maxRecDepth 100000 in
set_option maxHeartbeats 4000000 in
theorem law3_sanity (w : World) (hL : Laid w) :
    Calls Tryd.prog 9 #[] w fun e w' => e = .returned (.bool true) ∧ Below w.heap.size w w' := by
  obtain ⟨Z, hZ⟩ : ∃ Z, Hid (zero16 = Z) := ⟨_, rfl⟩
  have h16 := zero_16
  have hbz := build_z16
  have hSd := law_seed5
  have e0 := dz0
  have e64 := dz64
  have e67 := dz67
  have eok := sig5_ok
  have eno := sig5_no
  have edec := sig5_dec
  have elen := sig5_len
  have hbad := fun (s : ByteArray) (h : Int) (hb : ¬ (s.size = 32 ∧ 0 ≤ h ∧ h ≤ 6)) (hs : s.size ≤ 9223372036854775807) (w : World) => sg_Public_bad s h hb hs w
  rw [hZ.out] at h16 hbz e0 e64 e67 hbad
  obtain ⟨S, HS⟩ : ∃ S, Hid (byB seed5 = S) := ⟨_, rfl⟩
  rw [HS.out] at hSd
  have hS32 : S.size = 32 := by rw [← HS.out, byB_size]; rfl
  obtain ⟨P, HP⟩ : ∃ P, Hid (pub5 = P) := ⟨_, rfl⟩
  have hPl : P.length = 16 := by rw [← HP.out]; exact b16_len _
  have HPt : Hid (treeL S.data.toList (1 : Int).toNat 0 = P) := hide (by rw [← HS.out, ← HP.out]; exact pub5_eq)
  obtain ⟨R, HR⟩ : ∃ R, Hid (sig5 = R) := ⟨_, rfl⟩
  have HRs : Hid (signL S.data.toList (1 : Int).toNat 1 ⟨#[109]⟩ = R) := hide (by rw [← HS.out, ← HR.out]; rfl)
  rw [HP.out, HR.out] at eok eno
  rw [HR.out] at edec elen
  obtain ⟨M1, HM1⟩ : ∃ M, Hid (msgD P 1 ⟨#[109]⟩ = M) := ⟨_, rfl⟩
  obtain ⟨M0, HM0⟩ : ∃ M, Hid (msgD P 0 ⟨#[109]⟩ = M) := ⟨_, rfl⟩
  have hMM : M1 ≠ M0 := by rw [← HM1.out, ← HM0.out, ← HP.out]; exact msg5_ne
  have hM1l : M1.length = 16 := by rw [← HM1.out]; unfold msgD; rw [List.length_take, sha_len]; rfl
  have hM0l : M0.length = 16 := by rw [← HM0.out]; unfold msgD; rw [List.length_take, sha_len]; rfl
  have hZl : Hid (Z.length = 16) := hide (by rw [← hZ.out]; rfl)
  have HS1 : Hid (S.extract 1 S.size = byB (seed5.drop 1)) := hide (by rw [← HS.out]; exact byB_drop seed5 1)
  obtain ⟨T, HT⟩ : ∃ T, Hid (byB (seed5.drop 1) = T) := ⟨_, rfl⟩
  have HS1 : Hid (S.extract 1 S.size = T) := hide (by rw [← HT.out]; exact HS1.out)
  have hT31 : T.size = 31 := by rw [← HT.out, byB_size]; rfl
  have hL := hide hL
  have hPl := hide hPl
  have hM1l := hide hM1l
  have hM0l := hide hM0l
  have hMM := hide hMM
  have eok := hide eok
  have eno := hide eno
  have edec := hide edec
  have elen := hide elen
  have hS32 := hide hS32
  have hT31 := hide hT31
  have e0 := hide e0
  have e64 := hide e64
  have e67 := hide e67
  have hzP : Hid ((Tryd.prog.info? 23).map (·.size) = some (P.map B8).length) := hide (by rw [List.length_map, hPl.out]; exact size_dig')
  have hzZ : Hid ((Tryd.prog.info? 23).map (·.size) = some (Z.map B8).length) := hide (by rw [List.length_map, hZl.out]; exact size_dig')
  go_enter Tryd.func9, Tryd.ntmps9
  go_wp2_with fail
  refine (hSd _).mono ?_
  rintro e w1 ⟨rfl, b1⟩
  go_wp2_with fail
  refine (sg_Public S 1 hS32.out (by decide) (by decide) HPt.out _ (hL.out.below b1)).mono ?_
  rintro e w2 ⟨rfl, h2⟩
  have b2 := b1.trans (h2.mono b1.size)
  clear h2 b1
  go_wp2_with (with_reducible refine hold_store ?_)
  refine hide ?_
  refine store_all 23 _ _ 23 w2.heap.size (Z.map B8) (P.map B8) (.agg (P.map B8).toArray) hzP.out (Box.new w2 _ _) (by rfl) (by rfl) rfl (by rw [List.length_map, hPl.out, List.length_map, hZl.out]) (one_map _ (fun _ => rfl) _) ?_
  intro w3 xp hgr hsz'
  have h3 : Below w2.heap.size w2 w3 := (sblo w2 _).grown hgr (by simp) (fun k hk => by cases hk; exact Nat.le_refl _)
  have b3 := b2.trans (h3.mono b2.size)
  have l3 := b2.size
  generalize w2.heap.size = Gp at *
  clear hgr hsz' h3 b2
  go_wp2_with fail
  refine (sg_Sign S 1 1 ⟨#[109]⟩ hS32.out (by decide) (by decide) (by decide) (by decide) (by decide) HRs.out _ (hL.out.below b3)).mono ?_
  rintro e w4 ⟨rfl, h4⟩
  have xp := xp.under h4
  have b4 := b3.trans (h4.mono b3.size)
  clear h4 b3
  go_wp2_with (with_reducible refine load_box 27 23 _ 23 Gp 0 (P.map B8) (P.map B8) isAgg_dig hzP.out xp rfl (fun j u hj => by rw [Nat.zero_add]; exact hj) ?_)
  refine (sg_Verify_fit P hPl.out 1 ⟨#[109]⟩ (byB R) (by decide) (by decide) (by decide) (by rw [byB_size, elen.out]; decide) 1 2 edec.out (by rw [byB_size, elen.out]; decide) (by decide) (by decide) (by rw [byB_size, elen.out]; rfl) eok.out _ (hL.out.below b4)).mono ?_
  rintro e w5 ⟨rfl, h5⟩
  have xp := xp.under h5
  have b5 := b4.trans (h5.mono b4.size)
  clear h5 b4
  go_wp2_with (with_reducible refine load_box 33 23 _ 23 Gp 0 (P.map B8) (P.map B8) isAgg_dig hzP.out xp rfl (fun j u hj => by rw [Nat.zero_add]; exact hj) ?_)
  refine (sg_Verify_fit P hPl.out 1 ⟨#[110]⟩ (byB R) (by decide) (by decide) (by decide) (by rw [byB_size, elen.out]; decide) 1 2 edec.out (by rw [byB_size, elen.out]; decide) (by decide) (by decide) (by rw [byB_size, elen.out]; rfl) eno.out _ (hL.out.below b5)).mono ?_
  rintro e w6 ⟨rfl, h6⟩
  have xp := xp.under h6
  have b6 := b5.trans (h6.mono b5.size)
  clear h6 b5
  go_wp2_with fail
  refine (sg_Sign_spent S 1 2 ⟨#[109]⟩ hS32.out (by decide) (by decide) (by decide) _).mono ?_
  rintro e w7 ⟨rfl, hq⟩
  rw [← hq]
  clear hq
  go_wp2_with (with_reducible refine str_lo 45 9 Tryd.underlying9 _ _ S T .i64 1 rfl rfl (by rw [hS32.out]; decide) HS1.out ?_)
  refine (hbad T 0 (by rw [hT31.out]; decide) (by rw [hT31.out]; decide) _).mono ?_
  rintro e w8 ⟨rfl, h8⟩
  have xp := xp.under h8
  have b8 := b6.trans (h8.mono b6.size)
  clear h8 b6
  go_wp2_with (with_reducible refine hold_store ?_)
  refine hide ?_
  refine store_all 23 _ _ 23 w8.heap.size (Z.map B8) (Z.map B8) (.agg (Z.map B8).toArray) hzZ.out (Box.new w8 _ _) (by rfl) (by rfl) rfl rfl (one_map _ (fun _ => rfl) _) ?_
  intro w9 xq hgr hsz'
  have h9 : Below w8.heap.size w8 w9 := (sblo w8 _).grown hgr (by simp) (fun k hk => by cases hk; exact Nat.le_refl _)
  have xp := xp.under h9
  have b9 := b8.trans (h9.mono b8.size)
  clear h9 b8
  generalize w8.heap.size = Gq at *
  clear hgr hsz' xq
  have hbz' := hbz
  go_wp2_with fail
  refine (sg_Digits Z hZl.out _).mono ?_
  rintro e w10 ⟨bd, rfl, xd, hbd, h10⟩
  have xp := xp.under h10
  have b10 := b9.trans (h10.mono b9.size)
  clear h10 b9
  clear hbz hbz' hbd
  obtain ⟨DL, HDL⟩ : ∃ D, Hid (((List.range 68).map fun j => (dgs Z j : Int)).map I64 = D) := ⟨_, rfl⟩
  have q0 : DL[0]? = some (I64 0) := by rw [← HDL.out, List.getElem?_map, List.getElem?_map, List.getElem?_range (by decide)]; show some (I64 (dgs Z 0 : Int)) = _; rw [e0.out]; rfl
  have q64 : DL[64]? = some (I64 3) := by rw [← HDL.out, List.getElem?_map, List.getElem?_map, List.getElem?_range (by decide)]; show some (I64 (dgs Z 64 : Int)) = _; rw [e64.out]; rfl
  have q67 : DL[67]? = some (I64 0) := by rw [← HDL.out, List.getElem?_map, List.getElem?_map, List.getElem?_range (by decide)]; show some (I64 (dgs Z 67 : Int)) = _; rw [e67.out]; rfl
  rw [HDL.out] at xd
  have q0 := hide q0
  have q64 := hide q64
  have q67 := hide q67
  go_wp2_with fail
  have hL10 := hide (hL.out.below b10)
  refine wp_region_free 39 [⟨0, 66, [66], fun vs _ => vs = [.int .i64 1]⟩, ⟨1, 67, [67], fun vs _ => vs = [.bool true]⟩, ⟨2, 68, [68], fun vs _ => vs = [.bool true]⟩, ⟨3, 69, [69], fun vs _ => vs = [.int .i64 10]⟩, ⟨4, 70, [70], fun vs _ => vs = [.bool true]⟩, ⟨5, 71, [71], fun vs _ => vs = [.bool true]⟩, ⟨6, 72, [72], fun vs _ => vs = [.bool true]⟩, ⟨7, 73, [73], fun vs _ => vs = [.int .i64 27]⟩, ⟨8, 74, [74], fun vs _ => vs = [.bool true]⟩, ⟨9, 75, [75], fun vs _ => vs = [.bool true]⟩, ⟨10, 76, [76], fun vs _ => vs = [.bool true]⟩, ⟨11, 77, [77], fun vs _ => vs = [.int .i64 1]⟩, ⟨12, 78, [78], fun vs _ => vs = [.bool true]⟩, ⟨13, 79, [79], fun vs _ => vs = [.bool true]⟩, ⟨14, 80, [80], fun vs _ => vs = [.bool true]⟩, ⟨15, 81, [81], fun vs _ => vs = [.slice (some ⟨bd, 0, none⟩) 68 68]⟩, ⟨16, 82, [82], fun vs _ => vs = [.pointer (some ⟨bd, 0, none⟩)]⟩, ⟨17, 83, [83], fun vs _ => vs = [.int .i64 0]⟩, ⟨18, 84, [84], fun vs _ => vs = [.bool true]⟩, ⟨19, 85, [85], fun vs _ => vs = [.bool true]⟩, ⟨20, 86, [86], fun vs _ => vs = [.bool true]⟩, ⟨21, 87, [87], fun vs _ => vs = [.slice (some ⟨bd, 0, none⟩) 68 68]⟩, ⟨22, 88, [88], fun vs _ => vs = [.pointer (some ⟨bd, 64, none⟩)]⟩, ⟨23, 89, [89], fun vs _ => vs = [.int .i64 3]⟩, ⟨24, 90, [90], fun vs _ => vs = [.bool true]⟩, ⟨25, 91, [91], fun vs _ => vs = [.bool true]⟩, ⟨26, 92, [92], fun vs _ => vs = [.bool true]⟩, ⟨27, 93, [93], fun vs _ => vs = [.slice (some ⟨bd, 0, none⟩) 68 68]⟩, ⟨28, 94, [94], fun vs _ => vs = [.pointer (some ⟨bd, 67, none⟩)]⟩, ⟨29, 95, [95], fun vs _ => vs = [.int .i64 0]⟩, ⟨30, 96, [96], fun vs _ => vs = [.bool true]⟩, ⟨31, 97, [97], fun vs _ => vs = [.bool true]⟩, ⟨32, 98, [98], fun vs _ => vs = [.bool true]⟩, ⟨33, 99, [99], fun vs _ => vs = [.agg (P.map B8).toArray]⟩, ⟨34, 100, [100], fun vs _ => vs = [.agg (M1.map B8).toArray]⟩, ⟨35, 101, [101], fun vs _ => vs = [.agg (P.map B8).toArray]⟩, ⟨36, 102, [102], fun vs _ => vs = [.agg (M0.map B8).toArray]⟩, ⟨37, 103, [103], fun vs _ => vs = [.bool true]⟩, ⟨38, 104, [104], fun vs _ => vs = [.bool true]⟩] (by kernel_rfl) (by kernel_rfl) ?_ ?_ ?_
  · simp only [All]
    refine ⟨fun _ _ _ _ h => h, fun _ _ _ _ h => h, fun _ _ _ _ h => h, fun _ _ _ _ h => h, fun _ _ _ _ h => h, fun _ _ _ _ h => h, fun _ _ _ _ h => h, fun _ _ _ _ h => h, fun _ _ _ _ h => h, fun _ _ _ _ h => h, fun _ _ _ _ h => h, fun _ _ _ _ h => h, fun _ _ _ _ h => h, fun _ _ _ _ h => h, fun _ _ _ _ h => h, fun _ _ _ _ h => h, fun _ _ _ _ h => h, fun _ _ _ _ h => h, fun _ _ _ _ h => h, fun _ _ _ _ h => h, fun _ _ _ _ h => h, fun _ _ _ _ h => h, fun _ _ _ _ h => h, fun _ _ _ _ h => h, fun _ _ _ _ h => h, fun _ _ _ _ h => h, fun _ _ _ _ h => h, fun _ _ _ _ h => h, fun _ _ _ _ h => h, fun _ _ _ _ h => h, fun _ _ _ _ h => h, fun _ _ _ _ h => h, fun _ _ _ _ h => h, fun _ _ _ _ h => h, fun _ _ _ _ h => h, fun _ _ _ _ h => h, fun _ _ _ _ h => h, fun _ _ _ _ h => h, fun _ _ _ _ h => h, trivial⟩
  · simp only [All]
    refine ⟨?_, ?_, ?_, ?_, ?_, ?_, ?_, ?_, ?_, ?_, ?_, ?_, ?_, ?_, ?_, ?_, ?_, ?_, ?_, ?_, ?_, ?_, ?_, ?_, ?_, ?_, ?_, ?_, ?_, ?_, ?_, ?_, ?_, ?_, ?_, ?_, ?_, ?_, ?_, trivial⟩
    · intro o ho a' w' hb hfr hdep
      obtain rfl := Option.some.inj ho
      have g6 : a'.tmps[6]?.getD undef = .int .i64 1 := by have h := hfr 6 (by kernel_rfl); simpa using h
      clear ho hfr hdep
      go_wp2_with fail
      exact ⟨rfl, _, rfl, Below.refl _ _, rfl⟩
    · intro o ho a' w' hb hfr hdep
      obtain rfl := Option.some.inj ho
      have g66 : a'.tmps[66]?.getD undef = .int .i64 1 := by have h := hdep 0 _ rfl (by kernel_rfl); simpa using h
      clear ho hfr hdep
      go_wp2_with fail
      exact ⟨rfl, _, rfl, Below.refl _ _, rfl⟩
    · intro o ho a' w' hb hfr hdep
      obtain rfl := Option.some.inj ho
      have g67 : a'.tmps[67]?.getD undef = .bool true := by have h := hdep 1 _ rfl (by kernel_rfl); simpa using h
      clear ho hfr hdep
      go_wp2_with fail
      exact ⟨rfl, _, rfl, Below.refl _ _, rfl⟩
    · intro o ho a' w' hb hfr hdep
      obtain rfl := Option.some.inj ho
      have g9 : a'.tmps[9]?.getD undef = .int .i64 10 := by have h := hfr 9 (by kernel_rfl); simpa using h
      have g68 : a'.tmps[68]?.getD undef = .bool true := by have h := hdep 2 _ rfl (by kernel_rfl); simpa using h
      have q68 := opt_bool g68
      clear ho hfr hdep
      refine unguard_any (by simp [Region.wanted, yielded, q68]) ?_
      go_wp2_with fail
      exact ⟨rfl, _, rfl, Below.refl _ _, rfl⟩
    · intro o ho a' w' hb hfr hdep
      obtain rfl := Option.some.inj ho
      have g69 : a'.tmps[69]?.getD undef = .int .i64 10 := by have h := hdep 3 _ rfl (by kernel_rfl); simpa using h
      have g68 : a'.tmps[68]?.getD undef = .bool true := by have h := hdep 2 _ rfl (by kernel_rfl); simpa using h
      have q68 := opt_bool g68
      clear ho hfr hdep
      refine unguard_any (by simp [Region.wanted, yielded, q68]) ?_
      go_wp2_with fail
      exact ⟨rfl, _, rfl, Below.refl _ _, rfl⟩
    · intro o ho a' w' hb hfr hdep
      obtain rfl := Option.some.inj ho
      have g68 : a'.tmps[68]?.getD undef = .bool true := by have h := hdep 2 _ rfl (by kernel_rfl); simpa using h
      have g70 : a'.tmps[70]?.getD undef = .bool true := by have h := hdep 4 _ rfl (by kernel_rfl); simpa using h
      clear ho hfr hdep
      go_wp2_with fail
      exact ⟨rfl, _, rfl, Below.refl _ _, rfl⟩
    · intro o ho a' w' hb hfr hdep
      obtain rfl := Option.some.inj ho
      have g71 : a'.tmps[71]?.getD undef = .bool true := by have h := hdep 5 _ rfl (by kernel_rfl); simpa using h
      clear ho hfr hdep
      go_wp2_with fail
      exact ⟨rfl, _, rfl, Below.refl _ _, rfl⟩
    · intro o ho a' w' hb hfr hdep
      obtain rfl := Option.some.inj ho
      have g11 : a'.tmps[11]?.getD undef = .int .i64 27 := by have h := hfr 11 (by kernel_rfl); simpa using h
      have g72 : a'.tmps[72]?.getD undef = .bool true := by have h := hdep 6 _ rfl (by kernel_rfl); simpa using h
      have q72 := opt_bool g72
      clear ho hfr hdep
      refine unguard_any (by simp [Region.wanted, yielded, q72]) ?_
      go_wp2_with fail
      exact ⟨rfl, _, rfl, Below.refl _ _, rfl⟩
    · intro o ho a' w' hb hfr hdep
      obtain rfl := Option.some.inj ho
      have g73 : a'.tmps[73]?.getD undef = .int .i64 27 := by have h := hdep 7 _ rfl (by kernel_rfl); simpa using h
      have g72 : a'.tmps[72]?.getD undef = .bool true := by have h := hdep 6 _ rfl (by kernel_rfl); simpa using h
      have q72 := opt_bool g72
      clear ho hfr hdep
      refine unguard_any (by simp [Region.wanted, yielded, q72]) ?_
      go_wp2_with fail
      exact ⟨rfl, _, rfl, Below.refl _ _, rfl⟩
    · intro o ho a' w' hb hfr hdep
      obtain rfl := Option.some.inj ho
      have g72 : a'.tmps[72]?.getD undef = .bool true := by have h := hdep 6 _ rfl (by kernel_rfl); simpa using h
      have g74 : a'.tmps[74]?.getD undef = .bool true := by have h := hdep 8 _ rfl (by kernel_rfl); simpa using h
      clear ho hfr hdep
      go_wp2_with fail
      exact ⟨rfl, _, rfl, Below.refl _ _, rfl⟩
    · intro o ho a' w' hb hfr hdep
      obtain rfl := Option.some.inj ho
      have g75 : a'.tmps[75]?.getD undef = .bool true := by have h := hdep 9 _ rfl (by kernel_rfl); simpa using h
      clear ho hfr hdep
      go_wp2_with fail
      exact ⟨rfl, _, rfl, Below.refl _ _, rfl⟩
    · intro o ho a' w' hb hfr hdep
      obtain rfl := Option.some.inj ho
      have g13 : a'.tmps[13]?.getD undef = .int .i64 1 := by have h := hfr 13 (by kernel_rfl); simpa using h
      have g76 : a'.tmps[76]?.getD undef = .bool true := by have h := hdep 10 _ rfl (by kernel_rfl); simpa using h
      have q76 := opt_bool g76
      clear ho hfr hdep
      refine unguard_any (by simp [Region.wanted, yielded, q76]) ?_
      go_wp2_with fail
      exact ⟨rfl, _, rfl, Below.refl _ _, rfl⟩
    · intro o ho a' w' hb hfr hdep
      obtain rfl := Option.some.inj ho
      have g77 : a'.tmps[77]?.getD undef = .int .i64 1 := by have h := hdep 11 _ rfl (by kernel_rfl); simpa using h
      have g76 : a'.tmps[76]?.getD undef = .bool true := by have h := hdep 10 _ rfl (by kernel_rfl); simpa using h
      have q76 := opt_bool g76
      clear ho hfr hdep
      refine unguard_any (by simp [Region.wanted, yielded, q76]) ?_
      go_wp2_with fail
      exact ⟨rfl, _, rfl, Below.refl _ _, rfl⟩
    · intro o ho a' w' hb hfr hdep
      obtain rfl := Option.some.inj ho
      have g76 : a'.tmps[76]?.getD undef = .bool true := by have h := hdep 10 _ rfl (by kernel_rfl); simpa using h
      have g78 : a'.tmps[78]?.getD undef = .bool true := by have h := hdep 12 _ rfl (by kernel_rfl); simpa using h
      clear ho hfr hdep
      go_wp2_with fail
      exact ⟨rfl, _, rfl, Below.refl _ _, rfl⟩
    · intro o ho a' w' hb hfr hdep
      obtain rfl := Option.some.inj ho
      have g79 : a'.tmps[79]?.getD undef = .bool true := by have h := hdep 13 _ rfl (by kernel_rfl); simpa using h
      clear ho hfr hdep
      go_wp2_with fail
      exact ⟨rfl, _, rfl, Below.refl _ _, rfl⟩
    · intro o ho a' w' hb hfr hdep
      obtain rfl := Option.some.inj ho
      have g14 : a'.tmps[14]?.getD undef = .slice (some ⟨bd, 0, none⟩) 68 68 := by have h := hfr 14 (by kernel_rfl); simpa using h
      have g80 : a'.tmps[80]?.getD undef = .bool true := by have h := hdep 14 _ rfl (by kernel_rfl); simpa using h
      have q80 := opt_bool g80
      clear ho hfr hdep
      refine unguard_any (by simp [Region.wanted, yielded, q80]) ?_
      go_wp2_with fail
      exact ⟨rfl, _, rfl, Below.refl _ _, rfl⟩
    · intro o ho a' w' hb hfr hdep
      obtain rfl := Option.some.inj ho
      have g81 : a'.tmps[81]?.getD undef = .slice (some ⟨bd, 0, none⟩) 68 68 := by have h := hdep 15 _ rfl (by kernel_rfl); simpa using h
      have g80 : a'.tmps[80]?.getD undef = .bool true := by have h := hdep 14 _ rfl (by kernel_rfl); simpa using h
      have q80 := opt_bool g80
      clear ho hfr hdep
      refine unguard_any (by simp [Region.wanted, yielded, q80]) ?_
      go_wp2_with fail
      exact ⟨rfl, _, rfl, Below.refl _ _, rfl⟩
    · intro o ho a' w' hb hfr hdep
      obtain rfl := Option.some.inj ho
      have g82 : a'.tmps[82]?.getD undef = .pointer (some ⟨bd, 0, none⟩) := by have h := hdep 16 _ rfl (by kernel_rfl); simpa using h
      have g80 : a'.tmps[80]?.getD undef = .bool true := by have h := hdep 14 _ rfl (by kernel_rfl); simpa using h
      have q80 := opt_bool g80
      clear ho hfr hdep
      refine unguard_any (by simp [Region.wanted, yielded, q80]) ?_
      have hcl := (xd.under hb).at_ q0.out
      go_wp2_with fail
      exact ⟨rfl, _, rfl, Below.refl _ _, rfl⟩
    · intro o ho a' w' hb hfr hdep
      obtain rfl := Option.some.inj ho
      have g83 : a'.tmps[83]?.getD undef = .int .i64 0 := by have h := hdep 17 _ rfl (by kernel_rfl); simpa using h
      have g80 : a'.tmps[80]?.getD undef = .bool true := by have h := hdep 14 _ rfl (by kernel_rfl); simpa using h
      have q80 := opt_bool g80
      clear ho hfr hdep
      refine unguard_any (by simp [Region.wanted, yielded, q80]) ?_
      go_wp2_with fail
      exact ⟨rfl, _, rfl, Below.refl _ _, rfl⟩
    · intro o ho a' w' hb hfr hdep
      obtain rfl := Option.some.inj ho
      have g80 : a'.tmps[80]?.getD undef = .bool true := by have h := hdep 14 _ rfl (by kernel_rfl); simpa using h
      have g84 : a'.tmps[84]?.getD undef = .bool true := by have h := hdep 18 _ rfl (by kernel_rfl); simpa using h
      clear ho hfr hdep
      go_wp2_with fail
      exact ⟨rfl, _, rfl, Below.refl _ _, rfl⟩
    · intro o ho a' w' hb hfr hdep
      obtain rfl := Option.some.inj ho
      have g85 : a'.tmps[85]?.getD undef = .bool true := by have h := hdep 19 _ rfl (by kernel_rfl); simpa using h
      clear ho hfr hdep
      go_wp2_with fail
      exact ⟨rfl, _, rfl, Below.refl _ _, rfl⟩
    · intro o ho a' w' hb hfr hdep
      obtain rfl := Option.some.inj ho
      have g14 : a'.tmps[14]?.getD undef = .slice (some ⟨bd, 0, none⟩) 68 68 := by have h := hfr 14 (by kernel_rfl); simpa using h
      have g86 : a'.tmps[86]?.getD undef = .bool true := by have h := hdep 20 _ rfl (by kernel_rfl); simpa using h
      have q86 := opt_bool g86
      clear ho hfr hdep
      refine unguard_any (by simp [Region.wanted, yielded, q86]) ?_
      go_wp2_with fail
      exact ⟨rfl, _, rfl, Below.refl _ _, rfl⟩
    · intro o ho a' w' hb hfr hdep
      obtain rfl := Option.some.inj ho
      have g87 : a'.tmps[87]?.getD undef = .slice (some ⟨bd, 0, none⟩) 68 68 := by have h := hdep 21 _ rfl (by kernel_rfl); simpa using h
      have g86 : a'.tmps[86]?.getD undef = .bool true := by have h := hdep 20 _ rfl (by kernel_rfl); simpa using h
      have q86 := opt_bool g86
      clear ho hfr hdep
      refine unguard_any (by simp [Region.wanted, yielded, q86]) ?_
      go_wp2_with fail
      exact ⟨rfl, _, rfl, Below.refl _ _, rfl⟩
    · intro o ho a' w' hb hfr hdep
      obtain rfl := Option.some.inj ho
      have g88 : a'.tmps[88]?.getD undef = .pointer (some ⟨bd, 64, none⟩) := by have h := hdep 22 _ rfl (by kernel_rfl); simpa using h
      have g86 : a'.tmps[86]?.getD undef = .bool true := by have h := hdep 20 _ rfl (by kernel_rfl); simpa using h
      have q86 := opt_bool g86
      clear ho hfr hdep
      refine unguard_any (by simp [Region.wanted, yielded, q86]) ?_
      have hcl := (xd.under hb).at_ q64.out
      go_wp2_with fail
      exact ⟨rfl, _, rfl, Below.refl _ _, rfl⟩
    · intro o ho a' w' hb hfr hdep
      obtain rfl := Option.some.inj ho
      have g89 : a'.tmps[89]?.getD undef = .int .i64 3 := by have h := hdep 23 _ rfl (by kernel_rfl); simpa using h
      have g86 : a'.tmps[86]?.getD undef = .bool true := by have h := hdep 20 _ rfl (by kernel_rfl); simpa using h
      have q86 := opt_bool g86
      clear ho hfr hdep
      refine unguard_any (by simp [Region.wanted, yielded, q86]) ?_
      go_wp2_with fail
      exact ⟨rfl, _, rfl, Below.refl _ _, rfl⟩
    · intro o ho a' w' hb hfr hdep
      obtain rfl := Option.some.inj ho
      have g86 : a'.tmps[86]?.getD undef = .bool true := by have h := hdep 20 _ rfl (by kernel_rfl); simpa using h
      have g90 : a'.tmps[90]?.getD undef = .bool true := by have h := hdep 24 _ rfl (by kernel_rfl); simpa using h
      clear ho hfr hdep
      go_wp2_with fail
      exact ⟨rfl, _, rfl, Below.refl _ _, rfl⟩
    · intro o ho a' w' hb hfr hdep
      obtain rfl := Option.some.inj ho
      have g91 : a'.tmps[91]?.getD undef = .bool true := by have h := hdep 25 _ rfl (by kernel_rfl); simpa using h
      clear ho hfr hdep
      go_wp2_with fail
      exact ⟨rfl, _, rfl, Below.refl _ _, rfl⟩
    · intro o ho a' w' hb hfr hdep
      obtain rfl := Option.some.inj ho
      have g14 : a'.tmps[14]?.getD undef = .slice (some ⟨bd, 0, none⟩) 68 68 := by have h := hfr 14 (by kernel_rfl); simpa using h
      have g92 : a'.tmps[92]?.getD undef = .bool true := by have h := hdep 26 _ rfl (by kernel_rfl); simpa using h
      have q92 := opt_bool g92
      clear ho hfr hdep
      refine unguard_any (by simp [Region.wanted, yielded, q92]) ?_
      go_wp2_with fail
      exact ⟨rfl, _, rfl, Below.refl _ _, rfl⟩
    · intro o ho a' w' hb hfr hdep
      obtain rfl := Option.some.inj ho
      have g93 : a'.tmps[93]?.getD undef = .slice (some ⟨bd, 0, none⟩) 68 68 := by have h := hdep 27 _ rfl (by kernel_rfl); simpa using h
      have g92 : a'.tmps[92]?.getD undef = .bool true := by have h := hdep 26 _ rfl (by kernel_rfl); simpa using h
      have q92 := opt_bool g92
      clear ho hfr hdep
      refine unguard_any (by simp [Region.wanted, yielded, q92]) ?_
      go_wp2_with fail
      exact ⟨rfl, _, rfl, Below.refl _ _, rfl⟩
    · intro o ho a' w' hb hfr hdep
      obtain rfl := Option.some.inj ho
      have g94 : a'.tmps[94]?.getD undef = .pointer (some ⟨bd, 67, none⟩) := by have h := hdep 28 _ rfl (by kernel_rfl); simpa using h
      have g92 : a'.tmps[92]?.getD undef = .bool true := by have h := hdep 26 _ rfl (by kernel_rfl); simpa using h
      have q92 := opt_bool g92
      clear ho hfr hdep
      refine unguard_any (by simp [Region.wanted, yielded, q92]) ?_
      have hcl := (xd.under hb).at_ q67.out
      go_wp2_with fail
      exact ⟨rfl, _, rfl, Below.refl _ _, rfl⟩
    · intro o ho a' w' hb hfr hdep
      obtain rfl := Option.some.inj ho
      have g95 : a'.tmps[95]?.getD undef = .int .i64 0 := by have h := hdep 29 _ rfl (by kernel_rfl); simpa using h
      have g92 : a'.tmps[92]?.getD undef = .bool true := by have h := hdep 26 _ rfl (by kernel_rfl); simpa using h
      have q92 := opt_bool g92
      clear ho hfr hdep
      refine unguard_any (by simp [Region.wanted, yielded, q92]) ?_
      go_wp2_with fail
      exact ⟨rfl, _, rfl, Below.refl _ _, rfl⟩
    · intro o ho a' w' hb hfr hdep
      obtain rfl := Option.some.inj ho
      have g92 : a'.tmps[92]?.getD undef = .bool true := by have h := hdep 26 _ rfl (by kernel_rfl); simpa using h
      have g96 : a'.tmps[96]?.getD undef = .bool true := by have h := hdep 30 _ rfl (by kernel_rfl); simpa using h
      clear ho hfr hdep
      go_wp2_with fail
      exact ⟨rfl, _, rfl, Below.refl _ _, rfl⟩
    · intro o ho a' w' hb hfr hdep
      obtain rfl := Option.some.inj ho
      have g97 : a'.tmps[97]?.getD undef = .bool true := by have h := hdep 31 _ rfl (by kernel_rfl); simpa using h
      clear ho hfr hdep
      go_wp2_with fail
      exact ⟨rfl, _, rfl, Below.refl _ _, rfl⟩
    · intro o ho a' w' hb hfr hdep
      obtain rfl := Option.some.inj ho
      have g2 : a'.tmps[2]?.getD undef = .pointer (some ⟨Gp, 0, none⟩) := by have h := hfr 2 (by kernel_rfl); simpa using h
      have g98 : a'.tmps[98]?.getD undef = .bool true := by have h := hdep 32 _ rfl (by kernel_rfl); simpa using h
      have q98 := opt_bool g98
      clear ho hfr hdep
      refine unguard_any (by simp [Region.wanted, yielded, q98]) ?_
      refine load_box 99 23 _ 23 Gp 0 (P.map B8) (P.map B8) isAgg_dig hzP.out (xp.under hb) (by simpa [Act.eval] using g2) (fun j u hj => by rw [Nat.zero_add]; exact hj) ?_
      exact ⟨rfl, _, rfl, Below.refl _ _, rfl⟩
    · intro o ho a' w' hb hfr hdep
      obtain rfl := Option.some.inj ho
      have g99 : a'.tmps[99]?.getD undef = .agg (P.map B8).toArray := by have h := hdep 33 _ rfl (by kernel_rfl); simpa using h
      have g98 : a'.tmps[98]?.getD undef = .bool true := by have h := hdep 32 _ rfl (by kernel_rfl); simpa using h
      have q98 := opt_bool g98
      clear ho hfr hdep
      refine unguard_any (by simp [Region.wanted, yielded, q98]) ?_
      go_wp2_with fail
      refine (sg_Digest P hPl.out 1 (by decide) (by decide) ⟨#[109]⟩ (by decide) HM1.out _ (hL10.out.below hb)).mono ?_
      rintro e w2 ⟨rfl, h2⟩
      go_wp2_with fail
      exact ⟨rfl, _, rfl, h2, rfl⟩
    · intro o ho a' w' hb hfr hdep
      obtain rfl := Option.some.inj ho
      have g2 : a'.tmps[2]?.getD undef = .pointer (some ⟨Gp, 0, none⟩) := by have h := hfr 2 (by kernel_rfl); simpa using h
      have g98 : a'.tmps[98]?.getD undef = .bool true := by have h := hdep 32 _ rfl (by kernel_rfl); simpa using h
      have q98 := opt_bool g98
      clear ho hfr hdep
      refine unguard_any (by simp [Region.wanted, yielded, q98]) ?_
      refine load_box 101 23 _ 23 Gp 0 (P.map B8) (P.map B8) isAgg_dig hzP.out (xp.under hb) (by simpa [Act.eval] using g2) (fun j u hj => by rw [Nat.zero_add]; exact hj) ?_
      exact ⟨rfl, _, rfl, Below.refl _ _, rfl⟩
    · intro o ho a' w' hb hfr hdep
      obtain rfl := Option.some.inj ho
      have g101 : a'.tmps[101]?.getD undef = .agg (P.map B8).toArray := by have h := hdep 35 _ rfl (by kernel_rfl); simpa using h
      have g98 : a'.tmps[98]?.getD undef = .bool true := by have h := hdep 32 _ rfl (by kernel_rfl); simpa using h
      have q98 := opt_bool g98
      clear ho hfr hdep
      refine unguard_any (by simp [Region.wanted, yielded, q98]) ?_
      go_wp2_with fail
      refine (sg_Digest P hPl.out 0 (by decide) (by decide) ⟨#[109]⟩ (by decide) HM0.out _ (hL10.out.below hb)).mono ?_
      rintro e w2 ⟨rfl, h2⟩
      go_wp2_with fail
      exact ⟨rfl, _, rfl, h2, rfl⟩
    · intro o ho a' w' hb hfr hdep
      obtain rfl := Option.some.inj ho
      have g100 : a'.tmps[100]?.getD undef = .agg (M1.map B8).toArray := by have h := hdep 34 _ rfl (by kernel_rfl); simpa using h
      have g102 : a'.tmps[102]?.getD undef = .agg (M0.map B8).toArray := by have h := hdep 36 _ rfl (by kernel_rfl); simpa using h
      have g98 : a'.tmps[98]?.getD undef = .bool true := by have h := hdep 32 _ rfl (by kernel_rfl); simpa using h
      have q98 := opt_bool g98
      clear ho hfr hdep
      refine unguard_any (by simp [Region.wanted, yielded, q98]) ?_
      refine neq_bytes 103 23 _ _ 5 16 Tryd.underlying23 Tryd.underlying5 size_u8 (by kernel_rfl) M1 M0 (by simpa [Act.eval] using g100) (by simpa [Act.eval] using g102) hM1l.out hM0l.out true (by simp [hMM.out]) ?_
      exact ⟨rfl, _, rfl, Below.refl _ _, rfl⟩
    · intro o ho a' w' hb hfr hdep
      obtain rfl := Option.some.inj ho
      have g98 : a'.tmps[98]?.getD undef = .bool true := by have h := hdep 32 _ rfl (by kernel_rfl); simpa using h
      have g103 : a'.tmps[103]?.getD undef = .bool true := by have h := hdep 37 _ rfl (by kernel_rfl); simpa using h
      clear ho hfr hdep
      go_wp2_with fail
      exact ⟨rfl, _, rfl, Below.refl _ _, rfl⟩
  · intro g w11 hb hp'
    have p104 := hp' 38 _ rfl
    clear hp'
    simp at p104
    simp only [List.drop_succ_cons, List.drop_zero, List.map_cons, List.map_nil, putAll, Act.put, List.setIfInBounds_toArray, List.set_cons_succ, List.set_cons_zero, List.cons_append, List.nil_append, p104]
    go_wp2_with fail
    go_ret
    exact ⟨rfl, b10.trans (hb.mono b10.size)⟩
end Go.Proofs.YtblgmjnkllkhbaaDoor
end

/- the text Row2 -/
section
/- How the arguments of a law read: slices of integers, of strings, of arrays of integers, with the form's own reach. No program. -/
namespace Go.Dx
open Go.RowKit Go.WideShapes Go.ChangeShapes Go.Deep

/-- no part is longer than the form lets it be -/
def Sized {H : Type} (P : Program) (t : TypeId) (d : DataW H) : Prop := ∀ n ∈ d.weights P t, n ≤ reachBytes
section
variable {H : Type} {enc : TypeId × Value → H} {P : Program} {w : World}
theorem sized_at {ts : List TypeId} {ds : List (DataW H)} (hwt : (DataW.weightsEach P ts ds).all (· ≤ reachBytes) = true) (j : Nat) {t : TypeId} {d : DataW H} (ht : ts[j]? = some t) (hd : ds[j]? = some d) : Sized P t d :=
  fun n hn => by simpa using List.all_eq_true.1 hwt _ (DataW.weights_mem_each ht hd n hn)
theorem sized_all {e : TypeId} : ∀ {l : List (DataW H)} {d : DataW H}, d ∈ l → ∀ n ∈ d.weights P e, n ∈ DataW.weightsAll P e l
  | x :: l, d, hd, n, hn => by
    simp only [DataW.weightsAll, List.mem_append]
    rcases List.mem_cons.1 hd with rfl | h
    · exact .inl hn
    · exact .inr (sized_all h n hn)
theorem Sized.slice {t e : TypeId} {elems spare : List (DataW H)} (h : Sized P t (.slice elems spare)) (hu : P.underlying t = some (.slice e)) :
    (elems.length + spare.length) * P.bytesOf e ≤ reachBytes ∧ (∀ d ∈ elems, Sized P e d) :=
  ⟨h _ (by simp [DataW.weights, hu]), fun d hd n hn => h n (by simp only [DataW.weights, hu, List.mem_cons, List.mem_append]; exact .inr (.inl (sized_all hd n hn)))⟩
theorem Sized.string {t : TypeId} {b : List UInt8} (h : Sized P t (DataW.lit (H := H) (.string b))) : b.length ≤ reachBytes := h _ (by simp [DataW.weights])

theorem add_cells {a : Addr} {n : Nat} : a.add n = a.add n := rfl

theorem trod_ints {t e : TypeId} {k : IntKind} (ht : P.underlying t = some (.slice e)) (he : P.underlying e = some (.int k)) (hc : P.cellsOf e = 1) (hb : 0 < P.bytesOf e) {a : Option Addr} {len cap : Nat} {d : DataW H} {p : List MemPlace}
    (hs : Sized P t d) (h : DataW.Trod enc P w 0 (fun _ => true) true t (.slice a len cap) d p) :
    ∃ zs : List Int, Sl w 1 a len cap (zs.map (Value.int k)) ∧ (∀ n ∈ zs, (Lit.int k n).wf = true) ∧ len ≤ reachBytes := by
  obtain ⟨fuel, hf⟩ := h
  rcases open_ints ht he hc hf with ⟨hcs, _⟩ | ⟨x, l, c, zs, hcs, _, hl, hm, hz, hx, hcell, hwz⟩
  · simp [Value.cells] at hcs
    obtain ⟨rfl, rfl, rfl⟩ := hcs
    exact ⟨[], Sl.empty w 1, by simp, Nat.zero_le _⟩
  · simp [Value.cells] at hcs
    obtain ⟨rfl, rfl, rfl⟩ := hcs
    have hz2 : zs.length = cap := by simpa using hz
    have hd := congrArg Prod.fst hx
    simp only at hd
    subst hd
    refine ⟨zs.take len, ⟨by simp; omega, hl, hm, (fun h => by cases h), ?_⟩, fun n hn => hwz n (List.mem_of_mem_take hn), ?_⟩
    · intro q hq j u hj
      cases hq
      rw [List.getElem?_map, List.getElem?_take] at hj
      by_cases hlt : j < len
      · rw [if_pos hlt] at hj
        have hjz : j < zs.length := by omega
        rw [List.getElem?_eq_getElem hjz] at hj
        simp at hj
        rw [hcell j hjz, ← hj, List.getD_eq_getElem?_getD, List.getElem?_eq_getElem hjz]
        rfl
      · rw [if_neg hlt] at hj; cases hj
    · have hsz := (hs.slice ht).1
      rw [show ∀ (k : IntKind) (l : List Int), (lits (H := H) k l).length = l.length from fun k l => by simp [lits], List.length_take, show min len zs.length = len by omega] at hsz
      exact Nat.le_trans (Nat.le_trans (Nat.le_add_right _ _) (Nat.le_mul_of_pos_right _ hb)) hsz

theorem trod_bytes {t e : TypeId} (ht : P.underlying t = some (.slice e)) (he : P.underlying e = some (.int .u8)) (hc : P.cellsOf e = 1) (hb : 0 < P.bytesOf e) {a : Option Addr} {len cap : Nat} {d : DataW H} {p : List MemPlace}
    (hs : Sized P t d) (h : DataW.Trod enc P w 0 (fun _ => true) true t (.slice a len cap) d p) :
    ∃ l : List UInt8, Sl w 1 a len cap (l.map B8) ∧ len ≤ reachBytes := by
  obtain ⟨zs, h1, h2, h3⟩ := trod_ints ht he hc hb hs h
  refine ⟨zs.map fun n => UInt8.ofNat n.toNat, ?_, h3⟩
  have e : (zs.map fun n => UInt8.ofNat n.toNat).map B8 = zs.map (Value.int .u8) := by
    rw [List.map_map]
    apply List.map_congr_left
    intro n hn
    have hb : 0 ≤ n ∧ n ≤ 255 := bounds_u8 (h2 n hn)
    show Value.int .u8 ((UInt8.ofNat n.toNat).toNat : Int) = _
    rw [UInt8.toNat_ofNat']
    congr 1
    omega
  rw [e]
  exact h1
theorem trod_i64s {t e : TypeId} (ht : P.underlying t = some (.slice e)) (he : P.underlying e = some (.int .i64)) (hc : P.cellsOf e = 1) (hb : 0 < P.bytesOf e) {a : Option Addr} {len cap : Nat} {d : DataW H} {p : List MemPlace}
    (hs : Sized P t d) (h : DataW.Trod enc P w 0 (fun _ => true) true t (.slice a len cap) d p) :
    ∃ l : List Int, Sl w 1 a len cap (l.map I64) ∧ (∀ n ∈ l, -9223372036854775808 ≤ n ∧ n ≤ 9223372036854775807) ∧ len ≤ reachBytes := by
  obtain ⟨zs, h1, h2, h3⟩ := trod_ints ht he hc hb hs h
  exact ⟨zs, h1, fun n hn => bounds_i64 (h2 n hn), h3⟩

theorem trod_strs {t e : TypeId} (ht : P.underlying t = some (.slice e)) (he : P.underlying e = some .string) (hc : P.cellsOf e = 1) (hb : 0 < P.bytesOf e) {a : Option Addr} {len cap : Nat} {d : DataW H} {p : List MemPlace}
    (hs : Sized P t d) (h : DataW.Trod enc P w 0 (fun _ => true) true t (.slice a len cap) d p) :
    ∃ l : List ByteArray, Sl w 1 a len cap (l.map Value.string) ∧ (∀ s ∈ l, s.size ≤ reachBytes) ∧ len ≤ reachBytes ∧ (l = [] ∨ ∃ sp, d = .slice (l.map fun s => .lit (.string s.data.toList)) sp) := by
  obtain ⟨fuel, hf⟩ := h
  rcases open_strs ht he hc hf with ⟨hcs, _⟩ | ⟨x, l, c, m, Sx, hcs, _, hl, hm, hmm, hx, hcell⟩
  · simp [Value.cells] at hcs
    obtain ⟨rfl, rfl, rfl⟩ := hcs
    exact ⟨[], Sl.empty w 1, by simp, Nat.zero_le _, .inl rfl⟩
  · simp [Value.cells] at hcs
    obtain ⟨rfl, rfl, rfl⟩ := hcs
    simp only [if_true] at hmm
    subst hmm
    have hd := congrArg Prod.fst hx
    simp only at hd
    subst hd
    obtain ⟨z1, z2⟩ := hs.slice ht
    refine ⟨(List.range len).map Sx, ⟨by simp, hl, hm, (fun h => by cases h), ?_⟩, ?_, ?_, .inr ⟨_, by rw [List.map_map]; rfl⟩⟩
    · intro q hq j u hj
      cases hq
      have hlt : j < len := by have := (List.getElem?_eq_some_iff.1 hj).1; simpa using this
      rw [(hcell j (by omega)).1]
      simp [hlt] at hj
      rw [hj]
    · intro s hs
      obtain ⟨i, hi, rfl⟩ := List.mem_map.1 hs
      have := Sized.string (z2 _ (List.mem_map.2 ⟨i, hi, rfl⟩))
      rwa [show (Sx i).data.toList.length = (Sx i).size from Array.length_toList] at this
    · simp only [List.length_map, List.length_range] at z1
      exact Nat.le_trans (Nat.le_trans (Nat.le_add_right _ _) (Nat.le_mul_of_pos_right _ hb)) z1

theorem trod_arr {t e n : Nat} {k : IntKind} {base : Nat} {spare : Nat → Bool} {held : Bool} {fuel : Nat} {cs : List Value} {x : DataW H × List MemPlace} (ht : P.underlying t = some (.array n e)) (he : P.underlying e = some (.int k)) (hc : P.cellsOf e = 1) (hct : P.cellsOf t = n)
    (h : DataW.trod enc P w base spare held fuel t cs = some x) : cs.length = n ∧ ∀ i, i < n → ∃ z, cs[i]? = some (.int k z) ∧ (Lit.int k z).wf = true := by
  obtain ⟨xs, m, _, _, hl, hxl, hi⟩ := DataW.trod_array ht h
  rw [hct] at hl
  refine ⟨hl, fun i hin => ?_⟩
  have h1 := hi i hin
  rw [hc, Nat.mul_one, List.getElem?_eq_getElem (by omega)] at h1
  obtain ⟨z, hz, _, hw⟩ := DataW.trod_int he h1
  refine ⟨z, ?_, hw⟩
  have := congrArg (·[0]?) hz
  simpa [List.getElem?_take, List.getElem?_drop] using this

theorem trod_arrs {t e q n : Nat} {k : IntKind} (ht : P.underlying t = some (.slice e)) (he : P.underlying e = some (.array n q)) (hq : P.underlying q = some (.int k)) (hc : P.cellsOf q = 1) (hce : P.cellsOf e = n) (hb : 0 < P.bytesOf e) (hn0 : 0 < n)
    {a : Option Addr} {len cap : Nat} {d : DataW H} {p : List MemPlace} (hs : Sized P t d) (h : DataW.Trod enc P w 0 (fun _ => true) true t (.slice a len cap) d p) :
    ∃ zs : List Int, Sl w n a len cap (zs.map (Value.int k)) ∧ (∀ n ∈ zs, (Lit.int k n).wf = true) ∧ len ≤ reachBytes := by
  obtain ⟨fuel, hf⟩ := h
  rcases open_slice ht hf with ⟨hcs, _⟩ | ⟨x, l, c, m, g, D, Pl, hcs, _, hl, hm, hmm, hx, hel⟩
  · simp [Value.cells] at hcs
    obtain ⟨rfl, rfl, rfl⟩ := hcs
    exact ⟨[], Sl.empty w n, by simp, Nat.zero_le _⟩
  · simp [Value.cells] at hcs
    obtain ⟨rfl, rfl, rfl⟩ := hcs
    simp only [if_true] at hmm
    subst hmm
    have hd := congrArg Prod.fst hx
    simp only at hd
    subst hd
    obtain ⟨z1, z2⟩ := hs.slice ht
    have each : ∀ j, j < len * n → ∃ z, w.cell? (x.add j) = some (.int k z) ∧ (Lit.int k z).wf = true := by
      intro j hj
      have hi : j / n < len := (Nat.div_lt_iff_lt_mul hn0).2 hj
      obtain ⟨cs', h1, h2⟩ := hel (j / n) (by omega)
      rw [hce] at h1
      obtain ⟨_, hcl, hat⟩ := World.cells?_some h1
      have hr : j % n < n := Nat.mod_lt _ hn0
      obtain ⟨z, hz, hwz⟩ := (trod_arr he hq hc hce h2).2 (j % n) hr
      refine ⟨z, ?_, hwz⟩
      have := hat (j % n) hr
      rw [sl_add, Nat.div_add_mod'] at this
      rw [this, hz]
    obtain ⟨Z, hZ⟩ := choose_lt each
    refine ⟨(List.range (len * n)).map Z, ⟨by simp, hl, hm, (fun h => by cases h), ?_⟩, ?_, ?_⟩
    · intro q hq j u hj
      cases hq
      have hlt : j < len * n := by have := (List.getElem?_eq_some_iff.1 hj).1; simpa using this
      rw [(hZ j hlt).1]
      simp [hlt] at hj
      rw [hj]
    · intro z hz
      obtain ⟨i, hi, rfl⟩ := List.mem_map.1 hz
      exact (hZ i (List.mem_range.1 hi)).2
    · simp only [List.length_map, List.length_range] at z1
      exact Nat.le_trans (Nat.le_trans (Nat.le_add_right _ _) (Nat.le_mul_of_pos_right _ hb)) z1
theorem bytes_of_wf {zs : List Int} (h : ∀ n ∈ zs, (Lit.int .u8 n).wf = true) : ∃ l : List UInt8, l.map B8 = zs.map (Value.int .u8) := by
  refine ⟨zs.map fun n => UInt8.ofNat n.toNat, ?_⟩
  rw [List.map_map]
  apply List.map_congr_left
  intro n hn
  have hb : 0 ≤ n ∧ n ≤ 255 := bounds_u8 (h n hn)
  show Value.int .u8 ((UInt8.ofNat n.toNat).toNat : Int) = _
  rw [UInt8.toNat_ofNat']
  congr 1
  omega
end
end Go.Dx
end

/- the text HRow0 -/
section
/- What the listed variables give the walks. -/
set_option linter.unusedVariables false
namespace Go.Dx
open Go.RowKit Go.WideShapes Go.ChangeShapes Go.Deep
theorem trod_vals {P : Program} {H : Type} {enc : TypeId × Value → H} {w : World} {t e n : TypeId} {k : IntKind} {base : Nat} {spare : Nat → Bool} {held : Bool} {fuel : Nat} {cs : List Value} {x : DataW H × List MemPlace} (ht : P.underlying t = some (.array n e)) (he : P.underlying e = some (.int k)) (hc : P.cellsOf e = 1) (hct : P.cellsOf t = n)
    (h : DataW.trod enc P w base spare held fuel t cs = some x) (zs : List Int) (hx : x.1 = .agg (zs.map fun z => .lit (.int k z))) : cs = zs.map (Value.int k) := by
  obtain ⟨xs, m, _, rfl, hl, hxl, hi⟩ := DataW.trod_array ht h
  rw [hct] at hl
  simp only [DataW.agg.injEq] at hx
  have hzl : zs.length = n := by have := congrArg List.length hx; simp at this; omega
  apply List.ext_getElem?
  intro i
  by_cases hin : i < n
  · have h1 := hi i hin
    rw [hc, Nat.mul_one, List.getElem?_eq_getElem (by omega)] at h1
    obtain ⟨z, hz, h2, _⟩ := DataW.trod_int he h1
    have h3 := congrArg (·[i]?) hx
    simp only [List.getElem?_map] at h3
    rw [List.getElem?_eq_getElem (by omega), List.getElem?_eq_getElem (by omega), h2] at h3
    have h4 : z = zs[i] := by simpa using h3
    have h5 := congrArg (·[0]?) hz
    rw [List.getElem?_map, List.getElem?_eq_getElem (l := zs) (by omega), ← h4]
    simpa [List.getElem?_take, List.getElem?_drop] using h5
  · rw [List.getElem?_eq_none (by omega), List.getElem?_eq_none (by rw [List.length_map]; omega)]
end Go.Dx
namespace Go.Proofs.YtblgmjnkllkhbaaDoor
open Go.RowKit Go.Dx Go.ChangeShapes Go.WideShapes
theorem gR : Tryd.prog.globalNamed "dactyl/dactylref02.constants" = some 0 := by kernel_rfl
theorem gP : Tryd.prog.globalNamed "dactyl/hash.constants" = some 1 := by kernel_rfl
theorem tR : (Tryd.prog.globals[0]?).map (·.type) = some 103 := by kernel_rfl
theorem tP : (Tryd.prog.globals[1]?).map (·.type) = some 103 := by kernel_rfl
def kInts : List Int := K256.map fun u => (u.toNat : Int)
theorem datR {H : Type} : (Rows.laid_dactyl_dactylref02_constants : DataW H) = .agg (kInts.map fun z => .lit (.int .u32 z)) := by kernel_rfl
theorem datP {H : Type} : (Rows.laid_dactyl_hash_constants : DataW H) = .agg (kInts.map fun z => .lit (.int .u32 z)) := by kernel_rfl
theorem kInts_at {cs : List Value} (h : cs = kInts.map (Value.int .u32)) (j : Nat) (u : UInt32) (hu : K256[j]? = some u) : cs[j]? = some (W32 u) := by
  rw [h, kInts, List.map_map, List.getElem?_map, hu]; rfl
def laid1 : List (String × DataW Unit) := [("dactyl/hash.constants", Rows.laid_dactyl_hash_constants)]
def laid2 : List (String × DataW Unit) := [("dactyl/dactylref02.constants", Rows.laid_dactyl_dactylref02_constants), ("dactyl/hash.constants", Rows.laid_dactyl_hash_constants)]
theorem of_laid1 {W : World} (h : laidMetH Tryd.prog laid1 W) : Laid W := by
  rw [MakeChecks.laidMetH_plain _ _ _ (by kernel_rfl)] at h
  obtain ⟨ps, ⟨g0, t0, cs0, f0, p0, q0, hg0, ht0, hv0, hd0, _, _⟩, _, _⟩ := h
  obtain rfl := Option.some.inj (gP.symm.trans hg0)
  obtain rfl := Option.some.inj (tP.symm.trans ht0)
  have hcs := trod_vals Tryd.underlying103 Tryd.underlying81 (by kernel_rfl) (by kernel_rfl) hd0 kInts datP
  exact ⟨fun j u hu => by rw [World.var?_cell hg0 hv0 j]; rw [← Array.getElem?_toList]; exact kInts_at hcs j u hu⟩
theorem of_laid2 {W : World} (h : laidMetH Tryd.prog laid2 W) : Laid W ∧ LaidR W := by
  rw [MakeChecks.laidMetH_plain _ _ _ (by kernel_rfl)] at h
  obtain ⟨ps, ⟨g0, t0, cs0, f0, p0, q0, hg0, ht0, hv0, hd0, ⟨g1, t1, cs1, f1, p1, q1, hg1, ht1, hv1, hd1, _, _⟩, _⟩, _, _⟩ := h
  obtain rfl := Option.some.inj (gR.symm.trans hg0)
  obtain rfl := Option.some.inj (tR.symm.trans ht0)
  obtain rfl := Option.some.inj (gP.symm.trans hg1)
  obtain rfl := Option.some.inj (tP.symm.trans ht1)
  have hcs0 := trod_vals Tryd.underlying103 Tryd.underlying81 (by kernel_rfl) (by kernel_rfl) hd0 kInts datR
  have hcs1 := trod_vals Tryd.underlying103 Tryd.underlying81 (by kernel_rfl) (by kernel_rfl) hd1 kInts datP
  exact ⟨⟨fun j u hu => by rw [World.var?_cell hg1 hv1 j]; rw [← Array.getElem?_toList]; exact kInts_at hcs1 j u hu⟩, ⟨fun j u hu => by rw [World.var?_cell hg0 hv0 j]; rw [← Array.getElem?_toList]; exact kInts_at hcs0 j u hu⟩⟩
theorem door_met1 (os : Os) (args : Array Value) : laidMetH Tryd.prog laid1 ((World.doorLaid Tryd.prog 4000 os).forCall (fun _ _ => 0) ⟨#[], args, []⟩).memory :=
  laidMetH_of_parts3 (fuel := 8) (laidMet_of_run' 8 (by kernel_rfl) (by kernel_rfl)) (by kernel_rfl) (by kernel_rfl)
theorem door_met2 (os : Os) (args : Array Value) : laidMetH Tryd.prog laid2 ((World.doorLaid Tryd.prog 4000 os).forCall (fun _ _ => 0) ⟨#[], args, []⟩).memory :=
  laidMetH_of_parts3 (fuel := 8) (laidMet_of_run' 8 (by kernel_rfl) (by kernel_rfl)) (by kernel_rfl) (by kernel_rfl)
end Go.Proofs.YtblgmjnkllkhbaaDoor
end

/- the text Row4 -/
section
/- An argument that is an array of two integers. No program. -/
set_option linter.unusedVariables false
namespace Go.Dx
open Go.RowKit Go.WideShapes Go.ChangeShapes
theorem okWide_arr {P : Program} {W : World} {r : Reach} {base : Nat} {t e n : TypeId} {v : Value} (ht : P.underlying t = some (.array n e)) (h : Value.okWide P W r base t v) : ∃ cs, v = .agg cs := by
  simp only [Value.okWide, ht] at h
  obtain ⟨cs, rfl, _⟩ := h
  exact ⟨cs, rfl⟩
theorem open_arr2 {P : Program} {H : Type} {enc : TypeId × Value → H} {w : World} {t e : TypeId} {k : IntKind} {base : Nat} {spare : Nat → Bool} {held : Bool} {cs : Array Value} {d : DataW H} {p : List MemPlace} (ht : P.underlying t = some (.array 2 e)) (he : P.underlying e = some (.int k)) (hc : P.cellsOf e = 1) (hct : P.cellsOf t = 2)
    (h : DataW.Trod enc P w base spare held t (.agg cs) d p) : ∃ x y : Int, cs = #[.int k x, .int k y] ∧ (Lit.int k x).wf = true ∧ (Lit.int k y).wf = true := by
  obtain ⟨f, hf⟩ := h
  have h1 := trod_arr ht he hc hct hf
  obtain ⟨x, hx, wx⟩ := h1.2 0 (by decide)
  obtain ⟨y, hy, wy⟩ := h1.2 1 (by decide)
  refine ⟨x, y, ?_, wx, wy⟩
  have hl := h1.1
  obtain ⟨l⟩ := cs
  simp only [Value.cells] at hl hx hy
  match l, hl, hx, hy with
  | [a, b], _, hx, hy =>
    simp at hx hy
    rw [hx, hy]
end Go.Dx
end

/- the text Row6 -/
section
/- An argument that is a digest. No program. -/
set_option linter.unusedVariables false
namespace Go.Dx
open Go.RowKit Go.WideShapes Go.ChangeShapes
theorem open_dig {P : Program} {H : Type} {enc : TypeId × Value → H} {w : World} {t e n : TypeId} {base : Nat} {spare : Nat → Bool} {held : Bool} {cs : Array Value} {d : DataW H} {p : List MemPlace} (ht : P.underlying t = some (.array n e)) (he : P.underlying e = some (.int .u8)) (hc : P.cellsOf e = 1) (hct : P.cellsOf t = n)
    (h : DataW.Trod enc P w base spare held t (.agg cs) d p) : ∃ l : List UInt8, l.length = n ∧ cs = (l.map fun u => Value.int .u8 (u.toNat : Int)).toArray := by
  obtain ⟨f, hf⟩ := h
  have h1 := trod_arr ht he hc hct hf
  obtain ⟨l0⟩ := cs
  simp only [Value.cells] at h1
  obtain ⟨hl, hi⟩ := h1
  have hl0 : l0.length = n := by simpa using hl
  refine ⟨l0.map fun v => match v with | .int .u8 z => UInt8.ofNat z.toNat | _ => 0, by rw [List.length_map]; exact hl0, ?_⟩
  congr 1
  rw [List.map_map]
  apply List.ext_getElem?
  intro i
  rw [List.getElem?_map]
  by_cases hin : i < n
  · obtain ⟨z, hz, hw⟩ := hi i hin
    have hz' : l0[i]? = some (.int .u8 z) := by simpa using hz
    have hb : 0 ≤ z ∧ z ≤ 255 := bounds_u8 hw
    rw [hz']
    show _ = some (Value.int .u8 ((UInt8.ofNat z.toNat).toNat : Int))
    rw [UInt8.toNat_ofNat']
    congr 2
    omega
  · rw [List.getElem?_eq_none (by omega)]; rfl
end Go.Dx
end

/- the text SBase -/
section
/- Chapter 03: what every law needs. -/
namespace Go.Dx
end Go.Dx
end
