/- The contracts of the functions that the law reaches, joined into one text. -/
import Derived.Test.YtmjkhmebpciopaaBaseT30A
import Derived.Deep.OwnRows
import Derived.StillTail
import Derived.Deep.Quiet
import Derived.Lib.AppendZerosOnto
import Derived.Lib.SliceRun
set_option linter.unusedVariables false
set_option linter.unusedSimpArgs false

/- the text T4 -/
section
/- Chapter 15: the width of a column, of a part. -/
namespace Go.Proofs.Ytmjkhmebpciopaa
open Go.RowKit Go.Dx

/-- the width of a column -/
def colW (X : List (List (List UInt8))) (k : Nat) : Nat := wideL (X.map fun row => row.getD k [])
theorem colW_next {X : List (List (List UInt8))} {i k : Nat} {row : List (List UInt8)} {r : List UInt8} (h : X[i]? = some row) (hr : row[k]? = some r) : colW (X.take (i + 1)) k = max (colW (X.take i) k) r.length := by
  unfold colW
  rw [take_snoc h, List.map_append]
  show wideL (_ ++ [row.getD k []]) = _
  rw [wideL_snoc, List.getD_eq_getElem?_getD, hr]; rfl
/-- the width of a part: m columns from j on, and the first -/
def sizeW (f : Nat → Nat) (j : Nat) : Nat → Nat
  | 0 => f 0
  | m + 1 => sizeW f j m + (2 + f (j + m))
theorem sizeW_le {f : Nat → Nat} (h : ∀ i, f i ≤ 40) (j : Nat) : ∀ m, sizeW f j m ≤ 40 + 42 * m
  | 0 => by have := h 0; show f 0 ≤ _; omega
  | m + 1 => by have := sizeW_le h j m; have := h (j + m); show sizeW f j m + (2 + f (j + m)) ≤ _; omega

set_option maxHeartbeats 800000 in
theorem ref15_Wide (X : List (List (List UInt8))) (hs : List Hd) (a : Option Addr) (n c k : Nat) (w : World) (hp : Pg3 w a n c hs X) (hk : ∀ row ∈ X, k < row.length) :
    Calls Try.prog 54 #[.slice a n c, .int .i64 (k : Int)] w fun e w' => e = .returned (.int .i64 (colW X k : Int)) ∧ w = w' := by
  obtain rfl := hp.n_eq
  have hm1 := Nat.le_trans hp.top.le hp.top.cap
  unfold maxLen at hm1
  go_enter Try.func54, Try.ntmps54
  go_wp2_with fail
  go_loopg [5, 6] X.length (fun g v i' w' => ∃ (i m : Nat), i ≤ X.length ∧ g = X.length - i ∧ Hid (colW (X.take i) k = m) ∧ i' = .int .i64 i ∧ v = .int .i64 m ∧ w = w')
  case atStart => exact ⟨0, 0, by omega, by omega, hide rfl, rfl, rfl, rfl⟩
  case round =>
    obtain ⟨i, m, hi, hg1, HM, rfl, rfl, rfl⟩ := hrel
    have HG := hide hg1
    clear hg1
    by_cases hil : i < X.length
    · obtain ⟨x, hx⟩ : ∃ x, X[i]? = some x := ⟨X[i], by simp [hil]⟩
      obtain ⟨ax, cx, ks, hu, hpx⟩ := hp.get hx
      have hkx := hk x (List.mem_of_getElem? hx)
      obtain ⟨r, hr⟩ : ∃ r, x[k]? = some r := ⟨x[k], by simp [hkx]⟩
      obtain ⟨ar, cr, hur, hsr⟩ := hpx.get hr
      have HN := hide (colW_next hx hr)
      have HU := hide hu
      have HUR := hide hur
      have hm2 := Nat.le_trans hpx.top.le hpx.top.cap
      have hm3 := Nat.le_trans hsr.le hsr.cap
      unfold maxLen at hm2 hm3
      clear hx hr hu hur
      rcases Nat.lt_trichotomy r.length m with hle | hle | hle
      · have HN2 : Hid (colW (X.take (i + 1)) k = m) := hide (by rw [HN.out, HM.out]; omega)
        clear HN
        go_wp2_with (first
          | (with_reducible refine idx_3 16 _ _ _ _ _ hs rfl hp.top _ _ i rfl rfl _ HU.out ?_; intro b o hcell hbo)
          | (with_reducible refine idx_q 19 _ _ _ _ _ ks rfl hpx.top _ _ k rfl rfl _ HUR.out ?_; intro b2 o2 hcell2 hbo2))
        go_roundg (X.length - (i + 1))
        case measure => have := HG.out; omega
        case rel => exact ⟨i + 1, m, by omega, rfl, HN2, by go_num, rfl, rfl⟩
      · subst hle
        have HN2 : Hid (colW (X.take (i + 1)) k = r.length) := hide (by rw [HN.out, HM.out]; omega)
        clear HN
        go_wp2_with (first
          | (with_reducible refine idx_3 16 _ _ _ _ _ hs rfl hp.top _ _ i rfl rfl _ HU.out ?_; intro b o hcell hbo)
          | (with_reducible refine idx_q 19 _ _ _ _ _ ks rfl hpx.top _ _ k rfl rfl _ HUR.out ?_; intro b2 o2 hcell2 hbo2))
        go_roundg (X.length - (i + 1))
        case measure => have := HG.out; omega
        case rel => exact ⟨i + 1, r.length, by omega, rfl, HN2, by go_num, rfl, rfl⟩
      · have HN2 : Hid (colW (X.take (i + 1)) k = r.length) := hide (by rw [HN.out, HM.out]; omega)
        clear HN
        go_wp2_with (first
          | (with_reducible refine idx_3 16 _ _ _ _ _ hs rfl hp.top _ _ i rfl rfl _ HU.out ?_; intro b o hcell hbo)
          | (with_reducible refine idx_q 19 _ _ _ _ _ ks rfl hpx.top _ _ k rfl rfl _ HUR.out ?_; intro b2 o2 hcell2 hbo2))
        go_roundg (X.length - (i + 1))
        case measure => have := HG.out; omega
        case rel => exact ⟨i + 1, r.length, by omega, rfl, HN2, by go_num, rfl, rfl⟩
    · obtain rfl : i = X.length := by omega
      go_wp2_with fail
      go_ret
      have := HM.out
      rw [List.take_length] at this
      exact ⟨by rw [this]; rfl, rfl⟩

set_option maxHeartbeats 800000 in
theorem ref15_Size (X : List (List (List UInt8))) (hs : List Hd) (a : Option Addr) (n c N j k : Nat) (w : World) (hp : Pg3 w a n c hs X) (hN : ∀ row ∈ X, row.length = N) (h1 : 1 ≤ N) (hk : k ≤ N) (h12 : k ≤ 1000) (hj : j ≤ 1000) (h40 : ∀ i, colW X i ≤ 40) :
    Calls Try.prog 34 #[.slice a n c, .int .i64 (j : Int), .int .i64 (k : Int)] w fun e w' => e = .returned (.int .i64 (sizeW (colW X) j (k - j) : Int)) ∧ w = w' := by
  have hW := fun (i : Nat) (hi : i < N) => ref15_Wide X hs a n c i w hp (fun row h => by rw [hN row h]; exact hi)
  have hW0 := hW 0 (by omega)
  obtain ⟨f, Hf⟩ : ∃ f, Hid (colW X = f) := ⟨_, hide rfl⟩
  rw [Hf.out] at hW0 hW h40 ⊢
  have HS := hide (fun m => sizeW_le h40 j m)
  have hf0 := h40 0
  obtain ⟨M, HM⟩ : ∃ M, Hid (k - j = M) := ⟨_, hide rfl⟩
  rw [HM.out]
  go_enter Try.func34, Try.ntmps34
  go_wp2_with fail
  refine hW0.mono ?_
  rintro e w2 ⟨rfl, rfl⟩
  go_wp2_with fail
  go_loopg [7, 8] M (fun g v i' w' => ∃ (m s : Nat), m ≤ M ∧ g = M - m ∧ Hid (sizeW f j m = s) ∧ i' = .int .i64 ((j : Int) + (m : Int)) ∧ v = .int .i64 s ∧ w = w')
  case atStart => exact ⟨0, f 0, by omega, by omega, hide rfl, by go_num, rfl, rfl⟩
  case round =>
    obtain ⟨m, s, hm, hg1, Hs, rfl, rfl, rfl⟩ := hrel
    have HG := hide hg1
    clear hg1
    have hs1 : s ≤ 40 + 42 * m := by rw [← Hs.out]; exact HS.out m
    by_cases hmM : m < M
    · have hjm : j + m < k := by have := HM.out; omega
      have hc := hW (j + m) (by omega)
      have hfm := h40 (j + m)
      obtain ⟨v, Hv⟩ : ∃ v, Hid (f (j + m) = v) := ⟨_, hide rfl⟩
      have HN : Hid (sizeW f j (m + 1) = s + (2 + v)) := hide (by show sizeW f j m + (2 + f (j + m)) = _; rw [Hs.out, Hv.out])
      rw [Hv.out] at hc hfm
      rw [Int.natCast_add] at hc
      go_wp2_with fail
      refine hc.mono ?_
      rintro e w2 ⟨rfl, rfl⟩
      go_wp2_with fail
      go_roundg (M - (m + 1))
      case measure => have := HG.out; omega
      case rel => exact ⟨m + 1, s + (2 + v), by omega, rfl, HN, by go_num, by go_num, rfl⟩
    · obtain rfl : M = m := by omega
      have hjm : ¬ j + M < k := by have := HM.out; omega
      go_wp2_with fail
      go_ret
      exact ⟨by rw [Hs.out]; rfl, rfl⟩
end Go.Proofs.Ytmjkhmebpciopaa
end

/- the text T5 -/
section
/- Chapter 15: the greatest width of a column. -/
namespace Go.Proofs.Ytmjkhmebpciopaa
open Go.RowKit Go.Dx

/-- the closure of widths: the width of an entry of a row -/
def fnw (g : Nat) : Value := .func (.func 51) #[] #[.pointer (some ⟨g, 0, none⟩)]
set_option maxHeartbeats 400000 in
theorem widths_1 (k g : Nat) (p : List (List UInt8)) (r : List UInt8) (hs : List Hd) (a : Option Addr) (n c : Nat) (w : World) (hp : Pg w a n c hs p) (hr : p[k]? = some r) (hg : w.cell? ⟨g, 0, none⟩ = some (.int .i64 (k : Int))) :
    Calls Try.prog 51 #[.slice a n c, .pointer (some ⟨g, 0, none⟩)] w fun e w' => e = .returned (.int .i64 (r.length : Int)) ∧ w = w' := by
  obtain rfl := hp.n_eq
  have hk : k < p.length := (List.getElem?_eq_some_iff.1 hr).1
  obtain ⟨ar, cr, hur, hsr⟩ := hp.get hr
  have HUR := hide hur
  clear hr hur
  go_enter Try.func51, Try.ntmps51
  go_wp2_with (with_reducible refine idx_q 6 _ _ _ _ _ hs rfl hp.top _ _ k rfl rfl _ HUR.out ?_; intro b2 o2 hcell2 hbo2)
  go_ret
  exact ⟨rfl, rfl⟩

set_option maxHeartbeats 800000 in
theorem greatest_rows (k g : Nat) (X : List (List (List UInt8))) (hs : List Hd) (a : Option Addr) (n c : Nat) (w : World) (hp : Pg3 w a n c hs X) (hk : ∀ row ∈ X, k < row.length) (hg : w.cell? ⟨g, 0, none⟩ = some (.int .i64 (k : Int))) :
    Calls Try.prog 50 #[.slice a n c, fnw g] w fun e w' => e = .returned (.int .i64 (colW X k : Int)) ∧ w = w' := by
  unfold fnw
  obtain rfl := hp.n_eq
  have hm1 := Nat.le_trans hp.top.le hp.top.cap
  unfold maxLen at hm1
  go_enter Try.func50, Try.ntmps50
  go_wp2_with fail
  go_loopg [5, 10] X.length (fun g v i' w' => ∃ (i m : Nat), i ≤ X.length ∧ g = X.length - i ∧ Hid (colW (X.take i) k = m) ∧ i' = .int .i64 i ∧ v = .int .i64 m ∧ w = w')
  case atStart => exact ⟨0, 0, by omega, by omega, hide rfl, rfl, rfl, rfl⟩
  case round =>
    obtain ⟨i, m, hi, hg1, HM, rfl, rfl, rfl⟩ := hrel
    have HG := hide hg1
    clear hg1
    by_cases hil : i < X.length
    · obtain ⟨x, hx⟩ : ∃ x, X[i]? = some x := ⟨X[i], by simp [hil]⟩
      obtain ⟨ax, cx, ks, hu, hpx⟩ := hp.get hx
      have hkx := hk x (List.mem_of_getElem? hx)
      obtain ⟨r, hr⟩ : ∃ r, x[k]? = some r := ⟨x[k], by simp [hkx]⟩
      obtain ⟨ar, cr, hur, hsr⟩ := hpx.get hr
      have HN := hide (colW_next hx hr)
      have HU := hide hu
      have hc := widths_1 k g x r ks _ _ _ w hpx hr hg
      have hm3 := Nat.le_trans hsr.le hsr.cap
      unfold maxLen at hm3
      clear hx hr hu hur hsr
      rcases Nat.lt_trichotomy r.length m with hle | hle | hle
      · have HN2 : Hid (colW (X.take (i + 1)) k = m) := hide (by rw [HN.out, HM.out]; omega)
        clear HN
        go_wp2_with (first
          | (with_reducible refine idx_3 12 _ _ _ _ _ hs rfl hp.top _ _ i rfl rfl _ HU.out ?_; intro b o hcell hbo)
          | (go_at_call 51; refine hc.mono ?_; rintro e w2 ⟨rfl, rfl⟩))
        go_roundg (X.length - (i + 1))
        case measure => have := HG.out; omega
        case rel => exact ⟨i + 1, m, by omega, rfl, HN2, by go_num, rfl, rfl⟩
      · subst hle
        have HN2 : Hid (colW (X.take (i + 1)) k = r.length) := hide (by rw [HN.out, HM.out]; omega)
        clear HN
        go_wp2_with (first
          | (with_reducible refine idx_3 12 _ _ _ _ _ hs rfl hp.top _ _ i rfl rfl _ HU.out ?_; intro b o hcell hbo)
          | (go_at_call 51; refine hc.mono ?_; rintro e w2 ⟨rfl, rfl⟩))
        go_roundg (X.length - (i + 1))
        case measure => have := HG.out; omega
        case rel => exact ⟨i + 1, r.length, by omega, rfl, HN2, by go_num, rfl, rfl⟩
      · have HN2 : Hid (colW (X.take (i + 1)) k = r.length) := hide (by rw [HN.out, HM.out]; omega)
        clear HN
        go_wp2_with (first
          | (with_reducible refine idx_3 12 _ _ _ _ _ hs rfl hp.top _ _ i rfl rfl _ HU.out ?_; intro b o hcell hbo)
          | (go_at_call 51; refine hc.mono ?_; rintro e w2 ⟨rfl, rfl⟩))
        go_roundg (X.length - (i + 1))
        case measure => have := HG.out; omega
        case rel => exact ⟨i + 1, r.length, by omega, rfl, HN2, by go_num, rfl, rfl⟩
    · obtain rfl : i = X.length := by omega
      go_wp2_with fail
      go_ret
      have := HM.out
      rw [List.take_length] at this
      exact ⟨by rw [this]; rfl, rfl⟩
end Go.Proofs.Ytmjkhmebpciopaa
end

/- the text T6 -/
section
/- Chapter 15: the width of a part, from the widths of the columns. -/
namespace Go.Proofs.Ytmjkhmebpciopaa
open Go.RowKit Go.Dx

def ints (ws : List Nat) : List Int := ws.map fun x : Nat => (x : Int)
theorem ints_get {ws : List Nat} {i : Nat} {x : Nat} (h : ws[i]? = some x) : (ints ws)[i]? = some (x : Int) := by unfold ints; rw [List.getElem?_map, h]; rfl
def wAt (ws : List Nat) (i : Nat) : Nat := ws.getD i 0
theorem wAt_of {ws : List Nat} {i x : Nat} (h : ws[i]? = some x) : wAt ws i = x := by unfold wAt; rw [List.getD_eq_getElem?_getD, h]; rfl
theorem wAt_le {ws : List Nat} (h : ∀ x ∈ ws, x ≤ 40) (i : Nat) : wAt ws i ≤ 40 := by
  unfold wAt
  rw [List.getD_eq_getElem?_getD]
  cases hx : ws[i]? with
  | none => simp
  | some x => simpa using h x (List.mem_of_getElem? hx)
theorem cut_ints {w : World} {ops : Array Oper} {rest : List Oper} {act : Act} {Q : Exit → Act → World → Prop} {ty : TypeId} {pos : String} {after : Array Edge} (d : Nat) (x lo hi : Operand) (a : Option Addr) (n c : Nat) (cs : List Int) (hx : act.eval x = .slice a n c) (hs : Sl w 1 a n c (cs.map I64)) (kl ku : IntKind) (lv uv : Int) (l u : Nat) (hl : act.eval lo = .int kl lv) (hu : act.eval hi = .int ku uv)
    (hlv : lv = (l : Int)) (huv : uv = (u : Int)) (hlu : l ≤ u) (hun : u ≤ n)
    (hK : ∀ a', Sl w 1 a' (u - l) (c - l) (((cs.drop l).take (u - l)).map I64) → wpList Try.prog ops Q rest (act.put (some d) (.slice a' (u - l) (c - l))) w) :
    wpList Try.prog ops Q ({ dst := some d, op := .slice 22 x (some lo) (some hi) none, type := ty, pos := pos, after := after, guard := none } :: rest) act w :=
  cut_sl d 22 x lo hi 3 Try.underlying22 1 size_int a n c _ hx hs kl ku lv uv l u hl hu hlv huv hlu hun (fun a' h _ => hK a' (by rw [Nat.mul_one, Nat.mul_one, ← List.map_drop, ← List.map_take] at h; exact h))

set_option maxHeartbeats 800000 in
theorem tab_size (ws : List Nat) (a : Option Addr) (n c j k : Nat) (w : World) (hs : Sl w 1 a n c ((ints ws).map I64)) (h0 : 1 ≤ ws.length) (hjk : j ≤ k) (hk : k ≤ ws.length) (h12 : ws.length ≤ 1000) (h40 : ∀ x ∈ ws, x ≤ 40) :
    Calls Try.prog 44 #[.slice a n c, .int .i64 (j : Int), .int .i64 (k : Int)] w fun e w' => e = .returned (.int .i64 (sizeW (wAt ws) j (k - j) : Int)) ∧ w = w' := by
  obtain rfl : n = ws.length := by have := hs.n_eq; unfold ints at this; rw [List.length_map] at this; exact this
  obtain ⟨x0, hx0⟩ : ∃ x, ws[0]? = some x := ⟨ws[0]'(by omega), by simp⟩
  have HX0 := hide (ints_get hx0)
  have HW0 := hide (wAt_of hx0)
  have HS := hide (fun m => sizeW_le (wAt_le h40) j m)
  have hx40 : x0 ≤ 40 := h40 x0 (List.mem_of_getElem? hx0)
  obtain ⟨M, HM⟩ : ∃ M, Hid (k - j = M) := ⟨_, hide rfl⟩
  have hMl : M ≤ 1000 := by rw [← HM.out]; omega
  clear hx0
  go_enter Try.func44, Try.ntmps44
  go_wp2_with (first
    | (with_reducible refine idx_i 11 _ _ _ _ _ (ints ws) rfl hs _ _ 0 rfl rfl _ HX0.out ?_; intro b o hcell hbo)
    | (with_reducible refine cut_ints 16 _ _ _ _ _ _ (ints ws) rfl hs _ _ _ _ j k rfl rfl rfl rfl hjk hk ?_; intro a' hcut))
  rw [HM.out] at hcut ⊢
  clear hcell hbo
  go_loopg [7, 18] M (fun g v i' w' => ∃ (m s : Nat), m ≤ M ∧ g = M - m ∧ Hid (sizeW (wAt ws) j m = s) ∧ i' = .int .i64 m ∧ v = .int .i64 s ∧ w = w')
  case atStart => exact ⟨0, x0, by omega, by omega, hide HW0.out, by go_num, rfl, rfl⟩
  case round =>
    obtain ⟨m, s, hm, hg1, Hs, rfl, rfl, rfl⟩ := hrel
    have HG := hide hg1
    clear hg1
    have hs1 : s ≤ 40 + 42 * m := by rw [← Hs.out]; exact HS.out m
    by_cases hmM : m < M
    · have hjm : j + m < ws.length := by have := HM.out; omega
      obtain ⟨x, hx⟩ : ∃ x, ws[j + m]? = some x := ⟨ws[j + m], by simp [hjm]⟩
      have hx4 : x ≤ 40 := h40 x (List.mem_of_getElem? hx)
      have HX : Hid ((((ints ws).drop j).take M)[m]? = some (x : Int)) := hide (by rw [List.getElem?_take, if_pos hmM, List.getElem?_drop]; exact ints_get hx)
      have HN : Hid (sizeW (wAt ws) j (m + 1) = s + (2 + x)) := hide (by show sizeW (wAt ws) j m + (2 + wAt ws (j + m)) = _; rw [Hs.out, wAt_of hx])
      clear hx
      go_wp2_with (with_reducible refine idx_i 20 _ _ _ _ _ _ rfl hcut _ _ m rfl rfl _ HX.out ?_; intro b o hcell hbo)
      go_roundg (M - (m + 1))
      case measure => have := HG.out; omega
      case rel => exact ⟨m + 1, s + (2 + x), by omega, rfl, HN, by go_num, by go_num, rfl⟩
    · obtain rfl : M = m := by omega
      go_wp2_with fail
      go_ret
      exact ⟨by rw [HM.out, Hs.out]; rfl, rfl⟩
end Go.Proofs.Ytmjkhmebpciopaa
end

/- the text T7 -/
section
/- Chapter 15: whether there is a division. -/
namespace Go.Proofs.Ytmjkhmebpciopaa
open Go.RowKit Go.Dx

/-- the greatest of some numbers, each with 2 more -/
def great (l : List Nat) : Nat := l.foldl (fun m x => max m (x + 2)) 0
theorem great_next {l : List Nat} {i x : Nat} (h : l[i]? = some x) : great (l.take (i + 1)) = max (great (l.take i)) (x + 2) := by
  unfold great; rw [take_snoc h, List.foldl_append]; rfl
theorem great_le {l : List Nat} (h : ∀ x ∈ l, x ≤ 40) : ∀ i, great (l.take i) ≤ 42
  | 0 => by show (0 : Nat) ≤ 42; omega
  | i + 1 => by
    have ih := great_le h i
    rcases Nat.lt_or_ge i l.length with hi | hi
    · have hx : l[i]? = some l[i] := by simp [hi]
      have := h _ (List.mem_of_getElem? hx)
      rw [great_next hx]; omega
    · rw [List.take_of_length_le (by omega)]
      rw [List.take_of_length_le (by omega)] at ih
      exact ih
theorem cutlo_ints {w : World} {ops : Array Oper} {rest : List Oper} {act : Act} {Q : Exit → Act → World → Prop} {ty : TypeId} {pos : String} {after : Array Edge} (d : Nat) (x lo : Operand) (a : Option Addr) (n c : Nat) (cs : List Int) (hx : act.eval x = .slice a n c) (hs : Sl w 1 a n c (cs.map I64)) (kl : IntKind) (lv : Int) (l : Nat) (hl : act.eval lo = .int kl lv)
    (hlv : lv = (l : Int)) (hun : l ≤ n)
    (hK : ∀ a', Sl w 1 a' (n - l) (c - l) ((cs.drop l).map I64) → wpList Try.prog ops Q rest (act.put (some d) (.slice a' (n - l) (c - l))) w) :
    wpList Try.prog ops Q ({ dst := some d, op := .slice 22 x (some lo) none none, type := ty, pos := pos, after := after, guard := none } :: rest) act w :=
  cut_lo d 22 x lo 3 Try.underlying22 1 size_int a n c _ hx hs kl lv l hl hlv hun (fun a' h _ => hK a' (by rw [Nat.mul_one, ← List.map_drop] at h; exact h))

set_option maxHeartbeats 400000 in
theorem fits_1 (x : Nat) (hx : x ≤ 40) (w : World) : Calls Try.prog 53 #[.int .i64 (x : Int)] w fun e w' => e = .returned (.int .i64 ((x : Int) + 2)) ∧ w = w' := by
  go_enter Try.func53, Try.ntmps53
  go_wp2_with fail
  go_ret
  exact ⟨rfl, rfl⟩

set_option maxHeartbeats 800000 in
theorem greatest_ints (l : List Nat) (a : Option Addr) (n c : Nat) (w : World) (hs : Sl w 1 a n c ((ints l).map I64)) (h40 : ∀ x ∈ l, x ≤ 40) :
    Calls Try.prog 52 #[.slice a n c, fnv 53] w fun e w' => e = .returned (.int .i64 (great l : Int)) ∧ w = w' := by
  unfold fnv
  obtain rfl : n = l.length := by have := hs.n_eq; unfold ints at this; rw [List.length_map] at this; exact this
  have hm1 := Nat.le_trans hs.le hs.cap
  unfold maxLen at hm1
  have HG0 := hide (great_le h40)
  go_enter Try.func52, Try.ntmps52
  go_wp2_with fail
  go_loopg [5, 10] l.length (fun g v i' w' => ∃ (i m : Nat), i ≤ l.length ∧ g = l.length - i ∧ Hid (great (l.take i) = m) ∧ i' = .int .i64 i ∧ v = .int .i64 m ∧ w = w')
  case atStart => exact ⟨0, 0, by omega, by omega, hide rfl, rfl, rfl, rfl⟩
  case round =>
    obtain ⟨i, m, hi, hg1, HM, rfl, rfl, rfl⟩ := hrel
    have HG := hide hg1
    clear hg1
    by_cases hil : i < l.length
    · obtain ⟨x, hx⟩ : ∃ x, l[i]? = some x := ⟨l[i], by simp [hil]⟩
      have hx4 := h40 x (List.mem_of_getElem? hx)
      have HN := hide (great_next hx)
      have HX := hide (ints_get hx)
      have hc := fits_1 x hx4 w
      clear hx
      rcases Nat.lt_trichotomy (x + 2) m with hle | hle | hle
      · have HN2 : Hid (great (l.take (i + 1)) = m) := hide (by rw [HN.out, HM.out]; omega)
        clear HN
        go_wp2_with (first
          | (with_reducible refine idx_i 12 _ _ _ _ _ (ints l) rfl hs _ _ i rfl rfl _ HX.out ?_; intro b o hcell hbo)
          | (go_at_call 53; refine hc.mono ?_; rintro e w2 ⟨rfl, rfl⟩))
        go_roundg (l.length - (i + 1))
        case measure => have := HG.out; omega
        case rel => exact ⟨i + 1, m, by omega, rfl, HN2, by go_num, rfl, rfl⟩
      · subst hle
        have HN2 : Hid (great (l.take (i + 1)) = x + 2) := hide (by rw [HN.out, HM.out]; omega)
        clear HN
        go_wp2_with (first
          | (with_reducible refine idx_i 12 _ _ _ _ _ (ints l) rfl hs _ _ i rfl rfl _ HX.out ?_; intro b o hcell hbo)
          | (go_at_call 53; refine hc.mono ?_; rintro e w2 ⟨rfl, rfl⟩))
        go_roundg (l.length - (i + 1))
        case measure => have := HG.out; omega
        case rel => exact ⟨i + 1, x + 2, by omega, rfl, HN2, by go_num, by go_num, rfl⟩
      · have HN2 : Hid (great (l.take (i + 1)) = x + 2) := hide (by rw [HN.out, HM.out]; omega)
        clear HN
        go_wp2_with (first
          | (with_reducible refine idx_i 12 _ _ _ _ _ (ints l) rfl hs _ _ i rfl rfl _ HX.out ?_; intro b o hcell hbo)
          | (go_at_call 53; refine hc.mono ?_; rintro e w2 ⟨rfl, rfl⟩))
        go_roundg (l.length - (i + 1))
        case measure => have := HG.out; omega
        case rel => exact ⟨i + 1, x + 2, by omega, rfl, HN2, by go_num, by go_num, rfl⟩
    · obtain rfl : i = l.length := by omega
      go_wp2_with fail
      go_ret
      have := HM.out
      rw [List.take_length] at this
      exact ⟨by rw [this]; rfl, rfl⟩

theorem ints_drop (ws : List Nat) (k : Nat) : (ints ws).drop k = ints (ws.drop k) := by unfold ints; rw [List.map_drop]
set_option maxHeartbeats 400000 in
theorem tab_fits (ws : List Nat) (width : Int) (a : Option Addr) (n c : Nat) (w : World) (hs : Sl w 1 a n c ((ints ws).map I64)) (h1 : 1 ≤ ws.length) (h40 : ∀ x ∈ ws, x ≤ 40) :
    Calls Try.prog 28 #[.slice a n c, .int .i64 width] w fun e w' => e = .returned (.bool (decide ((wAt ws 0 : Int) + (great (ws.drop 1) : Int) ≤ width))) ∧ w = w' := by
  obtain rfl : n = ws.length := by have := hs.n_eq; unfold ints at this; rw [List.length_map] at this; exact this
  obtain ⟨x0, hx0⟩ : ∃ x, ws[0]? = some x := ⟨ws[0]'(by omega), by simp⟩
  have HX0 := hide (ints_get hx0)
  rw [wAt_of hx0]
  have hx40 : x0 ≤ 40 := h40 x0 (List.mem_of_getElem? hx0)
  have hd40 : ∀ x ∈ ws.drop 1, x ≤ 40 := fun x h => h40 x (List.mem_of_mem_drop h)
  have hg42 := great_le hd40 (ws.drop 1).length
  rw [List.take_length] at hg42
  have hc := fun (a' : Option Addr) (h : Sl w 1 a' (ws.length - 1) (c - 1) (((ints ws).drop 1).map I64)) => greatest_ints (ws.drop 1) a' (ws.length - 1) (c - 1) w (by rw [ints_drop] at h; exact h) hd40
  unfold fnv at hc
  generalize great (ws.drop 1) = G at *
  clear hx0 hd40
  go_enter Try.func28, Try.ntmps28
  go_wp2_with (first
    | (with_reducible refine cutlo_ints 7 _ _ _ _ _ (ints ws) rfl hs _ _ 1 rfl rfl h1 ?_; intro a' hcut)
    | (go_at_call 52; refine (hc _ hcut).mono ?_; rintro e w2 ⟨rfl, rfl⟩)
    | (with_reducible refine idx_i 10 _ _ _ _ _ (ints ws) rfl hs _ _ 0 rfl rfl _ HX0.out ?_; intro b o hcell hbo))
  go_ret
  exact ⟨rfl, rfl⟩
end Go.Proofs.Ytmjkhmebpciopaa
end

/- the text Make -/
section
/- make with a variable length, as a law of the walk that hands on an unnamed world. No program in sight. -/
set_option linter.unusedVariables false
namespace Go.Dx
open Go.RowKit

section
variable {P : Program} {w : World} {ops : Array Oper} {rest : List Oper} {act : Act} {Q : Exit → Act → World → Prop}
  {ty : TypeId} {pos : String} {after : Array Edge}
/-- 'make([]T, n)', T of one cell -/
theorem make_row (d : Nat) (t : TypeId) (l c : Operand) (e : TypeId) (z : Value) (bytes : Nat) (ht : P.underlying t = some (.slice e)) (hi : (P.info? e).map (fun i => (i.zero, i.size, i.bytes)) = some (some z, 1, bytes)) (hz1 : z.cells = #[z])
    (kl kc : IntKind) (v1 v2 : Int) (n : Nat) (hl : act.eval l = .int kl v1) (hc : act.eval c = .int kc v2) (h1 : v1 = (n : Int)) (h2 : v2 = (n : Int)) (hbytes : bytes * n ≤ 281474976710656) (h63 : n ≤ 9223372036854775807)
    (hK : ∀ w', w'.rowIs w.heap.size e n (fun _ => z) → Below w.heap.size w w' → w'.heap.size = w.heap.size + 1 → wpList P ops Q rest (act.put (some d) (.slice (some ⟨w.heap.size, 0, none⟩) n n)) w') :
    wpList P ops Q ({ dst := some d, op := .makeSlice t l c, type := ty, pos := pos, after := after, guard := none } :: rest) act w := by
  subst h1 h2
  obtain ⟨i, hi0, hz0, hz, hz2⟩ := info_parts hi
  refine wpList_make_row w rfl l c t rfl e i z ht hi0 hz0 hz hz1 kl kc n hl hc (by rw [hz2]; exact hbytes) h63 ?_
  exact hK _ (World.rowIs_made w z n e) ((Below.refl _ _).alloc (Nat.le_refl _) _) (by simp)
end

/-- a row of bytes, of truths, read as a slice -/
theorem row_sl' {w : World} {b : Nat} {t : TypeId} {n : Nat} {f : Nat → Value} (h : w.rowIs b t n f) (hm : n ≤ maxLen) (cs : List Value) (hl : cs.length = n) (he : ∀ j u, cs[j]? = some u → u = f j) : Sl w 1 (some ⟨b, 0, none⟩) n n cs :=
  ⟨by omega, Nat.le_refl _, hm, (fun h => by cases h), fun p hp j u hj => by
    cases hp
    have hj' : j < n := by rw [← hl]; exact (List.getElem?_eq_some_iff.1 hj).1
    rw [Addr.add_lit, Nat.zero_add, h.cell hj', he j u hj]⟩
theorem rowIs_below {w w' : World} {B b : Nat} {t : TypeId} {n : Nat} {f : Nat → Value} (h : w.rowIs b t n f) (hb : Below B w w') (hlt : b < B) : w'.rowIs b t n f := h.of_block (hb.block b hlt)
theorem rowIs_drewN {w : World} {b : Nat} {t : TypeId} {n : Nat} {f : Nat → Value} (h : w.rowIs b t n f) (m : Nat) : (w.drewN m).rowIs b t n f := h
end Go.Dx
end

/- the text Wide -/
section
/- A page made by 'make', whose first row is a row of zeros made by 'make'. -/
namespace Go.Proofs.Ytmjkhmebpciopaa
open Go.RowKit Go.Dx

theorem rep_get {α : Type} {m i : Nat} {x y : α} (h : (List.replicate m x)[i]? = some y) : y = x := by
  rw [List.getElem?_replicate] at h
  split at h
  · cases h; rfl
  · cases h
theorem wide_pg {w : World} {b b2 m N : Nat} {t1 t2 : TypeId} (h1 : w.rowIs b t1 (m + 1) (fun j => if j = 0 then .slice (some ⟨b2, 0, none⟩) N N else .slice none 0 0)) (h2 : w.rowIs b2 t2 N (fun _ => .int .u8 0)) (hm : m + 1 ≤ maxLen) (hN : N ≤ maxLen) :
    Pg w (some ⟨b, 0, none⟩) (m + 1) (m + 1) ((some ⟨b2, 0, none⟩, N, N) :: List.replicate m (none, 0, 0)) (List.replicate N 0 :: List.replicate m []) := by
  refine ⟨row_sl' h1 hm _ (by simp) ?_, by simp, ?_⟩
  · intro j u hj
    cases j with
    | zero => simp at hj; rw [← hj]; rfl
    | succ j =>
      rw [List.map_cons, List.getElem?_cons_succ, List.map_replicate] at hj
      rw [(rep_get hj)]; rfl
  · intro i h r hh hr
    cases i with
    | zero =>
      cases hh; cases hr
      refine row_sl' h2 hN _ (by simp) ?_
      intro j u hj
      rw [List.map_replicate] at hj
      rw [rep_get hj]; rfl
    | succ i =>
      rw [List.getElem?_cons_succ] at hh hr
      rw [rep_get hh, rep_get hr]
      exact Sl.empty w 1
end Go.Proofs.Ytmjkhmebpciopaa
end

/- the text QTail -/
section
/- A region that draws its order: a head of quiet operations (reads, and calls that keep a class of worlds), and a tail that waits for the whole head: walked once. No program in sight. -/
set_option linter.unusedVariables false
namespace Go.Dx
section
variable {P : Program} {ops : Array Oper} {md : Region.Mode} {C : World → Prop}

def headQ (P : Program) (md : Region.Mode) (ops : Array Oper) (C : World → Prop) (n : Nat) (L : Array Bool → Act → Prop) : Nat → Array Bool → Act → Prop
  | 0, listed, a => L listed a
  | f + 1, listed, a => Region.ready md ops listed ≠ [] ∧ ∀ i ∈ Region.ready md ops listed, i < n ∧ qOp P ops C i (headQ P md ops C n L f (listed.setIfInBounds i true)) a

theorem wpAny_of_headQ {n g : Nat} {L : Array Bool → Act → Prop} {Q' : Exit → Act → World → Prop} (hL : ∀ listed a w, C w → L listed a → wpAny P md ops Q' g listed a w) :
    ∀ (f : Nat) (listed : Array Bool) (a : Act) (w : World), C w → headQ P md ops C n L f listed a → wpAny P md ops Q' (f + g) listed a w
  | 0, listed, a, w, hw, h => by rw [Nat.zero_add]; exact hL _ _ _ hw h
  | f + 1, listed, a, w, hw, h => by
    rw [show f + 1 + g = (f + g) + 1 by omega]
    exact ⟨fun h0 => absurd h0 h.1, fun i hi => wpOp_of_qOp hw (fun a' w' hw' h' => wpAny_of_headQ hL f _ a' w' hw' h') (h.2 i hi).2⟩

theorem headQ_first {n i : Nat} {oi : Oper} {v : Value} {L : Array Bool → Act → Prop} (hi : ops[i]? = some oi) (hsel : ∀ (j : Nat) (o : Oper) cs b, ops[j]? = some o → o.op ≠ .select cs b)
    (hs : Region.sinkB md ops n = true) (hc : Region.chainB md ops n = true) (hn : n < ops.size) (hin : i < n)
    (hdone : ∀ listed a, L listed a → ∀ j ∈ Region.ready md ops listed, n ≤ j) :
    ∀ (f : Nat) (listed : Array Bool) (a : Act), HeadInv md ops n listed →
      (∀ j oj, ops[j]? = some oj → j ≠ i → listed.getD j true = false → (∀ e ∈ oj.after, Region.binds md e = true → e.on ≠ i) → oi.apart ops oj = true) →
      i ∈ Region.ready md ops listed → YieldsIn P ops C oi v a →
      headQ P md ops C n L f (listed.setIfInBounds i true) (a.put oi.dst v) → headQ P md ops C n L (f + 1) listed a := by
  intro f
  induction f with
  | zero =>
    intro listed a inv _ hr hy H
    have hun := (mem_ready.1 hr).1
    refine ⟨fun h => (by rw [h] at hr; cases hr), fun j hj => ?_⟩
    have hjn : j < n := by
      rcases Nat.lt_or_ge j n with h | h
      · exact h
      · exact absurd hj (tail_waits hs hc hn inv _ i rfl hin hun j h)
    refine ⟨hjn, ?_⟩
    by_cases hji : j = i
    · subst hji; exact hy.qOp hi H
    · have := hdone _ _ H j (ready_mono hj hji)
      omega
  | succ f ih =>
    intro listed a inv hfree hr hy H
    have hun := (mem_ready.1 hr).1
    refine ⟨fun h => (by rw [h] at hr; cases hr), fun j hj => ?_⟩
    have hjn : j < n := by
      rcases Nat.lt_or_ge j n with h | h
      · exact h
      · exact absurd hj (tail_waits hs hc hn inv _ i rfl hin hun j h)
    refine ⟨hjn, ?_⟩
    by_cases hji : j = i
    · subst hji; exact hy.qOp hi H
    · have h1 := (H.2 j (ready_mono hj hji)).2
      obtain ⟨hjun, oj, hoj, hall⟩ := mem_ready.1 hj
      have hnot : ∀ e ∈ oj.after, Region.binds md e = true → e.on ≠ i := fun e he hb heq => by
        have h1 := hall e he hb
        rw [heq, getD_both hun] at h1
        cases h1
      have h2 := qOp_put hoj (hfree j oj hoj hji hjun hnot) (fun cs b => hsel i oi cs b hi) (fun cs b => hsel j oj cs b hoj) hy h1
      have hfree' : ∀ k ok, ops[k]? = some ok → k ≠ i → (listed.setIfInBounds j true).getD k true = false →
          (∀ e ∈ ok.after, Region.binds md e = true → e.on ≠ i) → oi.apart ops ok = true := fun k ok hk hki hun hno => by
        refine hfree k ok hk hki ?_ hno
        by_cases hjk : j = k
        · subst hjk; exact hjun
        · rw [getD_set_ne true hjk] at hun; exact hun
      refine qOp_mono (fun a' h3 => ih (listed.setIfInBounds j true) a' (inv.set hj hjn) hfree' (ready_mono hr (Ne.symm hji)) h3.1 ?_) h2
      rw [Array.setIfInBounds_comm _ _ hji]
      exact h3.2

theorem headQ_lex {n g : Nat} {Lq : Act → Prop} (hsel : Region.noSelect ops = true) (hs : Region.sinkB md ops n = true) (hc : Region.chainB md ops n = true) (hn : n < ops.size) :
    ∀ (l : List Oper) (k : Nat) (listed : Array Bool) (a : Act), (∀ j, j < l.length → l[j]? = ops[k + j]?) → k + l.length = n → HeadInv md ops n listed →
    Region.lexHead md ops g l.length k listed = true → wpQuiet P ops C Lq l a →
    headQ P md ops C n (fun listed' a' => Region.seqB md ops g n listed' = true ∧ Lq a') l.length listed a
  | [], k, listed, a, _, hk, _, hB, h => by
    have : k = n := by simpa using hk
    subst this
    exact ⟨by simpa [Region.lexHead] using hB, h⟩
  | o :: l, k, listed, a, hl, hk, inv, hB, h => by
    have h0 : ops[k]? = some o := by simpa using (hl 0 (by simp)).symm
    simp only [List.length_cons, Region.lexHead, Bool.and_eq_true] at hB
    obtain ⟨⟨hr, hf⟩, hB'⟩ := hB
    have hkn : k < n := by simp only [List.length_cons] at hk; omega
    have hr' : k ∈ Region.ready md ops listed := by simpa using hr
    have hst : qOp P ops C k (wpQuiet P ops C Lq l) a := by unfold qOp; simp only [h0]; exact h
    obtain ⟨v, hy, hK⟩ := yieldsIn_of_qOp h0 hst
    exact headQ_first h0 (Region.noSelect_spec hsel) hs hc hn hkn (fun listed' a' hL => seqB_ready hL.1) l.length listed a inv (Region.free_spec h0 hf) hr' hy
      (headQ_lex hsel hs hc hn l (k + 1) _ _ (fun j hj => by have := hl (j + 1) (by simp; omega); simpa [Nat.add_assoc, Nat.add_comm 1 j] using this) (by simp only [List.length_cons] at hk; omega) (inv.set hr' hkn) hB' hK)

theorem wp_region_quiet_tail {id : Nat} {Q : Exit → Act → World → Prop} {a : Act} {w : World} {l : List Oper} (n : Nat) (hm : P.follows .mixedOrders = true) (hB : Region.lexTailB .any l.toArray n = true) (hC : C w.drew)
    (h : wpQuiet P l.toArray C (fun a' => ∀ w', C w' → wpList P l.toArray Q (l.drop n) a' w') (l.take n) a) : (Code.region id l.toArray true).wp P Q a w := by
  simp only [Region.lexTailB, Bool.and_eq_true, decide_eq_true_eq] at hB
  obtain ⟨⟨⟨⟨hsel, hn⟩, hs⟩, hc⟩, hlex⟩ := hB
  have hn' : n < l.length := by simpa using hn
  have htl : (l.take n).length = n := by simp; omega
  have hdl : (l.drop n).length = l.toArray.size - n := by simp
  have inv0 : HeadInv .any l.toArray n (Array.replicate l.toArray.size false) :=
    ⟨by simp, fun j oj _ hl => (by rw [getD_replicate_false] at hl; cases hl), fun t _ ht => getD_in (by simpa using ht) (getD_replicate_false _ _)⟩
  have H := headQ_lex (md := .any) (g := l.toArray.size - n) hsel hs hc hn (l.take n) 0 _ a (fun j hj => by
    have hj' : j < n := by rw [htl] at hj; exact hj
    simp [hj']) (by simpa using htl) inv0 (by rw [htl]; exact hlex) h
  refine wp_region_any hm ?_
  have := wpAny_of_headQ (Q' := Q) (g := l.toArray.size - n) (fun listed a' w' hw' hL => by
    have := wpAny_of_seq (md := .any) (Q' := Q) (l.drop n) n listed a' w' (fun j => by simp [List.getElem?_drop]) (by rw [hdl]; exact hL.1) (hL.2 w' hw')
    rwa [hdl] at this) _ _ _ _ hC H
  rw [htl, show n + (l.toArray.size - n) = l.toArray.size by omega] at this
  exact this
/-- the same at the class 'whatever came on top of w' -/
theorem wp_region_below_tail {id : Nat} {Q : Exit → Act → World → Prop} {a : Act} {w : World} {l : List Oper} (n : Nat) (hm : P.follows .mixedOrders = true) (hB : Region.lexTailB .any l.toArray n = true)
    (h : wpQuiet P l.toArray (fun w' => ∃ p : OnTop w, w' = p.v) (fun a' => ∀ w', (∃ p : OnTop w, w' = p.v) → wpList P l.toArray Q (l.drop n) a' w') (l.take n) a) : (Code.region id l.toArray true).wp P Q a w :=
  wp_region_quiet_tail (C := fun w' => ∃ p : OnTop w, w' = p.v) n hm hB ⟨⟨w.drewN 1, Still.below 1⟩, rfl⟩ h
end
end Go.Dx
end

/- the text Free -/
section
/- A region that draws its order and whose operations make memory: shown operation by operation, whatever the order. Each operation of the head leaves a value in its slot and a fact on it that stays true when memory grows; the tail waits for the whole head. No program in sight. -/
set_option linter.unusedVariables false
namespace Go.Dx
open Go.RowKit

theorem wp_both {P : Program} {o : Oper} {a : Act} {w : World} {K K' : Act → World → Prop} {Q Q' : Exit → Act → World → Prop} (h : ∀ a w, K a w → K' a w) (hp : ∀ e a w, e ≠ .normal → Q e a w → Q' e a w)
    (hh : o.wp P a w K Q) : o.wp P a w K' Q' := by
  unfold Oper.wp at *
  generalize (execOp a.eval o).run P w = r at *
  cases r with
  | ok n w' =>
    cases n <;> simp only [Oper.upon] at hh ⊢ <;>
      first
        | exact h _ _ hh
        | exact Calls.mono hh (fun e w'' he => by
            cases e <;> first
              | exact h _ _ he
              | exact hp _ _ _ (by simp) he
              | (obtain ⟨a1, w1, h1⟩ := he; exact ⟨a1, w1, hp _ _ _ (by simp) h1⟩))
        | exact Rows.mono hh (fun _ _ he => h _ _ he)
  | halt x w' => cases x <;> simp only [Oper.upon] at hh ⊢ <;> first | exact hp _ _ _ (by simp) hh | exact hh

theorem opt_bool {x : Option Value} {b : Bool} (h : x.getD undef = .bool b) : x = some (.bool b) := by
  cases x with
  | none => simp [undef] at h
  | some v => rw [← h]; rfl
/-- one operation of the head: its number, its slot, the slots that its fact speaks of, the fact -/
structure HOp where
  i : Nat
  d : Nat
  s : List Nat
  p : List Value → World → Prop

def HOp.fact (t : HOp) (a : Act) (w : World) : Prop := t.p (t.s.map fun k => a.tmps.getD k undef) w
/-- what an operation leaves -/
def OneDone (d : Nat) (a : Act) (w : World) (R : Value → World → Prop) (e : Exit) (a' : Act) (w' : World) : Prop := e = .normal ∧ ∃ v, a' = a.put (some d) v ∧ Below w.heap.size w w' ∧ R v w'

section
variable {P : Program}

def putAll (a : Act) : List (Nat × Value) → Act
  | [] => a
  | (d, v) :: l => putAll (a.put (some d) v) l
theorem putAll_defers (a : Act) : ∀ l, (putAll a l).defers = a.defers := by
  intro l
  induction l generalizing a with
  | nil => rfl
  | cons x l ih => obtain ⟨d, v⟩ := x; rw [putAll, ih]; rfl
theorem putAll_size (a : Act) : ∀ l, (putAll a l).tmps.size = a.tmps.size := by
  intro l
  induction l generalizing a with
  | nil => rfl
  | cons x l ih => obtain ⟨d, v⟩ := x; rw [putAll, ih]; simp [Act.put]
theorem put_get (a : Act) (d k : Nat) (v : Value) : (a.put (some d) v).tmps.getD k undef = if d = k ∧ d < a.tmps.size then v else a.tmps.getD k undef := by
  unfold Act.put
  simp only [Array.getD_eq_getD_getElem?, Array.getElem?_setIfInBounds]
  by_cases h : d = k
  · subst h
    by_cases h2 : d < a.tmps.size
    · simp [h2]
    · simp [h2]
  · simp [h]
theorem putAll_get (g : Nat → Value) : ∀ (L : List Nat) (a : Act) (k : Nat), (∀ d ∈ L, d < a.tmps.size) → (putAll a (L.map fun d => (d, g d))).tmps.getD k undef = if k ∈ L then g k else a.tmps.getD k undef := by
  intro L
  induction L with
  | nil => intro a k _; simp [putAll]
  | cons d L ih =>
    intro a k hs
    have hd := hs d List.mem_cons_self
    rw [List.map_cons, putAll, ih _ _ (fun e he => by simp [Act.put]; exact hs e (List.mem_cons_of_mem _ he)), put_get]
    by_cases h1 : k ∈ L
    · rw [if_pos h1, if_pos (List.mem_cons_of_mem _ h1)]
    · rw [if_neg h1]
      by_cases h2 : d = k
      · subst h2; rw [if_pos ⟨rfl, hd⟩, if_pos List.mem_cons_self]
      · rw [if_neg (fun h => h2 h.1), if_neg (fun h => by rcases List.mem_cons.1 h with h | h; exact h2 h.symm; exact h1 h)]
theorem act_ext {a b : Act} (h1 : a.defers = b.defers) (h2 : a.tmps.size = b.tmps.size) (h3 : ∀ k, a.tmps.getD k undef = b.tmps.getD k undef) : a = b := by
  obtain ⟨x, d⟩ := a
  obtain ⟨y, e⟩ := b
  simp only at h1 h2 h3
  subst h1
  congr 1
  apply Array.ext h2
  intro k hk1 hk2
  have := h3 k
  simpa [Array.getD, hk1, hk2] using this

theorem inj_nodup {α : Type} (f : α → Nat) : ∀ (T : List α), (T.map f).Nodup → ∀ t ∈ T, ∀ u ∈ T, f t = f u → t = u := by
  intro T
  induction T with
  | nil => intro _ t ht; cases ht
  | cons x T ih =>
    intro h t ht u hu e
    rw [List.map_cons, List.nodup_cons] at h
    rcases List.mem_cons.1 ht with h1 | h1 <;> rcases List.mem_cons.1 hu with h2 | h2
    · rw [h1, h2]
    · exact absurd (show f x ∈ T.map f from List.mem_map.2 ⟨u, h2, by rw [← e, h1]⟩) h.1
    · exact absurd (show f x ∈ T.map f from List.mem_map.2 ⟨t, h1, by rw [e, h2]⟩) h.1
    · exact ih h.2 t h1 u h2 e
/-- a property of each element of a list, written out -/
def All {α : Type} (R : α → Prop) : List α → Prop
  | [] => True
  | x :: l => R x ∧ All R l
theorem All.mem {α : Type} {R : α → Prop} : ∀ {l : List α}, All R l → ∀ x ∈ l, R x
  | y :: l, h, x, hx => by
    rcases List.mem_cons.1 hx with rfl | hx
    · exact h.1
    · exact All.mem h.2 x hx
/-- the conditions on the text alone -/
def headOk (l : List Oper) (n : Nat) (T : List (Nat × Nat × List Nat)) (size : Nat) : Bool :=
  let ops := l.toArray
  decide ((T.map (·.1)).Nodup) && decide (n < l.length) && Region.sinkB .any ops n && Region.chainB .any ops n && Region.seqB .any ops (l.length - n) n ((List.replicate n true ++ List.replicate (l.length - n) false).toArray) &&
  (List.range n).all (fun j => T.any fun t => t.1 == j) &&
  T.all (fun t => decide (t.1 < n) && decide (t.2.1 < size) && (match l[t.1]? with | some o => o.dst == some t.2.1 && (o.after.all fun e => !Region.binds .any e || decide (e.on < t.1)) | none => false)) &&
  T.all (fun t => T.all fun u => t.1 == u.1 || (t.2.1 != u.2.1 && (!u.2.2.contains t.2.1 || Region.waitsFor .any ops u.1 t.1)))

structure FreeInv (l : List Oper) (n : Nat) (T : List HOp) (a0 : Act) (w0 : World) (listed : Array Bool) (a : Act) (w : World) : Prop where
  inv : HeadInv .any l.toArray n listed
  defers : a.defers = a0.defers
  size : a.tmps.size = a0.tmps.size
  frame : ∀ k, (∀ t ∈ T, t.d ≠ k) → a.tmps.getD k undef = a0.tmps.getD k undef
  bel : Below w0.heap.size w0 w
  facts : ∀ t ∈ T, listed.getD t.i false = true → t.fact a w

def todo (listed : Array Bool) (n : Nat) : Nat := ((List.range n).filter fun j => !listed.getD j true).length
theorem todo_set {listed : Array Bool} {n i : Nat} (hi : i < n) (hl : listed.getD i true = false) : todo (listed.setIfInBounds i true) n + 1 = todo listed n := by
  unfold todo
  have hlt : i < listed.size := by
    rcases Nat.lt_or_ge i listed.size with h | h
    · exact h
    · simp [Array.getElem?_eq_none h] at hl
  have key : ∀ m, ((List.range m).filter fun j => !(listed.setIfInBounds i true).getD j true).length + (if i < m then 1 else 0) = ((List.range m).filter fun j => !listed.getD j true).length := by
    intro m
    induction m with
    | zero => simp
    | succ m ih =>
      rw [List.range_succ, List.filter_append, List.filter_append, List.length_append, List.length_append]
      by_cases him : i = m
      · subst him
        have e1 : (listed.setIfInBounds i true).getD i true = true := by simp [hlt]
        rw [if_neg (Nat.lt_irrefl _)] at ih
        rw [if_pos (Nat.lt_succ_self _), ← ih]
        simp only [List.filter_cons, List.filter_nil, e1, hl, Bool.not_true, Bool.not_false, Bool.false_eq_true, if_false, if_true, List.length_nil, List.length_singleton]
      · have e2 : (List.filter (fun j => !(listed.setIfInBounds i true).getD j true) [m]) = List.filter (fun j => !listed.getD j true) [m] := by simp only [List.filter_cons, List.filter_nil, getD_set_ne true him]
        rw [e2]
        by_cases h : i < m
        · rw [if_pos h] at ih; rw [if_pos (by omega)]; omega
        · rw [if_neg h] at ih; rw [if_neg (by omega)]; omega
  have := key n
  rw [if_pos hi] at this
  exact this

theorem wp_region_free {id : Nat} {Q : Exit → Act → World → Prop} {a0 : Act} {w0 : World} {l : List Oper} (n : Nat) (T : List HOp) (hm : P.follows .mixedOrders = true)
    (hB : headOk l n (T.map fun t => (t.i, t.d, t.s)) a0.tmps.size = true)
    (hmono : All (fun t : HOp => ∀ vs w w', Below w.heap.size w w' → t.p vs w → t.p vs w') T)
    (hop : All (fun t : HOp => ∀ o, l[t.i]? = some o → ∀ (a : Act) (w : World), Below w0.heap.size w0 w →
      (∀ k, (T.map (·.d)).contains k = false → a.tmps.getD k undef = a0.tmps.getD k undef) →
      (∀ (k : Nat) (u : HOp), T[k]? = some u → Region.waitsFor .any l.toArray t.i u.i = true → u.p (u.s.map fun k => a.tmps.getD k undef) w) →
      wpList P l.toArray (OneDone t.d a w fun v w' => t.p (t.s.map fun k => if t.d = k then v else a.tmps.getD k undef) w') [o] a w) T)
    (hend : ∀ (g : Nat → Value) (w : World), Below w0.heap.size w0 w → (∀ (k : Nat) (u : HOp), T[k]? = some u → u.p (u.s.map fun k => if k ∈ T.map (·.d) then g k else a0.tmps.getD k undef) w) →
      wpList P l.toArray Q (l.drop n) (putAll a0 ((T.map (·.d)).map fun d => (d, g d))) w) : (Code.region id l.toArray true).wp P Q a0 w0 := by
  simp only [headOk, Bool.and_eq_true, decide_eq_true_eq] at hB
  obtain ⟨⟨⟨⟨⟨⟨⟨hnd, hn⟩, hs⟩, hc⟩, hseq⟩, hcov⟩, hT⟩, hpair⟩ := hB
  have hnodup : ∀ t ∈ T, ∀ u ∈ T, t.i = u.i → t = u := inj_nodup (·.i) T (by rw [List.map_map] at hnd; exact hnd)
  have hn' : n < l.toArray.size := by simpa using hn
  have cover : ∀ j, j < n → ∃ t ∈ T, t.i = j := by
    intro j hj
    have h := List.all_eq_true.1 hcov j (List.mem_range.2 hj)
    obtain ⟨x, hx, he⟩ := List.any_eq_true.1 h
    obtain ⟨t, ht, rfl⟩ := List.mem_map.1 hx
    exact ⟨t, ht, by simpa using he⟩
  have own : ∀ t ∈ T, t.i < n ∧ t.d < a0.tmps.size ∧ ∃ o, l[t.i]? = some o ∧ o.dst = some t.d ∧ ∀ e ∈ o.after, Region.binds .any e = true → e.on < t.i := by
    intro t ht
    have h := List.all_eq_true.1 hT _ (List.mem_map.2 ⟨t, ht, rfl⟩)
    simp only [Bool.and_eq_true, decide_eq_true_eq] at h
    obtain ⟨⟨h1, h2⟩, h3⟩ := h
    refine ⟨h1, h2, ?_⟩
    cases ho : l[t.i]? with
    | none => rw [ho] at h3; cases h3
    | some o =>
      rw [ho] at h3
      simp only [Bool.and_eq_true, beq_iff_eq] at h3
      refine ⟨o, rfl, h3.1, fun e he hb => ?_⟩
      have := Array.all_eq_true_iff_forall_mem.1 h3.2 e he
      simpa [hb] using this
  have pair : ∀ t ∈ T, ∀ u ∈ T, t.i ≠ u.i → t.d ≠ u.d ∧ (t.d ∈ u.s → Region.waitsFor .any l.toArray u.i t.i = true) := by
    intro t ht u hu hne
    have h := List.all_eq_true.1 (List.all_eq_true.1 hpair _ (List.mem_map.2 ⟨t, ht, rfl⟩)) _ (List.mem_map.2 ⟨u, hu, rfl⟩)
    simp only [Bool.or_eq_true, beq_iff_eq, hne, false_or, Bool.and_eq_true, bne_iff_ne, ne_eq, Bool.not_eq_true'] at h
    refine ⟨h.1, fun hin => ?_⟩
    rcases h.2 with h2 | h2
    · have : u.s.contains t.d = true := by simpa using hin
      rw [this] at h2; cases h2
    · exact h2
  have key : ∀ (f : Nat) (listed : Array Bool) (a : Act) (w : World), FreeInv l n T a0 w0 listed a w → todo listed n = f → wpAny P .any l.toArray Q (f + (l.length - n)) listed a w := by
    intro f
    induction f with
    | zero =>
      intro listed a w I h0
      have hall : ∀ j, j < n → listed.getD j true = true := by
        intro j hj
        cases hb : listed.getD j true with
        | true => rfl
        | false =>
          have : j ∈ (List.range n).filter fun j => !listed.getD j true := List.mem_filter.2 ⟨List.mem_range.2 hj, by rw [hb]; rfl⟩
          unfold todo at h0
          rw [List.eq_nil_of_length_eq_zero h0] at this
          cases this
      have hlist : listed = (List.replicate n true ++ List.replicate (l.length - n) false).toArray := by
        have hsz := I.inv.size
        apply Array.ext
        · simp at hsz ⊢; omega
        · intro j h1 h2
          by_cases hj : j < n
          · have := hall j hj
            simp [Array.getD, h1] at this
            simp [this, List.getElem_append_left, hj]
          · have := I.inv.tail j (by omega) (by rw [← hsz]; exact h1)
            simp [Array.getD, h1] at this
            simp only [this, List.getElem_toArray]
            rw [List.getElem_append_right (by simp; omega)]
            simp
      have ha : a = putAll a0 ((T.map (·.d)).map fun d => (d, a.tmps.getD d undef)) := by
        have hd : ∀ d ∈ T.map (·.d), d < a0.tmps.size := by
          intro d hd
          obtain ⟨t, ht, rfl⟩ := List.mem_map.1 hd
          exact (own t ht).2.1
        refine act_ext (by rw [putAll_defers]; exact I.defers) (by rw [putAll_size]; exact I.size) (fun k => ?_)
        rw [putAll_get (fun d => a.tmps.getD d undef) _ _ _ hd]
        by_cases h : k ∈ T.map (·.d)
        · rw [if_pos h]
        · rw [if_neg h]
          exact I.frame k (fun t ht e => h (List.mem_map.2 ⟨t, ht, e⟩))
      have hfin := hend (fun d => a.tmps.getD d undef) w I.bel (fun k u hu => by
        have hu' := List.mem_of_getElem? hu
        have h1 := I.facts u hu' (by
          have := hall u.i (own u hu').1
          rcases Nat.lt_or_ge u.i listed.size with h' | h'
          · simp [h'] at this ⊢; exact this
          · have := I.inv.size; have := (own u hu').1; omega)
        unfold HOp.fact at h1
        have e : (u.s.map fun k => if k ∈ T.map (·.d) then a.tmps.getD k undef else a0.tmps.getD k undef) = u.s.map fun k => a.tmps.getD k undef := by
          apply List.map_congr_left
          intro k _
          by_cases h : k ∈ T.map (·.d)
          · rw [if_pos h]
          · rw [if_neg h]
            exact (I.frame k (fun t ht e => h (List.mem_map.2 ⟨t, ht, e⟩))).symm
        rw [e]
        exact h1)
      rw [← ha] at hfin
      rw [Nat.zero_add]
      have hseq' : Region.seqB .any l.toArray (l.drop n).length n listed = true := by rw [hlist, List.length_drop]; exact hseq
      have := wpAny_of_seq (md := .any) (Q' := Q) (l.drop n) n listed a w (fun j => by simp [List.getElem?_drop]) hseq' hfin
      rwa [List.length_drop] at this
    | succ f ih =>
      intro listed a w I hf
      have hex : ∃ j, j < n ∧ listed.getD j true = false := by
        cases hL : (List.range n).filter fun j => !listed.getD j true with
        | nil => unfold todo at hf; rw [hL] at hf; cases hf
        | cons j L =>
          have : j ∈ (List.range n).filter fun j => !listed.getD j true := by rw [hL]; exact List.mem_cons_self
          obtain ⟨h1, h2⟩ := List.mem_filter.1 this
          exact ⟨j, List.mem_range.1 h1, by simpa using h2⟩
      have hready : Region.ready .any l.toArray listed ≠ [] := by
        have hmin : ∀ m j, j ≤ m → j < n → listed.getD j true = false → ∃ i, i ∈ Region.ready .any l.toArray listed := by
          intro m
          induction m with
          | zero =>
            intro j hj hjn hjl
            have hj0 : j = 0 := by omega
            subst hj0
            obtain ⟨t, ht, hti⟩ := cover 0 hjn
            obtain ⟨_, _, o, ho, _, hb⟩ := own t ht
            rw [hti] at ho hb
            exact ⟨0, mem_ready.2 ⟨hjl, o, by simpa using ho, fun e he hbe => absurd (hb e he hbe) (by omega)⟩⟩
          | succ m ihm =>
            intro j hj hjn hjl
            obtain ⟨t, ht, hti⟩ := cover j hjn
            obtain ⟨_, _, o, ho, _, hb⟩ := own t ht
            rw [hti] at ho hb
            by_cases hall : ∀ e ∈ o.after, Region.binds .any e = true → listed.getD e.on false = true
            · exact ⟨j, mem_ready.2 ⟨hjl, o, by simpa using ho, hall⟩⟩
            · simp only [Classical.not_forall] at hall
              obtain ⟨e, he, hbe, hne⟩ := hall
              have hlt := hb e he hbe
              have hes : e.on < listed.size := by rw [I.inv.size]; simp; omega
              exact ihm e.on (by omega) (by omega) (getD_in hes (by simpa using hne))
        obtain ⟨j, hj, hjl⟩ := hex
        obtain ⟨i, hi⟩ := hmin j j (Nat.le_refl _) hj hjl
        intro h
        rw [h] at hi
        cases hi
      rw [show f + 1 + (l.length - n) = (f + (l.length - n)) + 1 by omega]
      refine ⟨fun h => absurd h hready, fun i hi => ?_⟩
      have hin : i < n := by
        rcases Nat.lt_or_ge i n with h | h
        · exact h
        · obtain ⟨j, hj, hjl⟩ := hex
          exact absurd hi (tail_waits hs hc hn' I.inv _ j rfl hj hjl i h)
      obtain ⟨t, ht, hti⟩ := cover i hin
      obtain ⟨_, htd, o, ho, hdst, _⟩ := own t ht
      obtain ⟨hil, oi, hoi, hafter⟩ := mem_ready.1 hi
      have hoo : oi = o := by rw [hti] at ho; exact Option.some.inj (hoi.symm.trans (by simpa using ho))
      subst hoo
      have H := hop.mem t ht oi ho a w I.bel (fun k hk => I.frame k (fun u hu e => by
          have : (T.map (·.d)).contains k = true := by simpa using ⟨u, hu, e⟩
          rw [this] at hk; cases hk)) (fun k u hu hw => by
        have hu' := List.mem_of_getElem? hu
        obtain ⟨oj, hoj, e, he, hb, hon⟩ := Region.waitsFor_spec hw
        have : oj = oi := by rw [hti] at hoj; exact Option.some.inj (hoj.symm.trans hoi)
        subst this
        have h1 := hafter e he hb
        rw [hon] at h1
        exact I.facts u hu' h1)
      have step : ∀ (a' : Act) (w' : World), OneDone t.d a w (fun v w' => t.p (t.s.map fun k => if t.d = k then v else a.tmps.getD k undef) w') .normal a' w' → wpAny P .any l.toArray Q (f + (l.length - n)) (listed.setIfInBounds i true) a' w' := by
        intro a' w' h
        obtain ⟨_, v, rfl, hbel, hp⟩ := h
        refine ih _ _ _ ⟨I.inv.set hi hin, I.defers, ?_, ?_, ?_, ?_⟩ ?_
        · rw [← I.size]; simp [Act.put]
        · intro k hk
          rw [put_get, if_neg (fun h => hk t ht h.1)]
          exact I.frame k hk
        · exact I.bel.trans (hbel.mono I.bel.size)
        · intro u hu hul
          by_cases hui : t.i = u.i
          · have hd : u.d = t.d ∨ True := .inr trivial
            unfold HOp.fact
            by_cases hut : u = t
            · subst hut
              have e : (u.s.map fun k => (a.put (some u.d) v).tmps.getD k undef) = u.s.map fun k => if u.d = k then v else a.tmps.getD k undef := by
                apply List.map_congr_left
                intro k _
                rw [put_get, I.size]
                by_cases hk : u.d = k
                · rw [if_pos ⟨hk, htd⟩, if_pos hk]
                · rw [if_neg (fun h => hk h.1), if_neg hk]
              rw [e]
              exact hp
            · exact absurd (hnodup t ht u hu hui).symm hut
          · unfold HOp.fact
            have hul2 : listed.getD u.i false = true := by rw [← getD_set_ne false (i := i) (j := u.i) (by rw [← hti]; exact hui)]; exact hul
            have h1 := hmono.mem u hu _ _ _ hbel (I.facts u hu hul2)
            have hnot : t.d ∉ u.s := by
              intro hin2
              have hw := (pair t ht u hu hui).2 hin2
              obtain ⟨ou, hou, e, he, hb, hon⟩ := Region.waitsFor_spec hw
              have := I.inv.closed u.i ou hou hul2 e he hb
              rw [hon, hti, getD_both hil] at this
              cases this
            have e : (u.s.map fun k => (a.put (some t.d) v).tmps.getD k undef) = u.s.map fun k => a.tmps.getD k undef := by
              apply List.map_congr_left
              intro k hk
              rw [put_get, if_neg (fun (h : t.d = k ∧ t.d < a.tmps.size) => hnot (by rw [h.1]; exact hk))]
            rw [e]
            exact h1
        · have := todo_set hin hil; omega
      unfold wpList at H
      unfold wpOp
      rw [hoi]
      simp only
      by_cases hwant : Region.wanted oi (yielded l.toArray a.tmps) = true
      · rw [if_pos hwant] at H
        rw [if_pos hwant]
        left
        rcases H with H | ⟨_, a1, w1, h1, _⟩
        · exact wp_both (fun a' w' h => step a' w' h) (fun e a' w' he h => absurd h.1 he) H
        · cases h1
      · rw [if_neg hwant] at H
        rw [if_neg hwant]
        exact step _ _ H
  refine wp_region_any hm ?_
  have inv0 : HeadInv .any l.toArray n (Array.replicate l.toArray.size false) :=
    ⟨by simp, fun j oj _ hl => (by rw [getD_replicate_false] at hl; cases hl), fun t _ ht => getD_in (by simpa using ht) (getD_replicate_false _ _)⟩
  have I0 : FreeInv l n T a0 w0 (Array.replicate l.toArray.size false) a0 { w0 with drawn := w0.drawn + 1 } :=
    ⟨inv0, rfl, rfl, fun _ _ => rfl, Still.below 1, fun t _ hl => (by rw [getD_replicate_false] at hl; cases hl)⟩
  have ht0 : todo (Array.replicate l.toArray.size false) n = n := by
    unfold todo
    rw [List.filter_eq_self.2 (fun j hj => by
      have hj' := List.mem_range.1 hj
      have : (Array.replicate l.toArray.size false).getD j true = false := getD_in (by simp; omega) (getD_replicate_false _ _)
      rw [this]; rfl), List.length_range]
  have := key n _ _ _ I0 ht0
  rwa [show n + (l.length - n) = l.toArray.size by simp; omega] at this
end
end Go.Dx
end

/- the text T8 -/
section
/- Chapter 15: the widths of the columns. -/
namespace Go.Proofs.Ytmjkhmebpciopaa
open Go.RowKit Go.Dx

/-- the widths of the columns -/
def widthsL (X : List (List (List UInt8))) : List Nat := (List.range (nCols X)).map (colW X)
theorem blo (w : World) (o : Obj) : Below w.heap.size w (w.alloc o) := (Below.refl _ w).alloc (Nat.le_refl _) _
theorem widthsL_len (X : List (List (List UInt8))) : (widthsL X).length = nCols X := by unfold widthsL; simp
theorem widthsL_get (X : List (List (List UInt8))) {i : Nat} (h : i < nCols X) : (widthsL X)[i]? = some (colW X i) := by unfold widthsL; rw [List.getElem?_map, List.getElem?_range h]; rfl

set_option maxRecDepth 100000 in
set_option maxHeartbeats 800000 in
theorem tab_widths (X : List (List (List UInt8))) (hs : List Hd) (a : Option Addr) (n c : Nat) (w : World) (hp : Pg3 w a n c hs X) (hN : ∀ row ∈ X, row.length = nCols X) (h1 : 1 ≤ X.length) (hN1 : nCols X ≤ 12) :
    Calls Try.prog 27 #[.slice a n c] w fun e w' => ∃ a', e = .returned (.slice a' (nCols X) (nCols X)) ∧ Sl w' 1 a' (nCols X) (nCols X) ((ints (widthsL X)).map I64) ∧ Below w.heap.size w w' := by
  obtain rfl := hp.n_eq
  obtain ⟨n, hn⟩ : ∃ n, n = X.length := ⟨_, rfl⟩
  obtain ⟨x0, hx0⟩ : ∃ x, X[0]? = some x := ⟨X[0]'(by omega), by simp⟩
  obtain ⟨ax0, cx0, ks0, hux0, hpx0⟩ := hp.get hx0
  rw [← nCols_of hx0] at hux0
  have HUX0 := hide hux0
  have HL := hide (widthsL_len X)
  have HGT := fun (i : Nat) (h : i < nCols X) => widthsL_get X h
  clear hx0 hux0 hpx0
  generalize nCols X = N at *
  go_enter Try.func27, Try.ntmps27
  go_wp2_with (first
    | (with_reducible refine idx_3 6 _ _ _ _ _ hs rfl hp.top _ _ 0 rfl rfl _ HUX0.out ?_; intro b o hcell hbo)
    | (with_reducible refine make_row 9 _ _ _ 3 (.int .i64 0) 8 Try.underlying22 info_int rfl _ _ _ _ N rfl rfl rfl rfl (by omega) (by omega) ?_; intro w3 hrow3 hb3 hz3))
  clear hcell hbo
  go_loopg [12] N (fun g i w' => ∃ k : Nat, k ≤ N ∧ g = N - k ∧ i = .int .i64 k ∧ Below w.heap.size w w' ∧ w'.rowIs w.heap.size 3 N (fun i => if i < k then I64 (colW X i : Int) else I64 0))
  case atStart => exact ⟨0, by omega, by omega, rfl, hb3, hrow3.congr (fun i _ => by rw [if_neg (by omega)])⟩
  case round =>
    obtain ⟨k, hk, hg, rfl, hbk, hrk⟩ := hrel
    have HG := hide hg
    clear hg
    by_cases hkN : k < N
    · obtain ⟨m, HM⟩ : ∃ m, Hid (colW X k = m) := ⟨_, hide rfl⟩
      have hbg := hbk.alloc (hbk.size) (.cells #[.int .i64 (k : Int)] 3)
      have hr1 := rowIs_below hrk (blo wr (.cells #[.int .i64 (k : Int)] 3)) (hrk.lt)
      have hcell : ∀ w', Below (wr.alloc (.cells #[.int .i64 (k : Int)] 3)).heap.size (wr.alloc (.cells #[.int .i64 (k : Int)] 3)) w' → w'.cell? ⟨wr.heap.size, 0, none⟩ = some (.int .i64 (k : Int)) := fun w' h => (((Box.new wr 3 #[.int .i64 (k : Int)]).below h (by simp))).at_ rfl
      have hcall : ∀ w', Below (wr.alloc (.cells #[.int .i64 (k : Int)] 3)).heap.size (wr.alloc (.cells #[.int .i64 (k : Int)] 3)) w' → Calls Try.prog 50 #[.slice a X.length c, fnw wr.heap.size] w' fun e w2 => e = .returned (.int .i64 (m : Int)) ∧ w' = w2 := fun w' h => by
        have := greatest_rows k wr.heap.size X hs a X.length c w' (hp.below (hbg.trans (h.mono hbg.size))) (fun row h => by rw [hN row h]; exact hkN) (hcell w' h)
        rw [HM.out] at this; exact this
      unfold fnw at hcall
      go_wp2_with fail
      refine wp_region_free 6 [⟨0, 15, [15], fun vs _ => vs = [.slice (some ⟨w.heap.size, 0, none⟩) N N]⟩, ⟨1, 16, [16], fun vs _ => vs = [.int .i64 (k : Int)]⟩, ⟨2, 17, [17], fun vs _ => vs = [.slice a X.length c]⟩, ⟨3, 18, [18], fun vs _ => vs = [.func (.func 51) #[] #[.pointer (some ⟨wr.heap.size, 0, none⟩)]]⟩, ⟨4, 19, [19], fun vs _ => vs = [.int .i64 (m : Int)]⟩, ⟨5, 20, [20], fun vs _ => vs = [.pointer (some ⟨w.heap.size, k, none⟩)]⟩] (by kernel_rfl) (by kernel_rfl) ?_ ?_ ?_
      · simp only [All]
        refine ⟨fun _ _ _ _ h => h, fun _ _ _ _ h => h, fun _ _ _ _ h => h, fun _ _ _ _ h => h, fun _ _ _ _ h => h, fun _ _ _ _ h => h, trivial⟩
      · simp only [All]
        refine ⟨?_, ?_, ?_, ?_, ?_, ?_, trivial⟩
        · intro o ho a' w' hb hfr hdep
          obtain rfl := Option.some.inj ho
          have g3 : a'.tmps[3]?.getD undef = .slice (some ⟨w.heap.size, 0, none⟩) N N := by have h := hfr 3 (by kernel_rfl); simpa using h
          clear ho hfr hdep
          go_wp2_with fail
          exact ⟨rfl, _, rfl, Below.refl _ _, rfl⟩
        · intro o ho a' w' hb hfr hdep
          obtain rfl := Option.some.inj ho
          have g4 : a'.tmps[4]?.getD undef = .pointer (some ⟨wr.heap.size, 0, none⟩) := by have h := hfr 4 (by kernel_rfl); simpa using h
          clear ho hfr hdep
          have hcl := hcell _ hb
          go_wp2_with fail
          exact ⟨rfl, _, rfl, Below.refl _ _, rfl⟩
        · intro o ho a' w' hb hfr hdep
          obtain rfl := Option.some.inj ho
          have g0 : a'.tmps[0]?.getD undef = .slice a X.length c := by have h := hfr 0 (by kernel_rfl); simpa using h
          clear ho hfr hdep
          go_wp2_with fail
          exact ⟨rfl, _, rfl, Below.refl _ _, rfl⟩
        · intro o ho a' w' hb hfr hdep
          obtain rfl := Option.some.inj ho
          have g4 : a'.tmps[4]?.getD undef = .pointer (some ⟨wr.heap.size, 0, none⟩) := by have h := hfr 4 (by kernel_rfl); simpa using h
          clear ho hfr hdep
          go_wp2_with fail
          exact ⟨rfl, _, rfl, Below.refl _ _, rfl⟩
        · intro o ho a' w' hb hfr hdep
          obtain rfl := Option.some.inj ho
          have g17 : a'.tmps[17]?.getD undef = .slice a X.length c := by have h := hdep 2 _ rfl (by kernel_rfl); simpa using h
          have g18 : a'.tmps[18]?.getD undef = .func (.func 51) #[] #[.pointer (some ⟨wr.heap.size, 0, none⟩)] := by have h := hdep 3 _ rfl (by kernel_rfl); simpa using h
          clear ho hfr hdep
          go_wp2_with fail
          refine (hcall _ hb).mono ?_
          rintro e w2 ⟨rfl, rfl⟩
          go_wp2_with fail
          exact ⟨rfl, _, rfl, Below.refl _ _, rfl⟩
        · intro o ho a' w' hb hfr hdep
          obtain rfl := Option.some.inj ho
          have g15 : a'.tmps[15]?.getD undef = .slice (some ⟨w.heap.size, 0, none⟩) N N := by have h := hdep 0 _ rfl (by kernel_rfl); simpa using h
          have g16 : a'.tmps[16]?.getD undef = .int .i64 (k : Int) := by have h := hdep 1 _ rfl (by kernel_rfl); simpa using h
          clear ho hfr hdep
          go_wp2_with fail
          exact ⟨rfl, _, rfl, Below.refl _ _, rfl⟩
      · intro g w2 hb2 hp
        have p19 := hp 4 _ rfl
        have p20 := hp 5 _ rfl
        clear hp
        simp at p19 p20
        simp only [List.map_cons, List.map_nil, putAll, Act.put, List.setIfInBounds_toArray, List.set_cons_succ, List.set_cons_zero, p19, p20]
        have hr2 := rowIs_below hr1 hb2 (hr1.lt)
        have e1 := hr2.cell hkN
        have e2 := hr2.frozen k
        clear hcall hcell
        go_wp2
        go_roundg (N - (k + 1))
        case measure => have := HG.out; omega
        case rel =>
          refine ⟨k + 1, by omega, rfl, by go_num, (hbg.trans (hb2.mono hbg.size)).setCell (p := ⟨w.heap.size, k, none⟩) (Nat.le_refl _) _, (hr2.set k _).congr ?_⟩
          intro i hi
          by_cases e : i = k
          · subst e; rw [if_pos rfl, if_pos (by omega), HM.out]
          · rw [if_neg e]
            by_cases h : i < k
            · rw [if_pos h, if_pos (by omega)]
            · rw [if_neg h, if_neg (by omega)]
    · obtain rfl : N = k := by omega
      go_wp2
      go_ret
      refine ⟨some ⟨w.heap.size, 0, none⟩, rfl, row_sl' hrk (by unfold maxLen; omega) _ (by unfold ints; rw [List.length_map, List.length_map, HL.out]) ?_, hbk⟩
      intro j u hj
      have hjN : j < N := by
        have := (List.getElem?_eq_some_iff.1 hj).1
        unfold ints at this; rw [List.length_map, List.length_map, HL.out] at this; exact this
      rw [if_pos hjN]
      rw [List.getElem?_map, ints_get (HGT j hjN)] at hj
      exact (Option.some.inj hj).symm
end Go.Proofs.Ytmjkhmebpciopaa
end

/- the text T9 -/
section
/- Chapter 15: the fewest lines, in plain words. No program in sight. -/
namespace Go.Proofs.Ytmjkhmebpciopaa

theorem sizeW_mono (f : Nat → Nat) (j : Nat) {m m' : Nat} (h : m ≤ m') : sizeW f j m ≤ sizeW f j m' := by
  induction m' with
  | zero => obtain rfl : m = 0 := by omega
            exact Nat.le_refl _
  | succ k ih =>
    by_cases e : m = k + 1
    · subst e; exact Nat.le_refl _
    · have := ih (by omega)
      show _ ≤ sizeW f j k + (2 + f (j + k))
      omega
theorem sizeW_le2 {f g : Nat → Nat} (h : ∀ i, f i ≤ g i) (j : Nat) : ∀ m, sizeW f j m ≤ sizeW g j m
  | 0 => h 0
  | m + 1 => by have := sizeW_le2 h j m; have := h (j + m); show sizeW f j m + (2 + f (j + m)) ≤ sizeW g j m + (2 + g (j + m)); omega
/-- the lines when a part goes to column j -/
def valL (n R : Nat) (L : Nat → Nat) (j : Nat) : Nat := R + if j < n then 1 + L j else 0
theorem valL_in {n R : Nat} {L : Nat → Nat} {j : Nat} (h : j < n) : valL n R L j = R + (1 + L j) := by unfold valL; rw [if_pos h]
theorem valL_end {n R : Nat} {L : Nat → Nat} {j : Nat} (h : ¬ j < n) : valL n R L j = R := by unfold valL; rw [if_neg h]; rfl
/-- j is the best end of the part from k among those below e, the last one of these -/
structure Best (f : Nat → Nat) (n R : Nat) (W : Int) (L : Nat → Nat) (k e v j : Nat) : Prop where
  lt : k < j
  le : j < e
  ok : (sizeW f k (j - k) : Int) ≤ W
  val : v = valL n R L j
  min : ∀ i, k < i → i < e → (sizeW f k (i - k) : Int) ≤ W → v ≤ valL n R L i ∧ (v = valL n R L i → i ≤ j)
/-- L k is the least number of lines from column k on, T k the end of the first part; from column m on -/
def Sol (f : Nat → Nat) (n R : Nat) (W : Int) (L T : Nat → Nat) (m : Nat) : Prop := ∀ k, m ≤ k → k < n → Best f n R W L k (n + 1) (L k) (T k)
theorem Best.congr {f : Nat → Nat} {n R : Nat} {W : Int} {L L' : Nat → Nat} {k e v j : Nat} (h : Best f n R W L k e v j) (hL : ∀ i, k < i → i < n → L' i = L i) : Best f n R W L' k e v j := by
  have hv : ∀ i, k < i → valL n R L' i = valL n R L i := fun i hi => by
    unfold valL
    by_cases hn : i < n
    · rw [if_pos hn, if_pos hn, hL i hi hn]
    · rw [if_neg hn, if_neg hn]
  exact ⟨h.lt, h.le, h.ok, by rw [hv j h.lt]; exact h.val, fun i h1 h2 h3 => by rw [hv i h1]; exact h.min i h1 h2 h3⟩
theorem Best.uniq {f : Nat → Nat} {n R : Nat} {W : Int} {L : Nat → Nat} {k e v j v' j' : Nat} (h : Best f n R W L k e v j) (h' : Best f n R W L k e v' j') : v = v' ∧ j = j' := by
  have a := h.min j' h'.lt h'.le h'.ok
  have b := h'.min j h.lt h.le h.ok
  rw [← h'.val] at a
  rw [← h.val] at b
  have hv : v = v' := by omega
  exact ⟨hv, by have := a.2 hv; have := b.2 hv.symm; omega⟩
theorem Sol.uniq {f : Nat → Nat} {n R : Nat} {W : Int} {L T L' T' : Nat → Nat} {m : Nat} (h : Sol f n R W L T m) (h' : Sol f n R W L' T' m) : ∀ k, m ≤ k → k < n → L k = L' k ∧ T k = T' k := by
  have key : ∀ d k, n - k = d → m ≤ k → k < n → L k = L' k ∧ T k = T' k := by
    intro d
    induction d using Nat.strongRecOn with
    | ind d ih =>
      intro k hd h1 h2
      exact (h k h1 h2).uniq ((h' k h1 h2).congr fun i hi hn => (ih (n - i) (by omega) i rfl (by omega) hn).1)
  exact fun k => key (n - k) k rfl
/-- the first end -/
theorem Best.start {f : Nat → Nat} {n R : Nat} {W : Int} {L : Nat → Nat} {k : Nat} (h : (sizeW f k 1 : Int) ≤ W) : Best f n R W L k (k + 2) (valL n R L (k + 1)) (k + 1) :=
  ⟨by omega, by omega, by rw [Nat.add_sub_cancel_left]; exact h, rfl, fun i h1 h2 _ => by
    obtain rfl : i = k + 1 := by omega
    exact ⟨Nat.le_refl _, fun _ => Nat.le_refl _⟩⟩
/-- a further end that is no worse -/
theorem Best.take {f : Nat → Nat} {n R : Nat} {W : Int} {L : Nat → Nat} {k e v j : Nat} (h : Best f n R W L k e v j) (hs : (sizeW f k (e - k) : Int) ≤ W) (hv : valL n R L e ≤ v) : Best f n R W L k (e + 1) (valL n R L e) e :=
  ⟨by have := h.lt; have := h.le; omega, by omega, hs, rfl, fun i h1 h2 h3 => by
    by_cases hi : i = e
    · subst hi; exact ⟨Nat.le_refl _, fun _ => Nat.le_refl _⟩
    · have := h.min i h1 (by omega) h3
      exact ⟨by omega, fun _ => by omega⟩⟩
/-- a further end that is worse -/
theorem Best.leave {f : Nat → Nat} {n R : Nat} {W : Int} {L : Nat → Nat} {k e v j : Nat} (h : Best f n R W L k e v j) (hv : (sizeW f k (e - k) : Int) ≤ W → v < valL n R L e) : Best f n R W L k (e + 1) v j :=
  ⟨h.lt, by have := h.le; omega, h.ok, h.val, fun i h1 h2 h3 => by
    by_cases hi : i = e
    · subst hi; have := hv h3; exact ⟨by omega, fun _ => by omega⟩
    · exact h.min i h1 (by omega) h3⟩
/-- no further end is possible -/
theorem Best.done {f : Nat → Nat} {n R : Nat} {W : Int} {L : Nat → Nat} {k e e' v j : Nat} (h : Best f n R W L k e v j) (hs : ¬ (sizeW f k (e - k) : Int) ≤ W) (he : e ≤ e') : Best f n R W L k e' v j :=
  ⟨h.lt, by have := h.le; omega, h.ok, h.val, fun i h1 h2 h3 => by
    by_cases hi : i < e
    · exact h.min i h1 hi h3
    · exfalso
      have := sizeW_mono f k (m := e - k) (m' := i - k) (by omega)
      omega⟩
theorem Sol.step {f : Nat → Nat} {n R : Nat} {W : Int} {L T : Nat → Nat} {k v j : Nat} (h : Sol f n R W L T (k + 1)) (hb : Best f n R W L k (n + 1) v j) :
    Sol f n R W (fun i => if i = k then v else L i) (fun i => if i = k then j else T i) k := by
  intro i h1 h2
  by_cases e : i = k
  · subst e
    show Best f n R W _ i (n + 1) (if i = i then v else L i) (if i = i then j else T i)
    rw [if_pos rfl, if_pos rfl]
    exact hb.congr fun i' hi' _ => if_neg (by omega)
  · show Best f n R W _ i (n + 1) (if i = k then v else L i) (if i = k then j else T i)
    rw [if_neg e, if_neg e]
    exact (h i (by omega) h2).congr fun i' hi' _ => if_neg (by omega)
theorem Sol.end_ {f : Nat → Nat} {n R : Nat} {W : Int} {L T : Nat → Nat} : Sol f n R W L T n := fun k h1 h2 => by omega
/-- the parts are each as wide as allowed: a bound -/
theorem Sol.bound {f : Nat → Nat} {n R : Nat} {W : Int} {L T : Nat → Nat} {m : Nat} (h : Sol f n R W L T m) (hf : ∀ k, m ≤ k → k < n → (sizeW f k 1 : Int) ≤ W) : ∀ k, m ≤ k → k < n → L k + 1 ≤ (n - k) * (R + 1) := by
  have key : ∀ d k, n - k = d → m ≤ k → k < n → L k + 1 ≤ (n - k) * (R + 1) := by
    intro d
    induction d with
    | zero => intro k h1 _ h2; omega
    | succ d ih =>
      intro k hd h1 h2
      have hb := (h k h1 h2).min (k + 1) (by omega) (by omega) (by rw [Nat.add_sub_cancel_left]; exact hf k h1 h2)
      rw [hd, Nat.succ_mul]
      by_cases hn : k + 1 < n
      · have h3 := ih (k + 1) (by omega) (by omega) hn
        rw [valL_in hn] at hb
        rw [show n - (k + 1) = d by omega] at h3
        omega
      · rw [valL_end hn] at hb
        omega
  exact fun k => key (n - k) k rfl
/-- the same from equal widths -/
theorem sizeW_congr {f g : Nat → Nat} {N j : Nat} (h0 : 1 ≤ N) (h : ∀ i, i < N → f i = g i) : ∀ m, j + m ≤ N → sizeW f j m = sizeW g j m
  | 0, _ => h 0 h0
  | m + 1, hm => by show sizeW f j m + (2 + f (j + m)) = sizeW g j m + (2 + g (j + m)); rw [sizeW_congr h0 h m (by omega), h (j + m) (by omega)]
theorem Best.widths {f g : Nat → Nat} {n R : Nat} {W : Int} {L : Nat → Nat} {k v j : Nat} (h0 : 1 ≤ n) (hfg : ∀ i, i < n → f i = g i) (h : Best f n R W L k (n + 1) v j) : Best g n R W L k (n + 1) v j :=
  ⟨h.lt, h.le, by rw [← sizeW_congr h0 hfg (j - k) (by have := h.le; have := h.lt; omega)]; exact h.ok, h.val, fun i h1 h2 h3 => h.min i h1 h2 (by rw [sizeW_congr h0 hfg (i - k) (by omega)]; exact h3)⟩
theorem Sol.widths {f g : Nat → Nat} {n R : Nat} {W : Int} {L T : Nat → Nat} {m : Nat} (hfg : ∀ i, i < n → f i = g i) (h : Sol f n R W L T m) : Sol g n R W L T m := fun k h1 h2 => (h k h1 h2).widths (by omega) hfg
/-- the columns at which parts begin -/
def chain (n : Nat) (T : Nat → Nat) : Nat → Nat → List Nat
  | 0, _ => []
  | d + 1, k => if k < n then k :: chain n T d (T k) else []
theorem chain_more {n : Nat} {T : Nat → Nat} (hT : ∀ k, 1 ≤ k → k < n → k < T k) : ∀ d d' k, 1 ≤ k → n - k ≤ d → n - k ≤ d' → chain n T d k = chain n T d' k := by
  intro d
  induction d with
  | zero =>
    intro d' k h1 h2 h3
    cases d' with
    | zero => rfl
    | succ d' => show [] = if k < n then _ else _; rw [if_neg (by omega)]
  | succ d ih =>
    intro d' k h1 h2 h3
    show (if k < n then k :: chain n T d (T k) else []) = _
    cases d' with
    | zero => rw [if_neg (by omega)]; rfl
    | succ d' =>
      show _ = if k < n then k :: chain n T d' (T k) else []
      by_cases hk : k < n
      · rw [if_pos hk, if_pos hk]
        have := hT k h1 hk
        rw [ih d' (T k) (by omega) (by omega) (by omega)]
      · rw [if_neg hk, if_neg hk]
theorem chain_congr {n : Nat} {T T' : Nat → Nat} (hT : ∀ k, 1 ≤ k → k < n → k < T k) (h : ∀ k, 1 ≤ k → k < n → T k = T' k) : ∀ d k, 1 ≤ k → chain n T d k = chain n T' d k := by
  intro d
  induction d with
  | zero => intro k _; rfl
  | succ d ih =>
    intro k h1
    show (if k < n then k :: chain n T d (T k) else []) = if k < n then k :: chain n T' d (T' k) else []
    by_cases hk : k < n
    · rw [if_pos hk, if_pos hk, ← h k h1 hk]
      have := hT k h1 hk
      rw [ih (T k) (by omega)]
    · rw [if_neg hk, if_neg hk]
theorem Best.ex {f : Nat → Nat} {n R : Nat} {W : Int} {L : Nat → Nat} {k : Nat} (hk : k < n) (h : (sizeW f k 1 : Int) ≤ W) : ∃ v j, Best f n R W L k (n + 1) v j := by
  have key : ∀ d, k + 2 + d ≤ n + 1 → ∃ v j, Best f n R W L k (k + 2 + d) v j := by
    intro d
    induction d with
    | zero => intro _; exact ⟨_, _, Best.start h⟩
    | succ d ih =>
      intro hd
      obtain ⟨v, j, hb⟩ := ih (by omega)
      by_cases h1 : (sizeW f k (k + 2 + d - k) : Int) ≤ W ∧ valL n R L (k + 2 + d) ≤ v
      · exact ⟨_, _, hb.take h1.1 h1.2⟩
      · exact ⟨_, _, hb.leave fun h2 => by
          rcases Nat.lt_or_ge v (valL n R L (k + 2 + d)) with h3 | h3
          · exact h3
          · exact absurd ⟨h2, h3⟩ h1⟩
  obtain ⟨v, j, hb⟩ := key (n + 1 - (k + 2)) (by omega)
  rw [show k + 2 + (n + 1 - (k + 2)) = n + 1 by omega] at hb
  exact ⟨v, j, hb⟩
theorem Sol.ex {f : Nat → Nat} {n R : Nat} {W : Int} (hf : ∀ k, 1 ≤ k → k < n → (sizeW f k 1 : Int) ≤ W) : ∃ L T, Sol f n R W L T 1 := by
  have key : ∀ d, ∃ L T, Sol f n R W L T (1 + (n - 1 - d)) := by
    intro d
    induction d with
    | zero => exact ⟨fun _ => 0, fun _ => 0, fun k h1 h2 => by omega⟩
    | succ d ih =>
      obtain ⟨L, T, h⟩ := ih
      by_cases hd : n - 1 - d = n - 1 - (d + 1)
      · rw [← hd]; exact ⟨L, T, h⟩
      · have e : 1 + (n - 1 - d) = 1 + (n - 1 - (d + 1)) + 1 := by omega
        rw [e] at h
        obtain ⟨v, j, hb⟩ := Best.ex (f := f) (n := n) (R := R) (W := W) (L := L) (k := 1 + (n - 1 - (d + 1))) (by omega) (hf _ (by omega) (by omega))
        exact ⟨_, _, h.step hb⟩
  obtain ⟨L, T, h⟩ := key (n - 1)
  rw [Nat.sub_self, Nat.add_zero] at h
  exact ⟨L, T, h⟩
theorem Sol.small {f : Nat → Nat} {n R : Nat} {W : Int} {L T : Nat → Nat} (h : Sol f n R W L T 1) (hf : ∀ k, 1 ≤ k → k < n → (sizeW f k 1 : Int) ≤ W) (hn : n ≤ 12) (hR : R ≤ 12) : ∀ k, 1 ≤ k → k < n → L k ≤ 155 := by
  intro k h1 h2
  have h3 := h.bound hf k h1 h2
  have h4 : (n - k) * (R + 1) ≤ 12 * 13 := Nat.mul_le_mul (by omega) (by omega)
  omega
/-- the list of the least numbers -/
def leastL (n : Nat) (L : Nat → Nat) : List Nat := (List.range n).map fun i => if i + 1 < n then L (i + 1) else 0
theorem leastL_len (n : Nat) (L : Nat → Nat) : (leastL n L).length = n := by unfold leastL; simp
theorem leastL_get {n : Nat} (L : Nat → Nat) {i : Nat} (h : i < n) : (leastL n L)[i]? = some (if i + 1 < n then L (i + 1) else 0) := by unfold leastL; rw [List.getElem?_map, List.getElem?_range h]; rfl
theorem chain_step {n : Nat} {T : Nat → Nat} (hT : ∀ k, 1 ≤ k → k < n → k < T k) {k : Nat} (h1 : 1 ≤ k) (h2 : k < n) : chain n T n k = k :: chain n T n (T k) := by
  obtain ⟨d, rfl⟩ : ∃ d, n = d + 1 := ⟨n - 1, by omega⟩
  show (if k < d + 1 then k :: chain (d + 1) T d (T k) else []) = _
  have := hT k h1 h2
  rw [if_pos h2, chain_more hT d (d + 1) (T k) (by omega) (by omega) (by omega)]
theorem chain_stop {n : Nat} {T : Nat → Nat} : ∀ {d k : Nat}, ¬ k < n → chain n T d k = []
  | 0, _, _ => rfl
  | _ + 1, _, h => if_neg h
theorem chain_len {n : Nat} {T : Nat → Nat} : ∀ (d k : Nat), (chain n T d k).length ≤ d
  | 0, _ => Nat.le_refl _
  | d + 1, k => by
    show (if k < n then k :: chain n T d (T k) else []).length ≤ _
    by_cases h : k < n
    · rw [if_pos h]; have := chain_len (n := n) (T := T) d (T k); simp; omega
    · rw [if_neg h]; simp
theorem Sol.gt {f : Nat → Nat} {n R : Nat} {W : Int} {L T : Nat → Nat} (h : Sol f n R W L T 1) : ∀ k, 1 ≤ k → k < n → k < T k := fun k h1 h2 => (h k h1 h2).lt
theorem Sol.le {f : Nat → Nat} {n R : Nat} {W : Int} {L T : Nat → Nat} (h : Sol f n R W L T 1) : ∀ k, 1 ≤ k → k < n → T k ≤ n := fun k h1 h2 => by have := (h k h1 h2).le; omega
end Go.Proofs.Ytmjkhmebpciopaa
end

/- the text T10 -/
section
/- Chapter 15: the reference's least numbers of lines. -/
namespace Go.Proofs.Ytmjkhmebpciopaa
open Go.RowKit Go.Dx

theorem own_kindW {w : World} {B : Nat} {e : TypeId} {n c sz : Nat} {t : Addr} {cs : List Value} (h : Own w B e sz (some t) n c cs) : ∃ C z, w.heap[t.block]? = some (.cells C e z) := by
  rcases h.2 with ⟨h1, _⟩ | ⟨g, cap, cur, h1, _, h2, _⟩
  · cases h1
  · injection h1 with h1
    injection h1 with h1
    subst h1
    exact ⟨_, _, h2⟩
/-- the slice lies in a block of type e -/
def KindOf (e : TypeId) (w : World) (a : Option Addr) : Prop := ∀ q, a = some q → ∃ C z, w.heap[q.block]? = some (.cells C e z)
theorem KindOf.below {e : TypeId} {w w' : World} {a : Option Addr} (h : KindOf e w a) (hb : Below w.heap.size w w') : KindOf e w' a := fun q hq => by
  obtain ⟨C, z, hC⟩ := h q hq
  exact ⟨C, z, (hb.block q.block (Array.getElem?_eq_some_iff.1 hC).1).trans hC⟩
theorem KindOf.grown {e : TypeId} {w w' : World} {row : Option Nat} {a : Option Addr} (h : KindOf e w a) (hg : w.grownBy w' row) (hne : ∀ q, a = some q → some q.block ≠ row) : KindOf e w' a := fun q hq => by
  obtain ⟨C, z, hC⟩ := h q hq
  exact ⟨C, z, (hg.block q.block (Array.getElem?_eq_some_iff.1 hC).1 (hne q hq)).trans hC⟩
theorem KindOf.own {e : TypeId} {w : World} {B n c sz : Nat} {a : Option Addr} {xs : List Value} (h : Own w B e sz a n c xs) : KindOf e w a := fun q hq => by subst hq; exact own_kindW h
theorem KindOf.of {e : TypeId} {w : World} {a : Option Addr} {m : Nat} (h : ∀ q, a = some q → m ≤ q.block ∧ ∃ C z, w.heap[q.block]? = some (.cells C e z)) : KindOf e w a := fun q hq => (h q hq).2
theorem KindOf.none (e : TypeId) (w : World) : KindOf e w none := fun _ h => by cases h
/-- the numbers of the columns from k on, that are known -/
def leastF (N : Nat) (L : Nat → Nat) (k i : Nat) : Value := if k ≤ i ∧ i + 1 < N then I64 (L (i + 1) : Int) else I64 0
theorem least_sl {w : World} {b : Nat} {t : TypeId} {N k : Nat} {L : Nat → Nat} (h : w.rowIs b t N (leastF N L k)) (hN : N ≤ 12) (hk : k = 0 := by rfl) : Sl w 1 (some ⟨b, 0, none⟩) N N ((ints (leastL N L)).map I64) := by
  subst hk
  refine row_sl' h (by unfold maxLen; omega) _ (by unfold ints; rw [List.length_map, List.length_map, leastL_len]) ?_
  intro j u hj
  have hjN : j < N := by
    have := (List.getElem?_eq_some_iff.1 hj).1
    unfold ints at this; rw [List.length_map, List.length_map, leastL_len] at this; exact this
  rw [List.getElem?_map, ints_get (leastL_get L hjN)] at hj
  have hj := (Option.some.inj hj).symm
  rw [hj]
  unfold leastF
  by_cases h1 : j + 1 < N
  · rw [if_pos h1, if_pos ⟨by omega, h1⟩]
  · rw [if_neg h1, if_neg (by omega)]; rfl
set_option maxRecDepth 100000 in
set_option maxHeartbeats 800000 in
theorem ref15_Least (X : List (List (List UInt8))) (hs : List Hd) (a : Option Addr) (n c : Nat) (W : Int) (L T : Nat → Nat) (w : World) (hp : Pg3 w a n c hs X) (hN : ∀ row ∈ X, row.length = nCols X) (h1 : 1 ≤ X.length) (hR : X.length ≤ 12) (hN1 : nCols X ≤ 12) (hN0 : 1 ≤ nCols X) (h40 : ∀ i, colW X i ≤ 40)
    (hf : ∀ k, 1 ≤ k → k < nCols X → (sizeW (colW X) k 1 : Int) ≤ W) (hS : Sol (colW X) (nCols X) X.length W L T 1) :
    Calls Try.prog 33 #[.slice a n c, .int .i64 W] w fun e w' => ∃ a', e = .returned (.slice a' (nCols X) (nCols X)) ∧ Sl w' 1 a' (nCols X) (nCols X) ((ints (leastL (nCols X) L)).map I64) ∧ (∀ q, a' = some q → w.heap.size ≤ q.block ∧ ∃ C z, w'.heap[q.block]? = some (.cells C 3 z)) ∧ Below w.heap.size w w' := by
  obtain rfl := hp.n_eq
  obtain ⟨x0, hx0⟩ : ∃ x, X[0]? = some x := ⟨X[0]'(by omega), by simp⟩
  obtain ⟨ax0, cx0, ks0, hux0, hpx0⟩ := hp.get hx0
  rw [← nCols_of hx0] at hux0
  have HUX0 := hide hux0
  have HSM := hide (hS.small hf hN1 hR)
  have hC : ∀ (j k : Nat) (w' : World), Below w.heap.size w w' → k ≤ nCols X → j ≤ 1000 → Calls Try.prog 34 #[.slice a X.length c, .int .i64 (j : Int), .int .i64 (k : Int)] w' fun e w2 => e = .returned (.int .i64 (sizeW (colW X) j (k - j) : Int)) ∧ w' = w2 :=
    fun j k w' h hk hj => ref15_Size X hs a X.length c (nCols X) j k w' (hp.below h) hN hN0 hk (by omega) hj h40
  have HSZ : Hid (∀ j m, sizeW (colW X) j m ≤ 40 + 42 * m) := hide (fun j m => sizeW_le h40 j m)
  have HF := hide hf
  have HS := hide hS
  clear hx0 hux0 hpx0 hN hf hS h40
  generalize nCols X = N at *
  generalize colW X = f at *
  go_enter Try.func33, Try.ntmps33
  go_wp2_with (first
    | (with_reducible refine idx_3 12 _ _ _ _ _ hs rfl hp.top _ _ 0 rfl rfl _ HUX0.out ?_; intro b o hcell hbo)
    | (with_reducible refine make_row 16 _ _ _ 3 (.int .i64 0) 8 Try.underlying22 info_int rfl _ _ _ _ N rfl rfl rfl rfl (by omega) (by omega) ?_; intro w3 hrow3 hb3 hz3))
  clear hcell hbo hp
  go_loopg [7] N (fun g i w' => ∃ k : Nat, k + 1 ≤ N ∧ g = k + 1 ∧ i = .int .i64 k ∧ Below w.heap.size w w' ∧ w'.rowIs w.heap.size 3 N (leastF N L k))
  case atStart => exact ⟨N - 1, by omega, by omega, by go_num, hb3, hrow3.congr (fun i _ => by unfold leastF; rw [if_neg (by omega)])⟩
  case round =>
    obtain ⟨k, hk, hg, rfl, hbk, hrk⟩ := hrel
    have HG := hide hg
    clear hg
    rcases Nat.eq_zero_or_pos k with h0 | h0
    · subst h0
      go_wp2_with fail
      go_ret
      exact ⟨some ⟨w.heap.size, 0, none⟩, rfl, least_sl hrk (by omega), fun q hq => by cases hq; obtain ⟨C, hC, _⟩ := hrk; exact ⟨Nat.le_refl _, C, _, hC⟩, hbk⟩
    · obtain ⟨q, rfl⟩ : ∃ q, k = q + 1 := ⟨k - 1, by omega⟩
      rw [show ((q + 1 : Nat) : Int) = (q : Int) + 1 by omega]
      have d0 : decide (1 ≤ (q : Int) + 1) = true := decide_eq_true (by omega)
      have HB1 : Hid ((sizeW f (q + 1) 1 : Int) ≤ W) := hide (HF.out (q + 1) (by omega) (by omega))
      go_wp2_with fail
      obtain ⟨wy, rfl⟩ : ∃ wy : World, wy = wr := ⟨_, rfl⟩
      go_loopg [8, 9, 10] (N + 1) (fun g b j _ w' => ∃ y : Nat, q + 1 ≤ y ∧ y ≤ N ∧ g = N + 1 - y + (q + 1) ∧ j = .int .i64 ((y : Int) + 1) ∧ ((y = q + 1 ∧ b = .int .i64 (-1)) ∨ ∃ v t : Nat, b = .int .i64 (v : Int) ∧ v ≤ 170 ∧ Best f N X.length W L (q + 1) (y + 1) v t) ∧ wy = w')
      case atStart => exact ⟨q + 1, by omega, by omega, by omega, by go_num, .inl ⟨rfl, rfl⟩, rfl⟩
      case round =>
        obtain ⟨y, hqy, hyN, hg1, rfl, hst, rfl⟩ := hrel
        have HG1 := hide hg1
        clear hg1
        by_cases hyl : y < N
        · have hc := hC (q + 1) (y + 1) _ hbk hyl (by omega)
          obtain ⟨s, Hs⟩ : ∃ s, Hid (sizeW f (q + 1) (y + 1 - (q + 1)) = s) := ⟨_, hide rfl⟩
          have hs1 : s ≤ 600 := by have := HSZ.out (q + 1) (y + 1 - (q + 1)); rw [← Hs.out]; omega
          rw [Hs.out] at hc
          rw [show ((q + 1 : Nat) : Int) = (q : Int) + 1 by omega, show ((y + 1 : Nat) : Int) = (y : Int) + 1 by omega] at hc
          rcases hst with ⟨hyq, rfl⟩ | ⟨v, t, rfl, hv6, hbest⟩
          · have hsW : (s : Int) ≤ W := by rw [← Hs.out, show y + 1 - (q + 1) = 1 by omega]; exact HB1.out
            have d1 : decide (W < (s : Int)) = false := decide_eq_false (by omega)
            have hbs0 : ∀ z, z = q + 1 → Best f N X.length W L (q + 1) (z + 1 + 1) (valL N X.length L (z + 1)) (z + 1) := by rintro z rfl; exact Best.start HB1.out
            have HBS := hide (hbs0 y hyq)
            clear hyq hbs0
            go_wp2_with fail
            refine hc.mono ?_
            rintro e w2 ⟨rfl, rfl⟩
            by_cases hyN2 : y + 1 < N
            · obtain ⟨m, Hm⟩ : ∃ m, Hid (L (y + 1) = m) := ⟨_, hide rfl⟩
              have hm5 : m ≤ 155 := by rw [← Hm.out]; exact HSM.out (y + 1) (by omega) hyN2
              have q1 := hrk.cell (i := y) hyl
              unfold leastF at q1
              rw [if_pos ⟨by omega, hyN2⟩, Hm.out] at q1
              have Hu : Hid (valL N X.length L (y + 1) = X.length + 1 + m) := hide (by rw [valL_in hyN2, Hm.out]; omega)
              have d2 : decide ((y : Int) + 1 < (N : Int)) = true := decide_eq_true (by omega)
              have d3 : decide ((m : Int) < 0) = false := decide_eq_false (by omega)
              clear hyN2 hyl
              go_wp2_with fail
              go_roundg (N + 1 - (y + 1) + (q + 1))
              case measure => have := HG1.out; omega
              case rel => exact ⟨y + 1, by omega, by omega, rfl, by go_num, .inr ⟨X.length + 1 + m, (y + 1), by go_num, by omega, (by have h := HBS.out; rw [Hu.out] at h; exact h)⟩, rfl⟩
            · have Hu : Hid (valL N X.length L (y + 1) = X.length) := hide (valL_end hyN2)
              have d2 : decide ((y : Int) + 1 < (N : Int)) = false := decide_eq_false (by omega)
              clear hyN2 hyl
              go_wp2_with fail
              go_roundg (N + 1 - (y + 1) + (q + 1))
              case measure => have := HG1.out; omega
              case rel => exact ⟨y + 1, by omega, by omega, rfl, by go_num, .inr ⟨X.length, (y + 1), by go_num, by omega, (by have h := HBS.out; rw [Hu.out] at h; exact h)⟩, rfl⟩
          · have HB := hide hbest
            clear hbest
            by_cases hsW : (s : Int) ≤ W
            · have d1 : decide (W < (s : Int)) = false := decide_eq_false (by omega)
              have Hsw : Hid ((sizeW f (q + 1) (y + 1 - (q + 1)) : Int) ≤ W) := hide (by rw [Hs.out]; exact hsW)
              go_wp2_with fail
              refine hc.mono ?_
              rintro e w2 ⟨rfl, rfl⟩
              by_cases hyN2 : y + 1 < N
              · obtain ⟨m, Hm⟩ : ∃ m, Hid (L (y + 1) = m) := ⟨_, hide rfl⟩
                have hm5 : m ≤ 155 := by rw [← Hm.out]; exact HSM.out (y + 1) (by omega) hyN2
                have q1 := hrk.cell (i := y) hyl
                unfold leastF at q1
                rw [if_pos ⟨by omega, hyN2⟩, Hm.out] at q1
                have Hu : Hid (valL N X.length L (y + 1) = X.length + 1 + m) := hide (by rw [valL_in hyN2, Hm.out]; omega)
                have d2 : decide ((y : Int) + 1 < (N : Int)) = true := decide_eq_true (by omega)
                have d3 : decide ((m : Int) < 0) = false := decide_eq_false (by omega)
                by_cases hlt : X.length + 1 + m < v
                · have HT : Hid (Best f N X.length W L (q + 1) (y + 1 + 1) (X.length + 1 + m) (y + 1)) := hide (by have h := HB.out.take Hsw.out (by rw [Hu.out]; omega); rw [Hu.out] at h; exact h)
                  have d4 : decide ((X.length : Int) + 1 + (m : Int) < (v : Int)) = true := decide_eq_true (by omega)
                  go_wp2_with fail
                  go_roundg (N + 1 - (y + 1) + (q + 1))
                  case measure => have := HG1.out; omega
                  case rel => exact ⟨y + 1, by omega, by omega, rfl, by go_num, .inr ⟨X.length + 1 + m, (y + 1), by go_num, by omega, HT.out⟩, rfl⟩
                · have HT : Hid (∃ t', Best f N X.length W L (q + 1) (y + 1 + 1) v t') := hide (by
                    by_cases hev : X.length + 1 + m = v
                    · have h := HB.out.take Hsw.out (by rw [Hu.out]; omega)
                      rw [Hu.out] at h; exact ⟨y + 1, hev ▸ h⟩
                    · exact ⟨t, HB.out.leave (fun _ => by rw [Hu.out]; omega)⟩)
                  obtain ⟨t', HT'⟩ := HT.out
                  have HT2 := hide HT'
                  clear HT'
                  have d4 : decide ((X.length : Int) + 1 + (m : Int) < (v : Int)) = false := decide_eq_false (by omega)
                  go_wp2_with fail
                  go_roundg (N + 1 - (y + 1) + (q + 1))
                  case measure => have := HG1.out; omega
                  case rel => exact ⟨y + 1, by omega, by omega, rfl, by go_num, .inr ⟨v, t', by go_num, by omega, HT2.out⟩, rfl⟩
              · have Hu : Hid (valL N X.length L (y + 1) = X.length) := hide (valL_end hyN2)
                have d2 : decide ((y : Int) + 1 < (N : Int)) = false := decide_eq_false (by omega)
                by_cases hlt : X.length < v
                · have HT : Hid (Best f N X.length W L (q + 1) (y + 1 + 1) (X.length) (y + 1)) := hide (by have h := HB.out.take Hsw.out (by rw [Hu.out]; omega); rw [Hu.out] at h; exact h)
                  have d4 : decide ((X.length : Int) < (v : Int)) = true := decide_eq_true (by omega)
                  go_wp2_with fail
                  go_roundg (N + 1 - (y + 1) + (q + 1))
                  case measure => have := HG1.out; omega
                  case rel => exact ⟨y + 1, by omega, by omega, rfl, by go_num, .inr ⟨X.length, (y + 1), by go_num, by omega, HT.out⟩, rfl⟩
                · have HT : Hid (∃ t', Best f N X.length W L (q + 1) (y + 1 + 1) v t') := hide (by
                    by_cases hev : X.length = v
                    · have h := HB.out.take Hsw.out (by rw [Hu.out]; omega)
                      rw [Hu.out] at h; exact ⟨y + 1, hev ▸ h⟩
                    · exact ⟨t, HB.out.leave (fun _ => by rw [Hu.out]; omega)⟩)
                  obtain ⟨t', HT'⟩ := HT.out
                  have HT2 := hide HT'
                  clear HT'
                  have d4 : decide ((X.length : Int) < (v : Int)) = false := decide_eq_false (by omega)
                  go_wp2_with fail
                  go_roundg (N + 1 - (y + 1) + (q + 1))
                  case measure => have := HG1.out; omega
                  case rel => exact ⟨y + 1, by omega, by omega, rfl, by go_num, .inr ⟨v, t', by go_num, by omega, HT2.out⟩, rfl⟩
            · have d1 : decide (W < (s : Int)) = true := decide_eq_true (by omega)
              have HT : Hid (Best f N X.length W L (q + 1) (y + 1 + 1) v t) := hide (HB.out.leave (fun h => absurd h (by rw [Hs.out]; exact hsW)))
              go_wp2_with fail
              refine hc.mono ?_
              rintro e w2 ⟨rfl, rfl⟩
              go_wp2_with fail
              go_roundg (N + 1 - (y + 1) + (q + 1))
              case measure => have := HG1.out; omega
              case rel => exact ⟨y + 1, by omega, by omega, rfl, by go_num, .inr ⟨v, t, by go_num, by omega, HT.out⟩, rfl⟩
        · obtain rfl : N = y := by omega
          rcases hst with ⟨hyq, rfl⟩ | ⟨v, t, rfl, hv6, hbest⟩
          · omega
          · have hu := (hbest.uniq (HS.out (q + 1) (by omega) (by omega))).1
            have HV := hide hu
            have e2 := hrk.frozen q
            have e1 := hrk.cell (i := q) (by omega)
            clear hu hbest
            go_wp2_with fail
            go_roundg (q + 1)
            case measure => have := HG.out; omega
            case rel =>
              refine ⟨q, by omega, rfl, by go_num, hbk.setCell (p := ⟨w.heap.size, q, none⟩) (Nat.le_refl _) _, (hrk.set q _).congr ?_⟩
              intro i hi
              unfold leastF
              by_cases e : i = q
              · subst e; rw [if_pos rfl, if_pos ⟨by omega, by omega⟩, HV.out]
              · rw [if_neg e]
                by_cases h : q + 1 ≤ i ∧ i + 1 < N
                · rw [if_pos h, if_pos ⟨by omega, h.2⟩]
                · rw [if_neg h, if_neg (by omega)]
end Go.Proofs.Ytmjkhmebpciopaa
end

/- the text T11 -/
section
/- Chapter 15: the least numbers of lines, the parts. -/
namespace Go.Proofs.Ytmjkhmebpciopaa
open Go.RowKit Go.Dx

/-- the numbers of the columns from k on, that are known -/
def solveF (N : Nat) (L : Nat → Nat) (k i : Nat) : Value := if k ≤ i ∧ i < N then I64 (L i : Int) else I64 0
def bestL (N : Nat) (L : Nat → Nat) : List Value := (List.range 13).map (solveF N L 1)
theorem solveF_in {N : Nat} {L : Nat → Nat} {k i : Nat} (h : k ≤ i) (h2 : i < N) : solveF N L k i = I64 (L i : Int) := if_pos ⟨h, h2⟩
theorem solveF_no {N : Nat} {L : Nat → Nat} {k i : Nat} (h : ¬ (k ≤ i ∧ i < N)) : solveF N L k i = I64 0 := if_neg h
theorem solveF_next {N : Nat} {L : Nat → Nat} {k : Nat} (h : k + 1 < N) (i : Nat) : (if i = k then I64 0 else solveF N L (k + 1) i) = if i = k + 1 then I64 (L (k + 1) : Int) else solveF N L (k + 1 + 1) i := by
  by_cases h1 : i = k
  · subst h1; rw [if_pos rfl, if_neg (by omega), solveF_no (by omega)]
  · rw [if_neg h1]
    by_cases h2 : i = k + 1
    · subst h2; rw [if_pos rfl, solveF_in (by omega) h]
    · rw [if_neg h2]
      by_cases h3 : k + 1 + 1 ≤ i ∧ i < N
      · rw [solveF_in (by omega) h3.2, solveF_in h3.1 h3.2]
      · rw [solveF_no h3, solveF_no (by omega)]
theorem solveF_zero {N : Nat} {L : Nat → Nat} (i : Nat) : (if i = N - 1 then I64 0 else solveF N L (N - 1 + 1) i) = I64 0 := by
  by_cases h : i = N - 1
  · rw [if_pos h]
  · rw [if_neg h, solveF_no (by omega)]
theorem solveF_first {N : Nat} {L : Nat → Nat} (i : Nat) : (if i = 0 then I64 0 else solveF N L (0 + 1) i) = solveF N L 1 i := by
  by_cases h : i = 0
  · subst h; rw [if_pos rfl, solveF_no (by omega)]
  · rw [if_neg h]
def zero13 : List Value := List.replicate 13 (I64 0)
theorem row_second (w : World) (o : Obj) (c : Array Value) (t : TypeId) (n : Nat) (f : Nat → Value) (hn : c.size = n) (hf : ∀ i, i < n → c[i]? = some (f i)) : ((w.alloc o).alloc (.cells c t)).rowIs (w.heap.size + 1) t n f :=
  ⟨c, by have h := heap_alloc_new (w.alloc o) (.cells c t); rwa [show (w.alloc o).heap.size = w.heap.size + 1 by simp] at h, hn, hf⟩
theorem zero13_at (i : Nat) (hi : i < 13) : (Array.replicate 13 (I64 0))[i]? = some (I64 0) := by simp [hi]
/-- the memory while the numbers are found: those of the columns behind k are known, b and t stand at k -/
structure SolveW (w w' : World) (N k : Nat) (L T : Nat → Nat) (b t : Value) : Prop where
  bel : Below w.heap.size w w'
  box : Box w' w.heap.size 62 zero13
  least : w'.rowIs (w.heap.size + 1) 62 13 (fun i => if i = k then b else solveF N L (k + 1) i)
  till : w'.rowIs (w.heap.size + 1 + 1) 3 (N + 1) (fun i => if i = k then t else solveF N T (k + 1) i)
section
variable {w w' : World} {N k : Nat} {L T : Nat → Nat} {b t : Value}
theorem SolveW.key (h : SolveW w w' N k L T b t) (hk : k < 13) : w'.cell? ⟨w.heap.size + 1, k, none⟩ = some b := by
  have := h.least.cell hk
  rw [if_pos rfl] at this; exact this
theorem SolveW.key2 (h : SolveW w w' N k L T b t) (hk : k < N + 1) : w'.cell? ⟨w.heap.size + 1 + 1, k, none⟩ = some t := by
  have := h.till.cell hk
  rw [if_pos rfl] at this; exact this
theorem SolveW.at_ (h : SolveW w w' N k L T b t) {i : Nat} (h1 : k < i) (h2 : i < N) (h3 : i < 13) : w'.cell? ⟨w.heap.size + 1, i, none⟩ = some (I64 (L i : Int)) := by
  have := h.least.cell h3
  rw [if_neg (by omega), solveF_in (by omega) h2] at this; exact this
theorem SolveW.free1 (h : SolveW w w' N k L T b t) (i : Nat) : w'.frozen? ⟨w.heap.size + 1, i, none⟩ = false := h.least.frozen i
theorem SolveW.free2 (h : SolveW w w' N k L T b t) (i : Nat) : w'.frozen? ⟨w.heap.size + 1 + 1, i, none⟩ = false := h.till.frozen i
theorem SolveW.below {w'' : World} (h : SolveW w w' N k L T b t) (hb : Below w'.heap.size w' w'') : SolveW w w'' N k L T b t :=
  ⟨h.bel.trans (hb.mono h.bel.size), h.box.under hb, rowIs_below h.least hb h.least.lt, rowIs_below h.till hb h.till.lt⟩
theorem SolveW.setb (h : SolveW w w' N k L T b t) (b' : Value) : SolveW w (w'.setCell ⟨w.heap.size + 1, k, none⟩ b') N k L T b' t :=
  ⟨h.bel.setCell (p := ⟨w.heap.size + 1, k, none⟩) (by simp) _, h.box.far (by simp) _, (h.least.set k b').congr (fun i _ => by
    by_cases e : i = k
    · rw [if_pos e, if_pos e]
    · rw [if_neg e, if_neg e, if_neg e]), h.till.setOther (by simp) _⟩
theorem SolveW.sett (h : SolveW w w' N k L T b t) (t' : Value) : SolveW w (w'.setCell ⟨w.heap.size + 1 + 1, k, none⟩ t') N k L T b t' :=
  ⟨h.bel.setCell (p := ⟨w.heap.size + 1 + 1, k, none⟩) (by simp; omega) _, h.box.far (by simp; omega) _, h.least.setOther (by simp) _, (h.till.set k t').congr (fun i _ => by
    by_cases e : i = k
    · rw [if_pos e, if_pos e]
    · rw [if_neg e, if_neg e, if_neg e])⟩
theorem SolveW.next (h : SolveW w w' N (k + 1) L T (I64 (L (k + 1) : Int)) (I64 (T (k + 1) : Int))) (hk : k + 1 < N) : SolveW w w' N k L T (I64 0) (I64 0) :=
  ⟨h.bel, h.box, h.least.congr (fun i _ => (solveF_next hk i).symm), h.till.congr (fun i _ => (solveF_next hk i).symm)⟩
end
section
variable {P : Program} {w : World}
theorem results_cell2 {fn : Func} {tmps : Array Value} {t t2 : Tmp} {ty e : TypeId} {g : Nat} {cs : List Value} {v2 : Value} (hr : fn.results = #[.cell t ty, .tmp t2]) (ht : tmps.getD t undef = .pointer (some ⟨g, 0, none⟩)) (h2 : tmps.getD t2 undef = v2) (hag : IsAgg P ty) (hsz : (P.info? ty).map (·.size) = some cs.length)
    (hb : Box w g e cs) : (results fn tmps).run P w = .ok (.tuple #[.agg cs.toArray, v2]) w := by
  have hl := run_loadVar_box (P := P) (off := 0) hag hsz hb (fun j u hj => by rw [Nat.zero_add]; exact hj)
  have ht2 : tmps[t]?.getD undef = .pointer (some ⟨g, 0, none⟩) := by rw [← ht]; simp
  have ht3 : tmps[t2]?.getD undef = v2 := by rw [← h2]; simp
  simp only [results, hr]
  simp [ht2, ht3, asAddr, hl]
end
theorem row_box {w : World} {b : Nat} {t : TypeId} {n : Nat} {f : Nat → Value} (h : w.rowIs b t n f) : Box w b t ((List.range n).map f) := by
  obtain ⟨c, hb, hn, hc⟩ := h
  have e : c = ((List.range n).map f).toArray := by
    apply Array.ext
    · simp [hn]
    · intro i h1 h2
      have := hc i (by omega)
      rw [Array.getElem?_eq_getElem h1] at this
      simp [Option.some.inj this]
  unfold Box; rw [← e]; exact hb
theorem isAgg_best : IsAgg Try.prog 62 := .inl ⟨_, _, Try.underlying62⟩
theorem bestL_len (N : Nat) (L : Nat → Nat) : (bestL N L).length = 13 := by unfold bestL; rw [List.length_map, List.length_range]
theorem size_13 : (Try.prog.info? 62).map (·.size) = some 13 := by kernel_rfl
theorem size_best (N : Nat) (L : Nat → Nat) : (Try.prog.info? 62).map (·.size) = some (bestL N L).length := by rw [bestL_len]; exact size_13
theorem bestL_zero (N : Nat) (L : Nat → Nat) : (bestL N L).length = zero13.length := by rw [bestL_len]; rfl
theorem bestL_one (N : Nat) (L : Nat → Nat) : ∀ u ∈ bestL N L, u.oneCell' = true := by
  intro u hu
  obtain ⟨i, _, rfl⟩ := List.mem_map.1 hu
  unfold solveF
  split <;> rfl
set_option maxRecDepth 100000 in
set_option maxHeartbeats 800000 in
theorem tab_solve (ws : List Nat) (a : Option Addr) (n c R : Nat) (W : Int) (L T : Nat → Nat) (w : World) (hs : Sl w 1 a n c ((ints ws).map I64)) (hN0 : 1 ≤ ws.length) (hN1 : ws.length ≤ 12) (hR : R ≤ 12) (h40 : ∀ x ∈ ws, x ≤ 40)
    (hf : ∀ k, 1 ≤ k → k < ws.length → (sizeW (wAt ws) k 1 : Int) ≤ W) (hS : Sol (wAt ws) ws.length R W L T 1) :
    Calls Try.prog 29 #[.slice a n c, .int .i64 (R : Int), .int .i64 W] w fun e w' => ∃ a1 c1, e = .returned (.tuple #[.agg (bestL ws.length L).toArray, .slice a1 (chain ws.length T ws.length 1).length c1]) ∧ Sl w' 1 a1 (chain ws.length T ws.length 1).length c1 ((ints (chain ws.length T ws.length 1)).map I64) ∧ (∀ q, a1 = some q → w.heap.size ≤ q.block ∧ ∃ C z, w'.heap[q.block]? = some (.cells C 3 z)) ∧ Below w.heap.size w w' := by
  obtain rfl : n = ws.length := by have := hs.n_eq; unfold ints at this; rw [List.length_map] at this; exact this
  have HSM := hide (hS.small hf hN1 hR)
  have hC : ∀ (j k : Nat) (w' : World), Below w.heap.size w w' → j ≤ k → k ≤ ws.length → Calls Try.prog 44 #[.slice a ws.length c, .int .i64 (j : Int), .int .i64 (k : Int)] w' fun e w2 => e = .returned (.int .i64 (sizeW (wAt ws) j (k - j) : Int)) ∧ w' = w2 :=
    fun j k w' h hjk hk => tab_size ws a ws.length c j k w' (hs.below h) hN0 hjk hk (by omega) h40
  have HSZ : Hid (∀ j m, sizeW (wAt ws) j m ≤ 40 + 42 * m) := hide (fun j m => sizeW_le (wAt_le h40) j m)
  have HF := hide hf
  have HS := hide hS
  clear hf hS h40 hs
  generalize wAt ws = f at *
  generalize ws.length = N at *
  clear ws
  go_enter Try.func29, Try.ntmps29
  go_wp2_with (with_reducible refine make_row 20 _ _ _ 3 (.int .i64 0) 8 Try.underlying22 info_int rfl _ _ _ _ (N + 1) rfl rfl (by omega) (by omega) (by omega) (by omega) ?_; intro w3 hrow3 hb3 hz3)
  have HST : SolveW w w3 N (N - 1) L T (I64 0) (I64 0) := by
    refine ⟨?_, ?_, ?_, ?_⟩
    · exact ((blo w _).trans ((blo _ _).mono (by simp))).trans (hb3.mono (by simp; omega))
    · exact (((Box.new w _ _).alloc _).under hb3 : Box w3 w.heap.size _ _)
    · exact (rowIs_below (row_second w _ (Array.replicate 13 (I64 0)) 62 13 (fun _ => I64 0) rfl zero13_at) hb3 (by simp)).congr fun i hi => (solveF_zero (N := N) (L := L) i).symm
    · rw [show ((w.alloc _).alloc _).heap.size = w.heap.size + 1 + 1 by simp] at hrow3
      exact hrow3.congr fun i hi => (solveF_zero (N := N) (L := T) i).symm
  clear hrow3 hb3 hz3
  go_loopg [11] N (fun g i w' => ∃ k : Nat, k + 1 ≤ N ∧ g = k + 1 ∧ i = .int .i64 k ∧ SolveW w w' N k L T (I64 0) (I64 0))
  case atStart => exact ⟨N - 1, by omega, by omega, by go_num, HST⟩
  case round =>
    obtain ⟨k, hk, hg, rfl, hw⟩ := hrel
    have HG := hide hg
    clear hg HST
    rcases Nat.eq_zero_or_pos k with h0 | h0
    · subst h0
      clear hC HSM HSZ HF
      have HGT := hide HS.out.gt
      have HLE := hide HS.out.le
      have hcel : ∀ w', Below wr.heap.size wr w' → ∀ k, 1 ≤ k → k < N → w'.cell? ⟨w.heap.size + 1 + 1, k, none⟩ = some (I64 (T k : Int)) := fun w' h k h1 h2 => by
        have hc := (rowIs_below hw.till h hw.till.lt).cell (i := k) (by omega)
        rw [if_neg (by omega), solveF_in (by omega) h2] at hc; exact hc
      have hcl := chain_len (n := N) (T := T) N 1
      obtain ⟨wq, rfl⟩ : ∃ wq : World, wq = wr := ⟨_, rfl⟩
      go_wp2_with fail
      go_loopg [14, 15] (N - 1) (fun g p i w' => ∃ (k : Nat) (pre : List Nat) (a1 : Option Addr) (c1 : Nat), 1 ≤ k ∧ k ≤ N ∧ g = N - k ∧ pre ++ chain N T N k = chain N T N 1 ∧ p = .slice a1 pre.length c1 ∧ Own w' wq.heap.size 3 1 a1 pre.length c1 ((ints pre).map I64) ∧ i = .int .i64 (k : Int) ∧ Below wq.heap.size wq w')
      case atStart => exact ⟨1, [], none, 0, by omega, by omega, by omega, rfl, rfl, Own.nil _ _ _ _, rfl, Below.refl _ _⟩
      case round =>
        obtain ⟨k, pre, a1, c1, hk1, hkN, hg1, hpre, rfl, hown, rfl, hbk⟩ := hrel
        have HG1 := hide hg1
        have HP := hide hpre
        have hpl : pre.length + (chain N T N k).length ≤ N := by rw [← List.length_append, HP.out]; exact hcl
        clear hg1 hpre
        by_cases hkl : k < N
        · have HST := hide (chain_step HGT.out hk1 hkl)
          have hgt := HGT.out k hk1 hkl
          have hle := HLE.out k hk1 hkl
          obtain ⟨t, Ht⟩ : ∃ t, Hid (T k = t) := ⟨_, hide rfl⟩
          have hcel2 := fun w' h => hcel w' h k hk1 hkl
          rw [Ht.out] at hgt hle hcel2
          have hpl2 : pre.length ≤ 12 := by omega
          clear hpl
          go_wp2_with (at_builtin; refine app_i rfl _ _ rfl wq wq.heap.size _ _ _ _ rfl hown _ rfl (by omega) hbk.size hbk ?_; intro a' c' w' ho' hgr' hb'; have q5 := hcel2 _ hb')
          go_roundg (N - t)
          case measure => have := HG1.out; omega
          case rel => exact ⟨t, pre ++ [k], a', c', by omega, by omega, rfl, by rw [List.append_assoc, ← HP.out, HST.out, Ht.out]; rfl, by rw [List.length_append]; rfl, by rw [List.length_append]; unfold ints at ho' ⊢; rw [List.map_append, List.map_append]; exact ho', by rw [Ht.out], hb'⟩
        · have HPE : Hid (pre = chain N T N 1) := hide (by have := HP.out; rw [chain_stop hkl, List.append_nil] at this; exact this)
          have hU := hw.below hbk
          have hbox : Box wr (w.heap.size + 1) 62 (bestL N L) := row_box (hU.least.congr fun i _ => solveF_first i)
          go_wp2_with (first
            | (with_reducible refine load_box 92 62 _ 62 _ 0 _ (bestL N L) isAgg_best (size_best N L) hbox rfl (fun j u hj => by rw [Nat.zero_add]; exact hj) ?_)
            | (with_reducible refine store_all 62 _ _ 62 _ _ (bestL N L) _ (size_best N L) hU.box rfl rfl rfl (bestL_zero N L) (bestL_one N L) ?_; intro w7 hx7 hg7 hs7))
          rw [← HPE.out]
          have hne : ∀ q, a1 = some q → some q.block ≠ some w.heap.size := by
            intro q hq e
            rw [hq] at hown
            have h1 := hown.base.1
            have h2 := hw.bel.size
            have h3 := hw.box.lt
            simp at e
            omega
          have hkind : ∀ q, a1 = some q → ∃ C z, w7.heap[q.block]? = some (.cells C 3 z) := fun q hq => by
            have hn := hne q hq
            rw [hq] at hown
            obtain ⟨C, z, hC⟩ := own_kindW hown
            exact ⟨C, z, (hg7.block q.block (Array.getElem?_eq_some_iff.1 hC).1 hn).trans hC⟩
          refine bodyPost_ret (results_cell2 rfl rfl rfl isAgg_best (size_best N L) hx7) rfl ⟨a1, c1, rfl, hown.sl.grown hg7 ?_, fun q hq => ⟨by rw [hq] at hown; exact Nat.le_trans hw.bel.size hown.base.1, hkind q hq⟩, hU.bel.grown hg7 hU.bel.size (fun k hk => by cases hk; exact Nat.le_refl _)⟩
          intro q hq e
          rw [hq] at hown
          have h1 := hown.base.1
          have h2 := hw.bel.size
          have h3 := hw.box.lt
          simp at e
          omega
    · obtain ⟨q, rfl⟩ : ∃ q, k = q + 1 := ⟨k - 1, by omega⟩
      rw [show ((q + 1 : Nat) : Int) = (q : Int) + 1 by omega]
      have d0 : decide (1 ≤ (q : Int) + 1) = true := decide_eq_true (by omega)
      have HB1 : Hid ((sizeW f (q + 1) 1 : Int) ≤ W) := hide (HF.out (q + 1) (by omega) (by omega))
      have f0 := hw.free1 (q + 1)
      have c0 := hw.key (by omega)
      have HW0 := hide (hw.setb (I64 (-1)))
      clear hw
      go_wp2_with fail
      go_loopg [12, 13] (N + 1) (fun g j _ w' => ∃ y : Nat, q + 1 ≤ y ∧ y ≤ N ∧ g = N + 1 - y + (q + 1) ∧ j = .int .i64 ((y : Int) + 1) ∧ ((y = q + 1 ∧ SolveW w w' N (q + 1) L T (I64 (-1)) (I64 0)) ∨ ∃ v t : Nat, v ≤ 170 ∧ Best f N R W L (q + 1) (y + 1) v t ∧ SolveW w w' N (q + 1) L T (I64 (v : Int)) (I64 (t : Int))))
      case atStart => exact ⟨q + 1, by omega, by omega, by omega, by go_num, .inl ⟨rfl, HW0.out⟩⟩
      case round =>
        clear HW0 f0 c0
        obtain ⟨y, hqy, hyN, hg1, rfl, hst⟩ := hrel
        have HG1 := hide hg1
        clear hg1
        by_cases hyl : y < N
        · have hc := fun w' h => hC (q + 1) (y + 1) w' h (by omega) hyl
          obtain ⟨s, Hs⟩ : ∃ s, Hid (sizeW f (q + 1) (y + 1 - (q + 1)) = s) := ⟨_, hide rfl⟩
          have hs1 : s ≤ 600 := by have := HSZ.out (q + 1) (y + 1 - (q + 1)); rw [← Hs.out]; omega
          rw [Hs.out] at hc
          rw [show ((q + 1 : Nat) : Int) = (q : Int) + 1 by omega, show ((y + 1 : Nat) : Int) = (y : Int) + 1 by omega] at hc
          rcases hst with ⟨hyq, hst⟩ | ⟨v, t, hv6, hbest, hst⟩
          · replace hc := hc _ hst.bel
            have hsW : (s : Int) ≤ W := by rw [← Hs.out, show y + 1 - (q + 1) = 1 by omega]; exact HB1.out
            have d1 : decide ((s : Int) ≤ W) = true := decide_eq_true hsW
            have hbs0 : ∀ z, z = q + 1 → Best f N R W L (q + 1) (z + 1 + 1) (valL N R L (z + 1)) (z + 1) := by rintro z rfl; exact Best.start HB1.out
            have HBS := hide (hbs0 y hyq)
            have HW := hide hst
            have c1 := hst.key (by omega)
            clear hyq hbs0 hst
            go_wp2_with fail
            refine hc.mono ?_
            rintro e w2 ⟨rfl, rfl⟩
            by_cases hyN2 : y + 1 < N
            · obtain ⟨m, Hm⟩ : ∃ m, Hid (L (y + 1) = m) := ⟨_, hide rfl⟩
              have hm5 : m ≤ 155 := by rw [← Hm.out]; exact HSM.out (y + 1) (by omega) hyN2
              have q1 := HW.out.at_ (i := y + 1) (by omega) hyN2 (by omega)
              rw [Hm.out] at q1
              have Hu : Hid (valL N R L (y + 1) = R + (1 + m)) := hide (by rw [valL_in hyN2, Hm.out])
              have d2 : decide ((y : Int) + 1 < (N : Int)) = true := decide_eq_true (by omega)
              have d3 : ((m : Int) == -1) = false := beq_eq_false_iff_ne.2 (by omega)
              have HN := hide ((HW.out.setb (I64 ((R : Int) + (1 + (m : Int))))).sett (I64 ((y : Int) + 1)))
              have f1 := HW.out.free1 (q + 1)
              have f2 := (HW.out.setb (I64 ((R : Int) + (1 + (m : Int))))).free2 (q + 1)
              have f3 := (HW.out.setb (I64 ((R : Int) + (1 + (m : Int))))).key2 (by omega)
              clear hyN2 hyl
              go_wp2_with fail
              go_roundg (N + 1 - (y + 1) + (q + 1))
              case measure => have := HG1.out; omega
              case rel => exact ⟨y + 1, by omega, by omega, rfl, by go_num, .inr ⟨R + (1 + m), y + 1, by omega, (by have h := HBS.out; rw [Hu.out] at h; exact h), (by have h := HN.out; rw [show ((R : Int) + (1 + (m : Int)) : Int) = ((R + (1 + m) : Nat) : Int) by omega, show ((y : Int) + 1) = ((y + 1 : Nat) : Int) by omega] at h; exact h)⟩⟩
            · have Hu : Hid (valL N R L (y + 1) = R) := hide (valL_end hyN2)
              have d2 : decide ((y : Int) + 1 < (N : Int)) = false := decide_eq_false (by omega)
              have HN := hide ((HW.out.setb (I64 ((R : Int)))).sett (I64 ((y : Int) + 1)))
              have f1 := HW.out.free1 (q + 1)
              have f2 := (HW.out.setb (I64 ((R : Int)))).free2 (q + 1)
              have f3 := (HW.out.setb (I64 ((R : Int)))).key2 (by omega)
              clear hyN2 hyl
              go_wp2_with fail
              go_roundg (N + 1 - (y + 1) + (q + 1))
              case measure => have := HG1.out; omega
              case rel => exact ⟨y + 1, by omega, by omega, rfl, by go_num, .inr ⟨R, y + 1, by omega, (by have h := HBS.out; rw [Hu.out] at h; exact h), (by have h := HN.out; rw [show ((R : Int) : Int) = ((R : Nat) : Int) by omega, show ((y : Int) + 1) = ((y + 1 : Nat) : Int) by omega] at h; exact h)⟩⟩
          · replace hc := hc _ hst.bel
            have HB := hide hbest
            have HW := hide hst
            have c1 := hst.key (by omega)
            have d6 : ((v : Int) == -1) = false := beq_eq_false_iff_ne.2 (by omega)
            clear hbest hst
            by_cases hsW : (s : Int) ≤ W
            · have d1 : decide ((s : Int) ≤ W) = true := decide_eq_true hsW
              have Hsw : Hid ((sizeW f (q + 1) (y + 1 - (q + 1)) : Int) ≤ W) := hide (by rw [Hs.out]; exact hsW)
              go_wp2_with fail
              refine hc.mono ?_
              rintro e w2 ⟨rfl, rfl⟩
              by_cases hyN2 : y + 1 < N
              · obtain ⟨m, Hm⟩ : ∃ m, Hid (L (y + 1) = m) := ⟨_, hide rfl⟩
                have hm5 : m ≤ 155 := by rw [← Hm.out]; exact HSM.out (y + 1) (by omega) hyN2
                have q1 := HW.out.at_ (i := y + 1) (by omega) hyN2 (by omega)
                rw [Hm.out] at q1
                have Hu : Hid (valL N R L (y + 1) = R + (1 + m)) := hide (by rw [valL_in hyN2, Hm.out])
                have d2 : decide ((y : Int) + 1 < (N : Int)) = true := decide_eq_true (by omega)
                have d3 : ((m : Int) == -1) = false := beq_eq_false_iff_ne.2 (by omega)
                by_cases hlt : R + (1 + m) ≤ v
                · have HT : Hid (Best f N R W L (q + 1) (y + 1 + 1) (R + (1 + m)) (y + 1)) := hide (by have h := HB.out.take Hsw.out (by rw [Hu.out]; omega); rw [Hu.out] at h; exact h)
                  have d4 : decide ((R : Int) + (1 + (m : Int)) ≤ (v : Int)) = true := decide_eq_true (by omega)
                  have HN := hide ((HW.out.setb (I64 ((R : Int) + (1 + (m : Int))))).sett (I64 ((y : Int) + 1)))
                  have f1 := HW.out.free1 (q + 1)
                  have f2 := (HW.out.setb (I64 ((R : Int) + (1 + (m : Int))))).free2 (q + 1)
                  have f3 := (HW.out.setb (I64 ((R : Int) + (1 + (m : Int))))).key2 (by omega)
                  go_wp2_with fail
                  go_roundg (N + 1 - (y + 1) + (q + 1))
                  case measure => have := HG1.out; omega
                  case rel => exact ⟨y + 1, by omega, by omega, rfl, by go_num, .inr ⟨R + (1 + m), y + 1, by omega, HT.out, (by have h := HN.out; rw [show ((R : Int) + (1 + (m : Int)) : Int) = ((R + (1 + m) : Nat) : Int) by omega, show ((y : Int) + 1) = ((y + 1 : Nat) : Int) by omega] at h; exact h)⟩⟩
                · have HT : Hid (Best f N R W L (q + 1) (y + 1 + 1) v t) := hide (HB.out.leave (fun _ => by rw [Hu.out]; omega))
                  have d4 : decide ((R : Int) + (1 + (m : Int)) ≤ (v : Int)) = false := decide_eq_false (by omega)
                  go_wp2_with fail
                  go_roundg (N + 1 - (y + 1) + (q + 1))
                  case measure => have := HG1.out; omega
                  case rel => exact ⟨y + 1, by omega, by omega, rfl, by go_num, .inr ⟨v, t, by omega, HT.out, HW.out⟩⟩
              · have Hu : Hid (valL N R L (y + 1) = R) := hide (valL_end hyN2)
                have d2 : decide ((y : Int) + 1 < (N : Int)) = false := decide_eq_false (by omega)
                by_cases hlt : R ≤ v
                · have HT : Hid (Best f N R W L (q + 1) (y + 1 + 1) (R) (y + 1)) := hide (by have h := HB.out.take Hsw.out (by rw [Hu.out]; omega); rw [Hu.out] at h; exact h)
                  have d4 : decide ((R : Int) ≤ (v : Int)) = true := decide_eq_true (by omega)
                  have HN := hide ((HW.out.setb (I64 ((R : Int)))).sett (I64 ((y : Int) + 1)))
                  have f1 := HW.out.free1 (q + 1)
                  have f2 := (HW.out.setb (I64 ((R : Int)))).free2 (q + 1)
                  have f3 := (HW.out.setb (I64 ((R : Int)))).key2 (by omega)
                  go_wp2_with fail
                  go_roundg (N + 1 - (y + 1) + (q + 1))
                  case measure => have := HG1.out; omega
                  case rel => exact ⟨y + 1, by omega, by omega, rfl, by go_num, .inr ⟨R, y + 1, by omega, HT.out, (by have h := HN.out; rw [show ((R : Int) : Int) = ((R : Nat) : Int) by omega, show ((y : Int) + 1) = ((y + 1 : Nat) : Int) by omega] at h; exact h)⟩⟩
                · have HT : Hid (Best f N R W L (q + 1) (y + 1 + 1) v t) := hide (HB.out.leave (fun _ => by rw [Hu.out]; omega))
                  have d4 : decide ((R : Int) ≤ (v : Int)) = false := decide_eq_false (by omega)
                  go_wp2_with fail
                  go_roundg (N + 1 - (y + 1) + (q + 1))
                  case measure => have := HG1.out; omega
                  case rel => exact ⟨y + 1, by omega, by omega, rfl, by go_num, .inr ⟨v, t, by omega, HT.out, HW.out⟩⟩
            · have d1 : decide ((s : Int) ≤ W) = false := decide_eq_false hsW
              have HE : Hid (Best f N R W L (q + 1) (N + 1) v t) := hide (HB.out.done (by rw [Hs.out]; exact hsW) (by omega))
              go_wp2_with fail
              refine hc.mono ?_
              rintro e w2 ⟨rfl, rfl⟩
              have hu := HE.out.uniq (HS.out (q + 1) (by omega) (by omega))
              have hnx := HW.out
              rw [hu.1, hu.2] at hnx
              have HN := hide (hnx.next (by omega))
              have e5 : ((v : Int) == -1) = false := beq_eq_false_iff_ne.2 (by omega)
              have c5 := HW.out.key (by omega)
              clear hu hnx
              go_wp2_with fail
              go_roundg (q + 1)
              case measure => have := HG.out; omega
              case rel => exact ⟨q, by omega, rfl, by go_num, HN.out⟩
        · obtain rfl : N = y := by omega
          rcases hst with ⟨hyq, hst⟩ | ⟨v, t, hv6, hbest, hst⟩
          · omega
          · have HW := hide hst
            have HE := hide hbest
            clear hst hbest
            have hu := HE.out.uniq (HS.out (q + 1) (by omega) (by omega))
            have hnx := HW.out
            rw [hu.1, hu.2] at hnx
            have HN := hide (hnx.next (by omega))
            have e5 : ((v : Int) == -1) = false := beq_eq_false_iff_ne.2 (by omega)
            have c5 := HW.out.key (by omega)
            clear hu hnx
            go_wp2_with fail
            go_roundg (q + 1)
            case measure => have := HG.out; omega
            case rel => exact ⟨q, by omega, rfl, by go_num, HN.out⟩
end Go.Proofs.Ytmjkhmebpciopaa
end

/- the text AppZ -/
section
/- 'append(out, make([]T, k)...)': the builtin is handed the number. No program in sight. -/
set_option linter.unusedVariables false
namespace Go.Dx
open Go.RowKit

theorem zeroCells_one {z : Value} (hz : z.cells = #[z]) (m : Nat) : (Builtin.zeroCells z.cells m).toList = List.replicate m z := by
  unfold Builtin.zeroCells
  rw [hz]
  apply List.ext_getElem
  · simp
  · intro i h1 h2
    simp [Nat.mod_one]
section laws
variable {P : Program} {w : World} {ops : Array Oper} {rest : List Oper} {o : Oper} {act : Act} {Q : Exit → Act → World → Prop}

theorem run_append_zeros (base : Nat) (t tn ty e : TypeId) (i : TypeInfo) (z : Value) (kq kn : IntKind) (ht : P.underlying t = some (.slice e)) (htn : P.underlying tn = some (.int kn)) (hi : P.info? e = some i) (hz : i.zero = some z)
    (hz1 : z.cells = #[z]) (hone : z.oneCell' = true) (hsz : i.size = 1) (a : Option Addr) (n c : Nat) (xs : List Value) (hown : Own w base e i.size a n c xs)
    (m : Nat) (h0 : 0 < m)
    (h63 : n + m ≤ maxLen) (hbytes : (n + m) * i.bytes ≤ 140737488355328) (hbase : base ≤ w.heap.size) :
    ∃ a' c' w', (Builtin.append_ #[t, tn] ty #[.slice a n c, .int kq (m : Int)]).run P w = .ok (.slice a' (n + m) c') w' ∧ Own w' base e i.size a' (n + m) c' (xs ++ List.replicate m z) ∧ w.grownBy w' (a.map (·.block)) := by
  have hsmall : n + m ≤ 9223372036854775807 := by simp only [maxLen] at h63; omega
  have hlen : (xs ++ List.replicate m z).length = (n + m) * i.size := by rw [List.length_append, hown.1, List.length_replicate, hsz]; omega
  have hold : (Builtin.firstCells i.size n (.slice a n c)).run P w.drew = .ok xs.toArray w.drew := by
    have hsl := hown.sl
    cases a with
    | none =>
      have := hsl.nil rfl
      have := hsl.le
      obtain rfl : n = 0 := by omega
      have hnews : xs = [] := List.eq_nil_of_length_eq_zero (by simpa using hsl.len)
      subst hnews
      exact run_firstCells_none w.drew i.size 0 0 c
    | some p => exact run_firstCells_some w.drew i.size n p n c xs hsl.len (by simpa using hsl.cell p rfl)
  have hk : m ≠ 0 := by omega
  have hw : IntKind.i64.wrap (m : Int) = m := by rw [IntKind.wrap_i64]; omega
  have hneg : ¬ ((m : Int) < 0) := by omega
  have hm8 : m * i.bytes ≤ (n + m) * i.bytes := Nat.mul_le_mul_right _ (by omega)
  have h48i : ¬ (281474976710656 < (m : Int) * (i.bytes : Int)) := by
    rw [← Int.natCast_mul]
    omega
  by_cases hroom : n + m ≤ c
  · rcases hown.2 with ⟨h1, h2⟩ | ⟨g, cap, cur, h1, hbg, hg, hnc, hcm, hcs, htake⟩
    · injection h1 with h1 h3 h4
      subst h1 h3 h4
      omega
    · injection h1 with h1 h3 h4
      subst h1 h4
      have hnews : (List.replicate m z).length = m * i.size := by rw [List.length_replicate, hsz, Nat.mul_one]
      have hfit : n * i.size + (List.replicate m z).length ≤ cur.size := by rw [hnews, hcs, ← Nat.add_mul]; exact Nat.mul_le_mul_right _ hroom
      have hst := run_storeCells_at P g (n * i.size) e (List.replicate m z) 0 cur w hg (by simpa using hfit) (by intro u hu; rw [List.eq_of_mem_replicate hu]; exact hone)
      simp only [Nat.add_zero] at hst
      have hns : ¬ (m * i.size = 0) := by rw [hsz]; omega
      refine ⟨some ⟨g, 0, none⟩, c, w.setRow g (cur.toList.take (n * i.size) ++ List.replicate m z ++ cur.toList.drop (n * i.size + (List.replicate m z).length)).toArray, ?_, ⟨hlen, .inr ⟨g, c, _, rfl, hbg, setRow_heap w g cur _ e _ hg, hroom, hcm, ?_, ?_⟩⟩, ⟨rfl, rfl, rfl, by simp, fun k _ hk => setRow_other w g k _ (fun e => hk (by simp [e]))⟩⟩
      · simp [Builtin.append_, run_underlying ht, run_underlying htn, sizeOf, typeInfo, zeroValue, hi, hz, asInt, asIntOf, hw, hneg, hns, h48i, hroom, Addr.add_lit]
        rw [zeroCells_one hz1]
        simp at hst
        simp [hst]
      · simp only [List.size_toArray, List.length_append, List.length_take, List.length_drop, Array.length_toList]
        omega
      · rw [htake, ← hlen]
        exact List.take_left
  · have hr := Lib.run_append_grow_zeros (P := P) w t tn ty e i z kq kn ht htn hi hz a n c xs hold m h0 (by omega) (by omega) (by omega) (by omega) (growslice_fits (by omega) hbytes)
    have hge := grownCap_ge w (n + m) c e
    have hcm : grownCap w (n + m) c e ≤ maxLen := grownCap_le_maxLen w (n + m) c e h63
    refine ⟨_, _, _, hr, ⟨hlen, .inr ⟨w.heap.size, _, _, rfl, hbase, heap_alloc_new w.drew _, hge, hcm, ?_, ?_⟩⟩, ⟨rfl, rfl, rfl, by simp, fun k hk _ => Below.heap_alloc w.drew _ k hk⟩⟩
    · have h1 := hown.1
      rw [hsz, Nat.mul_one] at h1
      simp only [Array.size_append, List.size_toArray, size_zeroCells, hz1, hsz, h1, Nat.mul_one]
      simp
      omega
    · rw [Array.toList_append, Array.toList_append, zeroCells_one hz1, List.toList_toArray, ← hlen]
      exact List.take_left

/-- 'append(out, make([]T, k)...)', out owned -/
theorem append_zeros (hg : o.guard = none) (s x : Operand) (t tn : TypeId) (hop : o.op = Op.call { callee := Callee.builtin Builtin.append, args := #[s, x], argTypes := #[t, tn] })
    (e : TypeId) (z : Value) (bytes : Nat) (kq kn : IntKind) (ht : P.underlying t = some (.slice e)) (htn : P.underlying tn = some (.int kn)) (hi : (P.info? e).map (fun i => (i.zero, i.size, i.bytes)) = some (some z, 1, bytes)) (hz : z.cells = #[z]) (hone : z.oneCell' = true)
    (w0 : World) (B : Nat) (a : Option Addr) (n c : Nat) (xs : List Value) (hs : act.eval s = .slice a n c) (hown : Own w B e 1 a n c xs)
    (m : Nat) (iv : Int) (hx : act.eval x = .int kq iv) (hiv : iv = (m : Int)) (h0 : 0 < m)
    (hn : (n + m) * bytes ≤ 140737488355328) (hn2 : n + m ≤ maxLen) (hB : B ≤ w.heap.size) (hbel : Below B w0 w)
    (hK : ∀ a' c' w', Own w' B e 1 a' (n + m) c' (xs ++ List.replicate m z) → w.grownBy w' (a.map (·.block)) → Below B w0 w' → wpList P ops Q rest (act.put o.dst (.slice a' (n + m) c')) w') :
    wpList P ops Q (o :: rest) act w := by
  obtain ⟨i, hi0, hz0, hz1, hz2⟩ := info_parts hi
  subst hz2 hiv
  clear hi
  obtain ⟨a', c', w', hrun, ho, hgr⟩ := run_append_zeros (w := w) (P := P) B t tn o.type e i z kq kn ht htn hi0 hz0 hz hone hz1 a n c xs (by rw [hz1]; exact hown) m h0 hn2 hn hB
  rw [hz1] at ho
  refine wpList_plain hg fun K hK' => ?_
  unfold Oper.wp
  simp [execOp, hop, resolve, invoke, builtin, hs, hx, hrun, Result.andThen]
  refine hK' _ _ (hK a' c' w' ho hgr (hbel.grown hgr hB ?_))
  intro k hk
  cases a with
  | none => cases hk
  | some p => injection hk with hk; subst hk; exact hown.base.1
end laws
end Go.Dx
end

/- the text Pg -/
section
/- Pages that a call builds by append: the slice of rows, and each row, owned. -/
namespace Go.Proofs.Ytmjkhmebpciopaa
open Go.RowKit Go.Dx

theorem info_row : (Try.prog.info? 47).map (fun i => (i.zero, i.size, i.bytes)) = some (some (.slice none 0 0), 1, 24) := by kernel_rfl
theorem own_ne {w : World} {B B' : Nat} {e e' : TypeId} {sz sz' : Nat} {p q : Addr} {n n' c c' : Nat} {cs cs' : List Value} (h : Own w B e sz (some p) n c cs) (h' : Own w B' e' sz' (some q) n' c' cs') (he : e ≠ e') : p.block ≠ q.block := by
  intro hb
  rcases h.2 with ⟨h1, _⟩ | ⟨g, cap, cur, h1, _, h2, _⟩
  · cases h1
  · rcases h'.2 with ⟨k1, _⟩ | ⟨g', cap', cur', k1, _, k2, _⟩
    · cases k1
    · injection h1 with h1
      injection k1 with k1
      injection h1 with h1
      injection k1 with k1
      subst h1 k1
      have e : g = g' := hb
      rw [e, k2] at h2
      injection h2 with h2
      injection h2 with _ h2
      exact he h2.symm

/-- A page that the call owns. -/
structure OPage (w : World) (B : Nat) (a : Option Addr) (c : Nat) (hs : List Hd) (p : List (List UInt8)) : Prop where
  top : Own w B 47 1 a p.length c (hs.map hv)
  len : hs.length = p.length
  row : ∀ (i : Nat) (h : Hd) (r : List UInt8), hs[i]? = some h → p[i]? = some r → Own w B 5 1 h.1 h.2.1 h.2.2 (r.map B8)
theorem OPage.nil (w : World) (B : Nat) : OPage w B none 0 [] [] := ⟨Own.nil _ _ _ _, rfl, fun i h r h1 => by cases h1⟩
theorem OPage.below {w w' : World} {B : Nat} {a : Option Addr} {c : Nat} {hs : List Hd} {p : List (List UInt8)} (h : OPage w B a c hs p) (hb : Below w.heap.size w w') : OPage w' B a c hs p :=
  ⟨h.top.below hb, h.len, fun i x r h1 h2 => (h.row i x r h1 h2).below hb⟩
theorem OPage.pg {w : World} {B : Nat} {a : Option Addr} {c : Nat} {hs : List Hd} {p : List (List UInt8)} (h : OPage w B a c hs p) : Pg w a p.length c hs p :=
  ⟨h.top.sl, h.len, fun i x r h1 h2 => (h.row i x r h1 h2).sl⟩
theorem OPage.mono {w : World} {B B' : Nat} {a : Option Addr} {c : Nat} {hs : List Hd} {p : List (List UInt8)} (h : OPage w B a c hs p) (hB : B' ≤ B) : OPage w B' a c hs p :=
  ⟨h.top.mono hB, h.len, fun i x r h1 h2 => (h.row i x r h1 h2).mono hB⟩
theorem OPage.push {w w' : World} {B : Nat} {a a' : Option Addr} {c c' : Nat} {hs : List Hd} {p : List (List UInt8)} {x : Hd} {r : List UInt8} (h : OPage w B a c hs p) (hx : Own w B 5 1 x.1 x.2.1 x.2.2 (r.map B8))
    (ht : Own w' B 47 1 a' (p.length + 1) c' (hs.map hv ++ [hv x])) (hg : w.grownBy w' (a.map (·.block))) : OPage w' B a' c' (hs ++ [x]) (p ++ [r]) := by
  have key : ∀ (y : Hd) (s : List UInt8), Own w B 5 1 y.1 y.2.1 y.2.2 (s.map B8) → Own w' B 5 1 y.1 y.2.1 y.2.2 (s.map B8) := by
    intro y s hy
    refine hy.kept hg fun q hq => ?_
    cases a with
    | none => simp
    | some t =>
      have ho := h.top
      rw [hq] at hy
      have := own_ne hy ho (by decide)
      simpa using this
  refine ⟨by rw [List.length_append, List.map_append]; exact ht, by simp [h.len], ?_⟩
  intro i y s h1 h2
  rw [List.getElem?_append] at h1 h2
  by_cases hi : i < hs.length
  · rw [if_pos hi] at h1
    rw [if_pos (by rw [← h.len]; exact hi)] at h2
    exact key y s (h.row i y s h1 h2)
  · rw [if_neg hi] at h1
    rw [if_neg (by rw [← h.len]; exact hi)] at h2
    have e : i - hs.length = 0 := by
      have := (List.getElem?_eq_some_iff.1 h1).1
      simp at this; omega
    rw [e] at h1
    have e2 : i - p.length = 0 := by rw [← h.len]; exact e
    rw [e2] at h2
    simp at h1 h2
    subst h1 h2
    exact key x r hx
/-- What a call hands back that returns a page and an error. -/
def GivesPg (p : List (List UInt8)) (x : Int) (w : World) (r : Ending) (w' : World) : Prop :=
  ∃ a c h, r = .returned (.tuple #[.slice a p.length c, .int .i64 x]) ∧ Pg w' a p.length c h p ∧ Below w.heap.size w w'
section
variable {w : World} {ops : Array Oper} {rest : List Oper} {o : Oper} {act : Act} {Q : Exit → Act → World → Prop}
/-- 'append(p, l)' on a page -/
theorem app_p (hg : o.guard = none) (s x : Operand) (hop : o.op = Op.call { callee := Callee.builtin Builtin.append, args := #[s, x], argTypes := #[29, 29] })
    (w0 : World) (B : Nat) (a : Option Addr) (n c : Nat) (hs : List Hd) (p : List (List UInt8)) (hn0 : p.length = n) (hes : act.eval s = .slice a n c) (hown : OPage w B a c hs p)
    (y : Hd) (r : List UInt8) (hy : Own w B 5 1 y.1 y.2.1 y.2.2 (r.map B8)) (hx : act.eval x = .slice (some ⟨w.heap.size, 0, none⟩) 1 1)
    (hn : (n + 1) * 24 ≤ 140737488355328) (hB : B ≤ w.heap.size) (hbel : Below B w0 w)
    (hK : ∀ a' c' w', OPage w' B a' c' (hs ++ [y]) (p ++ [r]) → Below B w0 w' → wpList Try.prog ops Q rest (act.put o.dst (.slice a' (n + 1) c')) w') :
    wpList Try.prog ops Q (o :: rest) act (w.alloc (.cells #[hv y] 47)) := by
  subst hn0
  refine append_lit hg s x 29 hop 47 (.slice none 0 0) 1 24 Try.underlying29 info_row rfl w0 B a _ c _ hes hown.top 1 [hv y] hx rfl (by simp [hv, Value.oneCell']) hn (by unfold maxLen; omega) hB hbel ?_
  intro a' c' w' ho hgr hb
  exact hK a' c' w' (hown.push hy ho hgr) hb
end
end Go.Proofs.Ytmjkhmebpciopaa
end

/- the text Pg2 -/
section
/- A store into a slice that a call owns; a row of an owned page replaced. -/
namespace Go.Dx
open Go.RowKit
theorem Own.put {w : World} {B : Nat} {e : TypeId} {p : Addr} {n c : Nat} {xs : List Value} (h : Own w B e 1 (some p) n c xs) {i : Nat} (v : Value) : Own (w.setCell ⟨p.block, i, none⟩ v) B e 1 (some p) n c (xs.set i v) := by
  refine ⟨by rw [List.length_set]; exact h.1, ?_⟩
  rcases h.2 with ⟨h1, _⟩ | ⟨g, cap, cur, h1, h2, h3, h4, h5, h6, h7⟩
  · cases h1
  · injection h1 with h1 hn hc
    injection h1 with h1
    subst h1
    refine .inr ⟨g, cap, cur.setIfInBounds i v, by rw [hc], h2, ?_, h4, h5, by simpa using h6, ?_⟩
    · simp [World.setCell, Array.getElem?_modify, h3]
    · rw [Array.toList_setIfInBounds, ← h7, Nat.mul_one, List.take_set]
theorem Own.free {w : World} {B : Nat} {e : TypeId} {p : Addr} {n c : Nat} {sz : Nat} {xs : List Value} (h : Own w B e sz (some p) n c xs) (j : Nat) : w.frozen? ⟨p.block, j, none⟩ = false := by
  rcases h.2 with ⟨h1, _⟩ | ⟨g, cap, cur, h1, h2, h3, _⟩
  · cases h1
  · injection h1 with h1 hn hc
    injection h1 with h1
    subst h1
    simp [World.frozen?, h3]
theorem Own.at_ {w : World} {B : Nat} {e : TypeId} {b : Nat} {n c : Nat} {xs : List Value} (h : Own w B e 1 (some ⟨b, 0, none⟩) n c xs) {j : Nat} {v : Value} (hj : xs[j]? = some v) : w.cell? ⟨b, j, none⟩ = some v := by
  have := h.sl.cell ⟨b, 0, none⟩ rfl j v hj
  rw [Addr.add_lit, Nat.zero_add] at this
  exact this
theorem Own.zero {w : World} {B : Nat} {e : TypeId} {p : Addr} {n c : Nat} {sz : Nat} {xs : List Value} (h : Own w B e sz (some p) n c xs) : p = ⟨p.block, 0, none⟩ := by
  rcases h.2 with ⟨h1, _⟩ | ⟨g, cap, cur, h1, _⟩
  · cases h1
  · injection h1 with h1 hn hc
    injection h1 with h1
    subst h1; rfl
theorem Own.set_other {w : World} {B : Nat} {e : TypeId} {a : Option Addr} {n c : Nat} {sz : Nat} {xs : List Value} (h : Own w B e sz a n c xs) {p : Addr} (hp : ∀ q, a = some q → q.block ≠ p.block) (v : Value) : Own (w.setCell p v) B e sz a n c xs := by
  refine ⟨h.1, ?_⟩
  rcases h.2 with h1 | ⟨g, cap, cur, h1, h2, h3, r⟩
  · exact .inl h1
  · refine .inr ⟨g, cap, cur, h1, h2, ?_, r⟩
    injection h1 with h1
    rw [Below.heap_setCell w p v g (hp _ h1)]
    exact h3
end Go.Dx
namespace Go.Proofs.Ytmjkhmebpciopaa
open Go.RowKit Go.Dx
theorem OPage.top_kept {w w' : World} {B : Nat} {t : Addr} {c : Nat} {hs : List Hd} {p : List (List UInt8)} {i : Nat} {x : Hd} (h : OPage w B (some t) c hs p) (hi : hs[i]? = some x)
    (hg : w.grownBy w' (x.1.map (·.block))) : Own w' B 47 1 (some t) p.length c (hs.map hv) := by
  have hil : i < hs.length := (List.getElem?_eq_some_iff.1 hi).1
  have hp : i < p.length := by rw [← h.len]; exact hil
  refine h.top.kept hg fun q hq => ?_
  cases hq
  have ho := h.row i x p[i] hi (by simp [hp])
  cases hx : x.1 with
  | none => simp
  | some q' =>
    rw [hx] at ho
    have := own_ne h.top ho (by decide)
    simpa using this
/-- one row of an owned page replaced by another that is owned -/
theorem OPage.replace {w w' : World} {B : Nat} {t : Addr} {c : Nat} {hs : List Hd} {p : List (List UInt8)} {i : Nat} {x y : Hd} {r : List UInt8} (h : OPage w B (some t) c hs p) (hi : hs[i]? = some x)
    (hg : w.grownBy w' (x.1.map (·.block))) (hne : ∀ j z, hs[j]? = some z → j ≠ i → ∀ q q', z.1 = some q → x.1 = some q' → q.block ≠ q'.block) (hy : Own w' B 5 1 y.1 y.2.1 y.2.2 (r.map B8)) :
    OPage (w'.setCell ⟨t.block, i, none⟩ (hv y)) B (some t) c (hs.set i y) (p.set i r) := by
  have hil : i < hs.length := (List.getElem?_eq_some_iff.1 hi).1
  have hxi := h.row i x
  have ht : Own w' B 47 1 (some t) p.length c (hs.map hv) := by
    refine h.top.kept hg fun q hq => ?_
    cases hq
    have hp : i < p.length := by rw [← h.len]; exact hil
    have ho := hxi p[i] hi (by simp [hp])
    cases hx : x.1 with
    | none => simp
    | some q' =>
      rw [hx] at ho
      have := own_ne h.top ho (by decide)
      simpa using this
  refine ⟨?_, by rw [List.length_set, List.length_set]; exact h.len, ?_⟩
  · have := ht.put (i := i) (hv y)
    rw [List.length_set, List.map_set]; exact this
  · intro j z s hz hs'
    rw [List.getElem?_set] at hz hs'
    by_cases hj : i = j
    · subst hj
      rw [if_pos rfl, if_pos hil] at hz
      rw [if_pos rfl, if_pos (by rw [← h.len]; exact hil)] at hs'
      cases hz; cases hs'
      refine hy.set_other (fun q hq => ?_) _
      rw [hq] at hy
      have := own_ne hy ht (by decide)
      exact this
    · rw [if_neg hj] at hz hs'
      have ho := h.row j z s hz hs'
      have ho' : Own w' B 5 1 z.1 z.2.1 z.2.2 (s.map B8) := ho.kept hg fun q hq => by
        cases hx : x.1 with
        | none => simp
        | some q' =>
          have := hne j z hz (fun e => hj e.symm) q q' hq hx
          simpa using this
      refine ho'.set_other (fun q hq => ?_) _
      rw [hq] at ho'
      have := own_ne ho' ht (by decide)
      exact this
end Go.Proofs.Ytmjkhmebpciopaa
end

/- the text T12 -/
section
/- Chapter 15: copies of slices; the lines of a part. -/
namespace Go.Proofs.Ytmjkhmebpciopaa
open Go.RowKit Go.Dx

set_option maxHeartbeats 400000 in
theorem clone_b (l : List UInt8) (a : Option Addr) (n c : Nat) (w : World) (hs : Sl w 1 a n c (l.map B8)) (hl : n ≤ 140737488355328) :
    Calls Try.prog 41 #[.slice a n c] w fun e w' => ∃ a' c', e = .returned (.slice a' n c') ∧ Own w' w.heap.size 5 1 a' n c' (l.map B8) ∧ Below w.heap.size w w' := by
  obtain rfl := hs.n_eq
  have q47 : ∀ (w : World) (a : Option Addr) (n c n' c' : Nat), (binOp .eql 47 (.slice a n c) (.slice none n' c')).run Try.prog w = .ok (.bool a.isNone) w := fun w a n c n' c' => Lib.run_eql_slice_nil w _ _ a n c n' c' Try.underlying47
  cases a with
  | none =>
    have h1 := hs.nil rfl
    have h2 := hs.le
    have h3 : l = [] := List.eq_nil_of_length_eq_zero (by omega)
    subst h3 h1
    clear h2 hl
    go_enter Try.func41, Try.ntmps41
    go_wp2_with fail
    go_ret
    exact ⟨none, 0, rfl, Own.nil _ _ _ _, Below.refl _ _⟩
  | some p =>
    have ho := Own.built w w.heap.size 5 1 0 #[] (Nat.le_refl _) rfl (by decide)
    have hb := blo w (.cells #[] 5)
    have hs2 := hs.alloc (.cells #[] 5)
    go_enter Try.func41, Try.ntmps41
    go_wp2_with (at_builtin; refine app_bs rfl _ _ rfl w w.heap.size _ 0 0 _ rfl ho _ l.length c l rfl hs2 (by omega) (by simp) hb ?_; intro a' c' w' ho' hgr' hb')
    go_ret
    exact ⟨a', c', by rw [← Nat.zero_add l.length]; rfl, by rw [Nat.zero_add] at ho'; exact ho', hb'⟩
set_option maxHeartbeats 400000 in
theorem clone_i (l : List Int) (a : Option Addr) (n c : Nat) (w : World) (hs : Sl w 1 a n c (l.map I64)) (hl : n ≤ 10000000) :
    Calls Try.prog 30 #[.slice a n c] w fun e w' => ∃ a' c', e = .returned (.slice a' n c') ∧ Own w' w.heap.size 3 1 a' n c' (l.map I64) ∧ Below w.heap.size w w' := by
  obtain rfl := hs.n_eq
  have q47 : ∀ (w : World) (a : Option Addr) (n c n' c' : Nat), (binOp .eql 22 (.slice a n c) (.slice none n' c')).run Try.prog w = .ok (.bool a.isNone) w := fun w a n c n' c' => Lib.run_eql_slice_nil w _ _ a n c n' c' Try.underlying22
  cases a with
  | none =>
    have h1 := hs.nil rfl
    have h2 := hs.le
    have h3 : l = [] := List.eq_nil_of_length_eq_zero (by omega)
    subst h3 h1
    clear h2 hl
    go_enter Try.func30, Try.ntmps30
    go_wp2_with fail
    go_ret
    exact ⟨none, 0, rfl, Own.nil _ _ _ _, Below.refl _ _⟩
  | some p =>
    have ho := Own.built w w.heap.size 3 1 0 #[] (Nat.le_refl _) rfl (by decide)
    have hb := blo w (.cells #[] 3)
    have hs2 := hs.alloc (.cells #[] 3)
    go_enter Try.func30, Try.ntmps30
    go_wp2_with (at_builtin; refine append_own rfl _ _ 22 rfl 3 (.int .i64 0) 1 8 Try.underlying22 info_int rfl w w.heap.size _ 0 0 _ rfl ho _ l.length c _ rfl hs2 (one_map _ (fun _ => rfl) _) (by omega) (by unfold maxLen; omega) (by simp) hb ?_; intro a' c' w' ho' hgr' hb')
    go_ret
    exact ⟨a', c', by rw [← Nat.zero_add l.length]; rfl, by rw [Nat.zero_add] at ho'; exact ho', hb'⟩

/-- the line of a row: the first column, and m columns from j on -/
def lineL (f : Nat → Nat) (row : List (List UInt8)) (j : Nat) : Nat → List UInt8
  | 0 => row.getD 0 []
  | m + 1 => lineL f row j m ++ List.replicate (sizeW f j m + 2 - (lineL f row j m).length) 0 ++ row.getD (j + m) []
def linesL (f : Nat → Nat) (X : List (List (List UInt8))) (j m : Nat) : List (List UInt8) := X.map fun row => lineL f row j m
theorem lineL_le {f : Nat → Nat} {row : List (List UInt8)} (h : ∀ i, (row.getD i []).length ≤ f i) (j : Nat) : ∀ m, (lineL f row j m).length ≤ sizeW f j m
  | 0 => h 0
  | m + 1 => by
    have h1 := lineL_le h j m
    have h2 := h (j + m)
    show (lineL f row j m ++ List.replicate (sizeW f j m + 2 - (lineL f row j m).length) 0 ++ row.getD (j + m) []).length ≤ sizeW f j m + (2 + f (j + m))
    rw [List.length_append, List.length_append, List.length_replicate]
    omega
theorem wide_mem {X : List (List (List UInt8))} {row : List (List UInt8)} (h : row ∈ X) (i : Nat) : (row.getD i []).length ≤ colW X i := by
  unfold colW
  exact wideL_ge (List.mem_map.2 ⟨row, h, rfl⟩)
section
variable {w : World} {ops : Array Oper} {rest : List Oper} {o : Oper} {act : Act} {Q : Exit → Act → World → Prop}
/-- 'append(out, make([]byte, k)...)' -/
theorem app_z (hg : o.guard = none) (s x : Operand) (hop : o.op = Op.call { callee := Callee.builtin Builtin.append, args := #[s, x], argTypes := #[47, 3] })
    (w0 : World) (B : Nat) (a : Option Addr) (n c : Nat) (xs : List UInt8) (hs : act.eval s = .slice a n c) (hown : Own w B 5 1 a n c (xs.map B8))
    (m : Nat) (iv : Int) (hx : act.eval x = .int .i64 iv) (hiv : iv = (m : Int)) (h0 : 0 < m)
    (hn : n + m ≤ 140737488355328) (hB : B ≤ w.heap.size) (hbel : Below B w0 w)
    (hK : ∀ a' c' w', Own w' B 5 1 a' (n + m) c' ((xs ++ List.replicate m 0).map B8) → w.grownBy w' (a.map (·.block)) → Below B w0 w' → wpList Try.prog ops Q rest (act.put o.dst (.slice a' (n + m) c')) w') :
    wpList Try.prog ops Q (o :: rest) act w :=
  append_zeros hg s x 47 3 hop 5 (.int .u8 0) 1 .i64 .i64 Try.underlying47 Try.underlying3 info_u8 rfl rfl w0 B a n c _ hs hown m iv hx hiv h0 (by omega) (by unfold maxLen; omega) hB hbel (fun a' c' w' h1 h2 h3 => hK a' c' w' (by rw [List.map_append, List.map_replicate]; exact h1) h2 h3)
end

set_option maxRecDepth 100000 in
set_option maxHeartbeats 1000000 in
theorem tab_lines (X : List (List (List UInt8))) (hs : List Hd) (a : Option Addr) (n c : Nat) (aw : Option Addr) (nw cw j k : Nat) (w : World) (hp : Pg3 w a n c hs X) (hN : ∀ row ∈ X, row.length = nCols X) (hR : X.length ≤ 12) (hN0 : 1 ≤ nCols X) (hN1 : nCols X ≤ 12) (h40 : ∀ i, colW X i ≤ 40)
    (hw : Sl w 1 aw nw cw ((ints (widthsL X)).map I64)) (hjk : j ≤ k) (hk : k ≤ nCols X) :
    Calls Try.prog 31 #[.slice a n c, .slice aw nw cw, .int .i64 (j : Int), .int .i64 (k : Int)] w fun e w' => ∃ a' c' hs', e = .returned (.slice a' X.length c') ∧ OPage w' w.heap.size a' c' hs' (linesL (colW X) X j (k - j)) ∧ Below w.heap.size w w' := by
  obtain rfl := hp.n_eq
  obtain rfl : nw = nCols X := by have := hw.n_eq; unfold ints at this; rw [List.length_map, widthsL_len] at this; exact this
  have HWI := hide (fun (i : Nat) (h : i < nCols X) => ints_get (widthsL_get X h))
  have HMEM := hide (fun (row : List (List UInt8)) (h : row ∈ X) (j m : Nat) => lineL_le (wide_mem h) j m)
  have HSZ : Hid (∀ j m, sizeW (colW X) j m ≤ 40 + 42 * m) := hide (fun j m => sizeW_le h40 j m)
  have hW0 := HWI.out 0 (by omega)
  have hf0 := h40 0
  have HLN : Hid (∀ i row, X[i]? = some row → linesL (colW X) (X.take (i + 1)) j (k - j) = linesL (colW X) (X.take i) j (k - j) ++ [lineL (colW X) row j (k - j)]) := hide (fun i row h => by unfold linesL; rw [take_snoc h, List.map_append]; rfl)
  have HLA : Hid (linesL (colW X) (X.take X.length) j (k - j) = linesL (colW X) X j (k - j)) := hide (by rw [List.take_length])
  have HLL : Hid (∀ i, i ≤ X.length → (linesL (colW X) (X.take i) j (k - j)).length = i) := hide (fun i h => by unfold linesL; rw [List.length_map, List.length_take]; omega)
  have HL0 : Hid (linesL (colW X) (X.take 0) j (k - j) = []) := hide rfl
  generalize linesL (colW X) X j (k - j) = P at *
  generalize hf : colW X = f at *
  clear hf
  generalize nCols X = N at *
  obtain ⟨M, HM⟩ : ∃ M, Hid (k - j = M) := ⟨_, hide rfl⟩
  have hMk : j + M = k := by have := HM.out; omega
  rw [HM.out] at HLN HLA HLL HL0
  go_enter Try.func31, Try.ntmps31
  go_wp2_with fail
  go_loopg [9, 17] X.length (fun g p i' w' => ∃ (i : Nat) (a2 : Option Addr) (c2 : Nat) (hs2 : List Hd), i ≤ X.length ∧ g = X.length - i ∧ p = .slice a2 i c2 ∧ OPage w' w.heap.size a2 c2 hs2 (linesL f (X.take i) j M) ∧ i' = .int .i64 i ∧ Below w.heap.size w w')
  case atStart => exact ⟨0, none, 0, [], by omega, by omega, rfl, by rw [HL0.out]; exact OPage.nil _ _, rfl, Below.refl _ _⟩
  case round =>
    obtain ⟨i, a2, c2, hs2, hi, hg1, rfl, hop, rfl, hbk⟩ := hrel
    have HG := hide hg1
    clear hg1
    by_cases hil : i < X.length
    · obtain ⟨x, hx⟩ : ∃ x, X[i]? = some x := ⟨X[i], by simp [hil]⟩
      obtain ⟨ax, cx, ks, hu, hpx⟩ := hp.get hx
      have hxl := hN x (List.mem_of_getElem? hx)
      have HLE := hide (HMEM.out x (List.mem_of_getElem? hx) j)
      have HNX := hide (HLN.out i x hx)
      obtain ⟨r0, hr0⟩ : ∃ r, x[0]? = some r := ⟨x[0]'(by omega), by simp⟩
      obtain ⟨ar, cr, hur, hsr⟩ := hpx.get hr0
      have HU := hide hu
      have HUR := hide hur
      have HXL := hide hxl
      have HPX := hide (hpx.below hbk)
      have hpt := (hp.top.below hbk)
      have hpxt := (hpx.top.below hbk)
      have hsr2 := hsr.below hbk
      have HR0 : Hid (lineL f x j 0 = r0) := hide (by show x.getD 0 [] = r0; rw [List.getD_eq_getElem?_getD, hr0]; rfl)
      have HRL : Hid ((lineL f x j 0).length = r0.length) := hide (by rw [HR0.out])
      have hr0l : r0.length ≤ 40 := by have h1 := HLE.out 0; rw [HR0.out] at h1; exact Nat.le_trans h1 hf0
      have hwt := hw.below hbk
      have hc := fun w' h => clone_b r0 ar r0.length cr w' (hsr2.below h) (by omega)
      clear hx hu hur hr0 hxl hsr hpx
      obtain ⟨wy, rfl⟩ : ∃ wy : World, wy = wr := ⟨_, rfl⟩
      go_wp2_with (first
        | (with_reducible refine idx_3 19 _ _ _ _ _ hs rfl hpt _ _ i rfl rfl _ HU.out ?_; intro b o hcell hbo)
        | (with_reducible refine idx_q 22 _ _ _ _ _ ks rfl hpxt _ _ 0 rfl rfl _ HUR.out ?_; intro b2 o2 hcell2 hbo2))
      clear hcell hbo hcell2 hbo2
      refine (hc _ (Below.refl _ _)).mono ?_
      rintro e w2 ⟨a3, c3, rfl, ho3, hb3⟩
      rw [← HR0.out] at ho3
      have hwt2 := hwt.below hb3
      go_wp2_with (with_reducible refine idx_i 26 _ _ _ _ _ _ rfl hwt2 _ _ 0 rfl rfl _ hW0 ?_; intro b o hcell hbo)
      clear hcell hbo hc HUR hsr2 HR0
      have hb3' := hbk.trans (hb3.mono hbk.size)
      go_loopg [12, 13, 14] M (fun g l b kk w' => ∃ (m : Nat) (a4 : Option Addr) (c4 : Nat), m ≤ M ∧ g = M - m ∧ l = .slice a4 (lineL f x j m).length c4 ∧ Own w' wy.heap.size 5 1 a4 (lineL f x j m).length c4 ((lineL f x j m).map B8) ∧ b = .int .i64 (sizeW f j m : Int) ∧ kk = .int .i64 ((j : Int) + (m : Int)) ∧ Below wy.heap.size wy w')
      case atStart => exact ⟨0, a3, c3, by omega, by omega, by rw [HRL.out], by rw [HRL.out]; rw [HRL.out] at ho3; exact ho3, rfl, by go_num, hb3⟩
      case round =>
        clear ho3 hb3 hb3' hwt2 hpxt
        obtain ⟨m, a4, c4, hm, hg2, rfl, hown, rfl, rfl, hb4⟩ := hrel
        have HG2 := hide hg2
        clear hg2
        obtain ⟨P0, HP0⟩ : ∃ P0, Hid (lineL f x j m = P0) := ⟨_, hide rfl⟩
        obtain ⟨s, Hs⟩ : ∃ s, Hid (sizeW f j m = s) := ⟨_, hide rfl⟩
        have hPs : P0.length ≤ s := by rw [← HP0.out, ← Hs.out]; exact HLE.out m
        have hs4 : s ≤ 40 + 42 * m := by rw [← Hs.out]; exact HSZ.out j m
        rw [HP0.out] at hown
        rw [HP0.out, Hs.out]
        by_cases hmM : m < M
        · have hjm : j + m < N := by omega
          obtain ⟨r, hr⟩ : ∃ r, x[j + m]? = some r := ⟨x[j + m]'(by rw [HXL.out]; exact hjm), by simp⟩
          obtain ⟨ar, cr, hur, hsr⟩ := HPX.out.get hr
          have HUR := hide hur
          have HWM := hide (HWI.out (j + m) hjm)
          obtain ⟨v, Hv⟩ : ∃ v, Hid (f (j + m) = v) := ⟨_, hide rfl⟩
          have hv4 : v ≤ 40 := by rw [← Hv.out]; exact h40 (j + m)
          rw [Hv.out] at HWM
          have HNL : Hid (lineL f x j (m + 1) = P0 ++ List.replicate (s + 2 - P0.length) 0 ++ r) := hide (by
            show lineL f x j m ++ List.replicate (sizeW f j m + 2 - (lineL f x j m).length) 0 ++ x.getD (j + m) [] = _
            rw [HP0.out, Hs.out, List.getD_eq_getElem?_getD, hr]; rfl)
          have hrl : r.length ≤ 40 := by
            have h1 := HLE.out (m + 1)
            have h2 : sizeW f j (m + 1) = s + (2 + v) := by show sizeW f j m + (2 + f (j + m)) = _; rw [Hs.out, Hv.out]
            rw [HNL.out, h2, List.length_append, List.length_append, List.length_replicate] at h1
            omega
          have HNS : Hid (sizeW f j (m + 1) = s + (2 + v)) := hide (by show sizeW f j m + (2 + f (j + m)) = _; rw [Hs.out, Hv.out])
          clear hr hur
          have hwy := hwt
          go_wp2_with (first
            | (at_builtin; refine app_z rfl _ _ rfl wy wy.heap.size _ _ _ P0 rfl hown (s + 2 - P0.length) _ rfl (by omega) (by omega) (by omega) hb4.size hb4 ?_; intro a5 c5 w5 ho5 hgr5 hb5)
            | (with_reducible refine idx_q 44 _ _ _ _ _ ks rfl (HPX.out.below hb5).top _ _ (j + m) rfl (by omega) _ HUR.out ?_; intro b o hcell hbo)
            | (at_builtin; refine app_bs rfl _ _ rfl wy wy.heap.size _ _ _ _ rfl ho5 _ r.length cr r rfl (hsr.below hb5) (by omega) hb5.size hb5 ?_; intro a6 c6 w6 ho6 hgr6 hb6)
            | (with_reducible refine idx_i 50 _ _ _ _ _ _ rfl (hwt.below hb6) _ _ (j + m) rfl (by omega) _ HWM.out ?_; intro b2 o2 hcell2 hbo2))
          have HLN2 : Hid ((lineL f x j (m + 1)).length = P0.length + (s + 2 - P0.length) + r.length) := hide (by rw [HNL.out, List.length_append, List.length_append, List.length_replicate])
          go_roundg (M - (m + 1))
          case measure => have := HG2.out; omega
          case rel => exact ⟨m + 1, a6, c6, by omega, rfl, by rw [HLN2.out], by rw [HLN2.out, HNL.out, List.map_append]; exact ho6, by rw [HNS.out]; go_num, by go_num, hb6⟩
        · obtain rfl : M = m := by omega
          go_wp2_with (at_builtin; refine app_p rfl _ _ rfl w w.heap.size _ _ _ hs2 (linesL f (X.take i) j M) (HLL.out i (by omega)) rfl (hop.below hb4) (a4, P0.length, c4) P0 (hown.mono hbk.size) rfl (by omega) (Nat.le_trans hbk.size hb4.size) (hbk.trans (hb4.mono hbk.size)) ?_; intro a' c' w' ho' hb')
          go_roundg (X.length - (i + 1))
          case measure => have := HG.out; omega
          case rel => exact ⟨i + 1, a', c', hs2 ++ [(a4, P0.length, c4)], by omega, rfl, rfl, by rw [HNX.out, HP0.out]; exact ho', by go_num, hb'⟩
    · obtain rfl : i = X.length := by omega
      go_wp2_with fail
      go_ret
      rw [HLA.out] at hop
      exact ⟨a2, c2, hs2, rfl, hop, hbk⟩
end Go.Proofs.Ytmjkhmebpciopaa
end

/- the text T13 -/
section
/- Chapter 15: the reference's lines of a part. -/
namespace Go.Proofs.Ytmjkhmebpciopaa
open Go.RowKit Go.Dx

theorem rep_next (P : List UInt8) (t : Nat) : P ++ List.replicate (t + 1) 0 = (P ++ List.replicate t 0) ++ [0] := by rw [List.replicate_succ', List.append_assoc]
set_option maxRecDepth 100000 in
set_option maxHeartbeats 1000000 in
theorem ref15_Lines (X : List (List (List UInt8))) (hs : List Hd) (a : Option Addr) (n c : Nat) (j k : Nat) (w : World) (hp : Pg3 w a n c hs X) (hN : ∀ row ∈ X, row.length = nCols X) (hR : X.length ≤ 12) (hN0 : 1 ≤ nCols X) (hN1 : nCols X ≤ 12) (h40 : ∀ i, colW X i ≤ 40)
    (hjk : j ≤ k) (hk : k ≤ nCols X) :
    Calls Try.prog 16 #[.slice a n c, .int .i64 (j : Int), .int .i64 (k : Int)] w fun e w' => ∃ a' c' hs', e = .returned (.slice a' X.length c') ∧ OPage w' w.heap.size a' c' hs' (linesL (colW X) X j (k - j)) ∧ Below w.heap.size w w' := by
  obtain rfl := hp.n_eq
  have HMEM := hide (fun (row : List (List UInt8)) (h : row ∈ X) (j m : Nat) => lineL_le (wide_mem h) j m)
  have HSZ : Hid (∀ j m, sizeW (colW X) j m ≤ 40 + 42 * m) := hide (fun j m => sizeW_le h40 j m)
  have hf0 := h40 0
  have HLN : Hid (∀ i row, X[i]? = some row → linesL (colW X) (X.take (i + 1)) j (k - j) = linesL (colW X) (X.take i) j (k - j) ++ [lineL (colW X) row j (k - j)]) := hide (fun i row h => by unfold linesL; rw [take_snoc h, List.map_append]; rfl)
  have HLA : Hid (linesL (colW X) (X.take X.length) j (k - j) = linesL (colW X) X j (k - j)) := hide (by rw [List.take_length])
  have HLL : Hid (∀ i, i ≤ X.length → (linesL (colW X) (X.take i) j (k - j)).length = i) := hide (fun i h => by unfold linesL; rw [List.length_map, List.length_take]; omega)
  have HL0 : Hid (linesL (colW X) (X.take 0) j (k - j) = []) := hide rfl
  have hC : ∀ (m : Nat) (w' : World), Below w.heap.size w w' → j + m ≤ nCols X → Calls Try.prog 34 #[.slice a X.length c, .int .i64 (j : Int), .int .i64 ((j : Int) + (m : Int))] w' fun e w2 => e = .returned (.int .i64 (sizeW (colW X) j m : Int)) ∧ w' = w2 := fun m w' h hm => by
    have h1 := ref15_Size X hs a X.length c (nCols X) j (j + m) w' (hp.below h) hN hN0 hm (by omega) (by omega) h40
    rw [Nat.add_sub_cancel_left, Int.natCast_add] at h1; exact h1
  generalize linesL (colW X) X j (k - j) = P at *
  generalize hf : colW X = f at *
  clear hf
  generalize nCols X = N at *
  obtain ⟨M, HM⟩ : ∃ M, Hid (k - j = M) := ⟨_, hide rfl⟩
  have hMk : j + M = k := by have := HM.out; omega
  rw [HM.out] at HLN HLA HLL HL0
  go_enter Try.func16, Try.ntmps16
  go_wp2_with fail
  go_loopg [7, 8] X.length (fun g p i' w' => ∃ (i : Nat) (a2 : Option Addr) (c2 : Nat) (hs2 : List Hd), i ≤ X.length ∧ g = X.length - i ∧ p = .slice a2 i c2 ∧ OPage w' w.heap.size a2 c2 hs2 (linesL f (X.take i) j M) ∧ i' = .int .i64 i ∧ Below w.heap.size w w')
  case atStart => exact ⟨0, none, 0, [], by omega, by omega, rfl, by rw [HL0.out]; exact OPage.nil _ _, rfl, Below.refl _ _⟩
  case round =>
    obtain ⟨i, a2, c2, hs2, hi, hg1, rfl, hop, rfl, hbk⟩ := hrel
    have HG := hide hg1
    clear hg1
    by_cases hil : i < X.length
    · obtain ⟨x, hx⟩ : ∃ x, X[i]? = some x := ⟨X[i], by simp [hil]⟩
      obtain ⟨ax, cx, ks, hu, hpx⟩ := hp.get hx
      have hxl := hN x (List.mem_of_getElem? hx)
      have HLE := hide (HMEM.out x (List.mem_of_getElem? hx) j)
      have HNX := hide (HLN.out i x hx)
      obtain ⟨r0, hr0⟩ : ∃ r, x[0]? = some r := ⟨x[0]'(by omega), by simp⟩
      obtain ⟨ar, cr, hur, hsr⟩ := hpx.get hr0
      have HU := hide hu
      have HUR := hide hur
      have HXL := hide hxl
      have HPX := hide (hpx.below hbk)
      have hpt := (hp.top.below hbk)
      obtain ⟨wy, rfl⟩ : ∃ wy : World, wy = wr := ⟨_, rfl⟩
      have hbz := blo wy (.cells #[] 5)
      have hoz := Own.built wy wy.heap.size 5 1 0 #[] (Nat.le_refl _) rfl (by decide)
      have hptz := hpt.below hbz
      have hpxt := HPX.out.top.below hbz
      have hsr2 := (hsr.below hbk).below hbz
      have HR0 : Hid (lineL f x j 0 = r0) := hide (by show x.getD 0 [] = r0; rw [List.getD_eq_getElem?_getD, hr0]; rfl)
      have HRL : Hid ((lineL f x j 0).length = r0.length) := hide (by rw [HR0.out])
      have hr0l : r0.length ≤ 40 := by have h1 := HLE.out 0; rw [HR0.out] at h1; exact Nat.le_trans h1 hf0
      clear hx hu hur hr0 hxl hsr hpx
      go_wp2_with (first
        | (with_reducible refine idx_3 20 _ _ _ _ _ hs rfl hptz _ _ i rfl rfl _ HU.out ?_; intro b o hcell hbo)
        | (with_reducible refine idx_q 22 _ _ _ _ _ ks rfl hpxt _ _ 0 rfl rfl _ HUR.out ?_; intro b2 o2 hcell2 hbo2)
        | (at_builtin; refine app_bs rfl _ _ rfl wy wy.heap.size _ 0 0 _ rfl hoz _ r0.length cr r0 rfl hsr2 (by omega) hbz.size hbz ?_; intro a3 c3 w3 ho3 hgr3 hb3))
      clear hcell hbo hcell2 hbo2 hoz hptz hpxt hsr2 hgr3 hbz
      rw [Nat.zero_add] at ho3
      replace ho3 : Own w3 wy.heap.size 5 1 a3 (lineL f x j 0).length c3 ((lineL f x j 0).map B8) := by rw [HRL.out, HR0.out]; exact ho3
      go_loopg [9, 10] M (fun g l kk w' => ∃ (m : Nat) (a4 : Option Addr) (c4 : Nat), m ≤ M ∧ g = M - m ∧ l = .slice a4 (lineL f x j m).length c4 ∧ Own w' wy.heap.size 5 1 a4 (lineL f x j m).length c4 ((lineL f x j m).map B8) ∧ kk = .int .i64 ((j : Int) + (m : Int)) ∧ Below wy.heap.size wy w')
      case atStart => exact ⟨0, a3, c3, by omega, by omega, by rw [HRL.out], ho3, by go_num, hb3⟩
      case round =>
        clear ho3 hb3
        obtain ⟨m, a4, c4, hm, hg2, rfl, hown, rfl, hb4⟩ := hrel
        have HG2 := hide hg2
        clear hg2
        obtain ⟨P0, HP0⟩ : ∃ P0, Hid (lineL f x j m = P0) := ⟨_, hide rfl⟩
        obtain ⟨s, Hs⟩ : ∃ s, Hid (sizeW f j m = s) := ⟨_, hide rfl⟩
        have hPs : P0.length ≤ s := by rw [← HP0.out, ← Hs.out]; exact HLE.out m
        have hs4 : s ≤ 40 + 42 * m := by rw [← Hs.out]; exact HSZ.out j m
        rw [HP0.out] at hown
        rw [HP0.out]
        by_cases hmM : m < M
        · have hjm : j + m < N := by omega
          obtain ⟨r, hr⟩ : ∃ r, x[j + m]? = some r := ⟨x[j + m]'(by rw [HXL.out]; exact hjm), by simp⟩
          obtain ⟨ar, cr, hur, hsr⟩ := HPX.out.get hr
          have HUR := hide hur
          obtain ⟨v, Hv⟩ : ∃ v, Hid (f (j + m) = v) := ⟨_, hide rfl⟩
          have hv4 : v ≤ 40 := by rw [← Hv.out]; exact h40 (j + m)
          obtain ⟨D, HD⟩ : ∃ D, Hid (s + 2 - P0.length = D) := ⟨_, hide rfl⟩
          have hD : Hid (P0.length + D = s + 2) := hide (by have := HD.out; omega)
          have hPD : P0.length + D ≤ 1000 := by have := hD.out; omega
          have d7 : decide ((j : Int) + (m : Int) < (k : Int)) = true := decide_eq_true (by omega)
          have HNL : Hid (lineL f x j (m + 1) = P0 ++ List.replicate D 0 ++ r) := hide (by
            show lineL f x j m ++ List.replicate (sizeW f j m + 2 - (lineL f x j m).length) 0 ++ x.getD (j + m) [] = _
            rw [HP0.out, Hs.out, HD.out, List.getD_eq_getElem?_getD, hr]; rfl)
          have hrl : r.length ≤ 40 := by
            have h1 := HLE.out (m + 1)
            have h2 : sizeW f j (m + 1) = s + (2 + v) := by show sizeW f j m + (2 + f (j + m)) = _; rw [Hs.out, Hv.out]
            rw [HNL.out, h2, List.length_append, List.length_append, List.length_replicate] at h1
            have := hD.out
            omega
          have hc := fun w' h => hC m w' h (by omega)
          rw [Hs.out] at hc
          clear hr hur
          obtain ⟨wz, rfl⟩ : ∃ wz : World, wz = wr := ⟨_, rfl⟩
          go_wp2_with fail
          go_loopg [9] D (fun g l w' => ∃ (t : Nat) (a4 : Option Addr) (c4 : Nat), t ≤ D ∧ g = D - t ∧ l = .slice a4 (P0.length + t) c4 ∧ Own w' wy.heap.size 5 1 a4 (P0.length + t) c4 ((P0 ++ List.replicate t 0).map B8) ∧ Below wy.heap.size wy w')
          case atStart => exact ⟨0, a4, c4, by omega, by omega, by go_num, by rw [List.replicate_zero, List.append_nil]; exact hown, hb4⟩
          case round =>
            clear hb4 hown
            obtain ⟨t, a4, c4, ht, hg3, rfl, hown, hb4⟩ := hrel
            have HG3 := hide hg3
            have HRN := hide (rep_next P0 t)
            clear hg3
            have hcw := hc _ (hbk.trans (hb4.mono hbk.size))
            by_cases htD : t < D
            · have d1 : decide ((P0.length : Int) + (t : Int) < (s : Int) + 2) = true := decide_eq_true (by have := hD.out; omega)
              go_wp2_with fail
              refine hcw.mono ?_
              rintro e w2 ⟨rfl, rfl⟩
              go_wp2_with (at_builtin; refine app_b rfl _ _ rfl wy wy.heap.size _ _ _ _ rfl hown _ rfl (by omega) hb4.size hb4 ?_; intro a' c' w' ho' hgr' hb')
              go_roundg (D - (t + 1))
              case measure => have := HG3.out; omega
              case rel => exact ⟨t + 1, a', c', by omega, rfl, by go_num, by rw [HRN.out, List.map_append]; exact ho', hb'⟩
            · obtain rfl : D = t := by omega
              have d1 : decide ((P0.length : Int) + (D : Int) < (s : Int) + 2) = false := decide_eq_false (by have := hD.out; omega)
              have hpt4 := hpt.below hb4
              go_wp2_with fail
              refine hcw.mono ?_
              rintro e w2 ⟨rfl, rfl⟩
              go_wp2_with (first
                | (with_reducible refine idx_3 45 _ _ _ _ _ hs rfl hpt4 _ _ i rfl rfl _ HU.out ?_; intro b o hcell hbo)
                | (with_reducible refine idx_q 48 _ _ _ _ _ ks rfl (HPX.out.below hb4).top _ _ (j + m) rfl (by omega) _ HUR.out ?_; intro b2 o2 hcell2 hbo2)
                | (at_builtin; refine app_bs rfl _ _ rfl wy wy.heap.size _ _ _ _ rfl hown _ r.length cr r rfl (hsr.below hb4) (by omega) hb4.size hb4 ?_; intro a6 c6 w6 ho6 hgr6 hb6))
              have HLN2 : Hid ((lineL f x j (m + 1)).length = P0.length + D + r.length) := hide (by rw [HNL.out, List.length_append, List.length_append, List.length_replicate])
              go_roundg (M - (m + 1))
              case measure => have := HG2.out; omega
              case rel => exact ⟨m + 1, a6, c6, by omega, rfl, by rw [HLN2.out], by rw [HLN2.out, HNL.out, List.map_append]; exact ho6, by go_num, hb6⟩
        · obtain rfl : M = m := by omega
          go_wp2_with (at_builtin; refine app_p rfl _ _ rfl w w.heap.size _ _ _ hs2 (linesL f (X.take i) j M) (HLL.out i (by omega)) rfl (hop.below hb4) (a4, P0.length, c4) P0 (hown.mono hbk.size) rfl (by omega) (Nat.le_trans hbk.size hb4.size) (hbk.trans (hb4.mono hbk.size)) ?_; intro a' c' w' ho' hb')
          go_roundg (X.length - (i + 1))
          case measure => have := HG.out; omega
          case rel => exact ⟨i + 1, a', c', hs2 ++ [(a4, P0.length, c4)], by omega, rfl, rfl, by rw [HNX.out, HP0.out]; exact ho', by go_num, hb'⟩
    · obtain rfl : i = X.length := by omega
      go_wp2_with fail
      go_ret
      rw [HLA.out] at hop
      exact ⟨a2, c2, hs2, rfl, hop, hbk⟩
end Go.Proofs.Ytmjkhmebpciopaa
end

/- the text T14 -/
section
/- Chapter 15: the error of entries and a width. -/
namespace Go.Proofs.Ytmjkhmebpciopaa
open Go.RowKit Go.Dx

/-- each column fits beside the first -/
def FitW (f : Nat → Nat) (N : Nat) (W : Int) : Prop := (f 0 : Int) ≤ W ∧ ∀ k, k < N → 1 ≤ k → (sizeW f k 1 : Int) ≤ W
instance (f : Nat → Nat) (N : Nat) (W : Int) : Decidable (FitW f N W) := by unfold FitW; infer_instance
theorem FitW.cols {f : Nat → Nat} {N : Nat} {W : Int} (h : FitW f N W) : ∀ k, 1 ≤ k → k < N → (sizeW f k 1 : Int) ≤ W := fun k h1 h2 => h.2 k h2 h1
theorem great_iff (l : List Nat) (b W : Int) : b + (great l : Int) ≤ W ↔ b ≤ W ∧ ∀ x ∈ l, b + ((x : Int) + 2) ≤ W := by
  have key : ∀ (l : List Nat) (m : Nat), b + ((l.foldl (fun m x => max m (x + 2)) m : Nat) : Int) ≤ W ↔ b + (m : Int) ≤ W ∧ ∀ x ∈ l, b + ((x : Int) + 2) ≤ W := by
    intro l
    induction l with
    | nil => intro m; simp
    | cons y l ih =>
      intro m
      rw [List.foldl_cons, ih]
      constructor
      · rintro ⟨h1, h2⟩
        refine ⟨by omega, fun x hx => ?_⟩
        rcases List.mem_cons.1 hx with rfl | hx
        · omega
        · exact h2 x hx
      · rintro ⟨h1, h2⟩
        have := h2 y List.mem_cons_self
        exact ⟨by omega, fun x hx => h2 x (List.mem_cons_of_mem _ hx)⟩
  have := key l 0
  unfold great
  rw [this]
  constructor
  · rintro ⟨h1, h2⟩; exact ⟨by omega, h2⟩
  · rintro ⟨h1, h2⟩; exact ⟨by omega, h2⟩
/-- tabular.fits is FitW -/
theorem fits_iff (ws : List Nat) (W : Int) : ((wAt ws 0 : Int) + (great (ws.drop 1) : Int) ≤ W) ↔ FitW (wAt ws) ws.length W := by
  rw [great_iff]
  unfold FitW
  constructor
  · rintro ⟨h1, h2⟩
    refine ⟨h1, fun k hk h1k => ?_⟩
    have hx : ws[k]? = some ws[k] := by simp [hk]
    have hm : ws[k] ∈ ws.drop 1 := by
      have : (ws.drop 1)[k - 1]? = some ws[k] := by rw [List.getElem?_drop, show 1 + (k - 1) = k by omega]; exact hx
      exact List.mem_of_getElem? this
    have h3 := h2 _ hm
    show ((wAt ws 0 + (2 + wAt ws (k + 0)) : Nat) : Int) ≤ W
    rw [Nat.add_zero, wAt_of hx]; omega
  · rintro ⟨h1, h2⟩
    refine ⟨h1, fun x hx => ?_⟩
    obtain ⟨i, hi⟩ := List.getElem?_of_mem hx
    rw [List.getElem?_drop] at hi
    have h3 := h2 (1 + i) (List.getElem?_eq_some_iff.1 hi).1 (by omega)
    replace h3 : ((wAt ws 0 + (2 + wAt ws (1 + i + 0)) : Nat) : Int) ≤ W := h3
    rw [Nat.add_zero, wAt_of hi] at h3; omega
theorem FitW.congr {f g : Nat → Nat} {N : Nat} {W : Int} (hN : 1 ≤ N) (h : ∀ i, i < N → f i = g i) : FitW f N W ↔ FitW g N W := by
  unfold FitW
  rw [h 0 (by omega)]
  constructor
  · rintro ⟨h1, h2⟩; exact ⟨h1, fun k hk h3 => by rw [← sizeW_congr hN h 1 (by omega)]; exact h2 k hk h3⟩
  · rintro ⟨h1, h2⟩; exact ⟨h1, fun k hk h3 => by rw [sizeW_congr hN h 1 (by omega)]; exact h2 k hk h3⟩
theorem wAt_widths (X : List (List (List UInt8))) : ∀ i, i < nCols X → wAt (widthsL X) i = colW X i := fun i hi => wAt_of (widthsL_get X hi)
/-- the error of entries and a width -/
def errT (X : List (List (List UInt8))) (W : Int) : Int := if validT X = true ∧ 1 ≤ W ∧ W ≤ 1000 then (if FitW (colW X) (nCols X) W then 0 else 14) else 1
theorem errT_arg {X : List (List (List UInt8))} {W : Int} (h : ¬ (validT X = true ∧ 1 ≤ W ∧ W ≤ 1000)) : errT X W = 1 := if_neg h
theorem errT_wide {X : List (List (List UInt8))} {W : Int} (h : validT X = true ∧ 1 ≤ W ∧ W ≤ 1000) (h2 : ¬ FitW (colW X) (nCols X) W) : errT X W = 14 := by unfold errT; rw [if_pos h, if_neg h2]
theorem errT_ok {X : List (List (List UInt8))} {W : Int} (h : validT X = true ∧ 1 ≤ W ∧ W ≤ 1000) (h2 : FitW (colW X) (nCols X) W) : errT X W = 0 := by unfold errT; rw [if_pos h, if_pos h2]
/-- what valid entries are -/
structure VX (X : List (List (List UInt8))) : Prop where
  r1 : 1 ≤ X.length
  r2 : X.length ≤ 12
  c1 : 1 ≤ nCols X
  c2 : nCols X ≤ 12
  row : ∀ row ∈ X, row.length = nCols X
  ent : ∀ row ∈ X, ∀ x ∈ row, entryB x = true
theorem VX.of {X : List (List (List UInt8))} (h : validT X = true) : VX X := by
  unfold validT at h
  rw [Bool.and_eq_true, Bool.and_eq_true, decide_eq_true_eq, decide_eq_true_eq] at h
  obtain ⟨⟨h1, h2⟩, ⟨h3, h4⟩, h5⟩ := h
  have h6 : ∀ row ∈ X, badRow (nCols X) row = false := by
    intro row hr
    cases hb : badRow (nCols X) row with
    | false => rfl
    | true => rw [List.any_eq_true.2 ⟨row, hr, hb⟩] at h5; cases h5
  refine ⟨h1, h2, h3, h4, fun row hr => ?_, fun row hr x hx => ?_⟩
  · have := h6 row hr
    unfold badRow at this
    rw [Bool.or_eq_false_iff, decide_eq_false_iff_not] at this
    exact Classical.not_not.1 this.1
  · have := h6 row hr
    unfold badRow at this
    rw [Bool.or_eq_false_iff] at this
    cases he : entryB x with
    | true => rfl
    | false => rw [List.any_eq_true.2 ⟨x, hx, noEntry_yes he⟩] at this; cases this.2
theorem VX.back {X : List (List (List UInt8))} (h : VX X) : validT X = true := by
  rw [validT_in ⟨h.r1, h.r2⟩ ⟨h.c1, h.c2⟩]
  cases hb : X.any (badRow (nCols X)) with
  | false => rfl
  | true =>
    obtain ⟨row, hr, hb⟩ := List.any_eq_true.1 hb
    rw [bad_of (h.row row hr)] at hb
    obtain ⟨x, hx, hb⟩ := List.any_eq_true.1 hb
    unfold noEntry at hb
    rw [h.ent row hr x hx] at hb; cases hb
theorem entry_le {x : List UInt8} (h : entryB x = true) : 1 ≤ x.length ∧ x.length ≤ 40 := by
  unfold entryB at h
  rw [Bool.and_eq_true, decide_eq_true_eq] at h
  exact h.1
theorem VX.le {X : List (List (List UInt8))} (h : VX X) : ∀ i, colW X i ≤ 40 := by
  intro i
  unfold colW
  refine wideL_le fun l hl => ?_
  obtain ⟨row, hr, rfl⟩ := List.mem_map.1 hl
  rw [List.getD_eq_getElem?_getD]
  cases hx : row[i]? with
  | none => simp
  | some x => exact (entry_le (h.ent row hr x (List.mem_of_getElem? hx))).2
theorem VX.le_w {X : List (List (List UInt8))} (h : VX X) : ∀ x ∈ widthsL X, x ≤ 40 := by
  intro x hx
  unfold widthsL at hx
  obtain ⟨i, _, rfl⟩ := List.mem_map.1 hx
  exact h.le i

set_option maxRecDepth 100000 in
set_option maxHeartbeats 800000 in
theorem ref15_Error (X : List (List (List UInt8))) (hs : List Hd) (a : Option Addr) (n c : Nat) (W : Int) (w : World) (hp : Pg3 w a n c hs X) (hW : -9223372036854775808 ≤ W ∧ W ≤ 9223372036854775807) :
    Calls Try.prog 32 #[.slice a n c, .int .i64 W] w fun e w' => e = .returned (.int .i64 (errT X W)) ∧ w = w' := by
  obtain rfl := hp.n_eq
  have hv := ref15_Valid X hs a X.length c w hp
  cases hval : validT X with
  | false =>
    have HE := hide (errT_arg (X := X) (W := W) (fun h => by rw [hval] at h; cases h.1))
    rw [hval] at hv
    clear hval
    go_enter Try.func32, Try.ntmps32
    go_wp2_with fail
    refine hv.mono ?_
    rintro e w2 ⟨rfl, rfl⟩
    go_wp2_with fail
    go_ret
    exact ⟨by rw [HE.out]; rfl, rfl⟩
  | true =>
    have HX := VX.of hval
    rw [hval] at hv
    by_cases h1 : 1 ≤ W
    case neg =>
      have HE := hide (errT_arg (X := X) (W := W) (fun h => h1 h.2.1))
      have d1 : decide (W < 1) = true := decide_eq_true (by omega)
      clear hval
      go_enter Try.func32, Try.ntmps32
      go_wp2_with fail
      refine hv.mono ?_
      rintro e w2 ⟨rfl, rfl⟩
      go_wp2_with fail
      go_ret
      exact ⟨by rw [HE.out]; rfl, rfl⟩
    have d1 : decide (W < 1) = false := decide_eq_false (by omega)
    by_cases h2 : W ≤ 1000
    case neg =>
      have HE := hide (errT_arg (X := X) (W := W) (fun h => h2 h.2.2))
      have d2 : decide (1000 < W) = true := decide_eq_true (by omega)
      clear hval
      go_enter Try.func32, Try.ntmps32
      go_wp2_with fail
      refine hv.mono ?_
      rintro e w2 ⟨rfl, rfl⟩
      go_wp2_with fail
      go_ret
      exact ⟨by rw [HE.out]; rfl, rfl⟩
    have d2 : decide (1000 < W) = false := decide_eq_false (by omega)
    have HEW := hide (errT_wide (X := X) (W := W) ⟨hval, h1, h2⟩)
    have HEO := hide (errT_ok (X := X) (W := W) ⟨hval, h1, h2⟩)
    obtain ⟨x0, hx0⟩ : ∃ x, X[0]? = some x := ⟨X[0]'(by have := HX.r1; omega), by simp⟩
    obtain ⟨ax0, cx0, ks0, hux0, hpx0⟩ := hp.get hx0
    rw [← nCols_of hx0] at hux0
    have HUX0 := hide hux0
    have hC : ∀ (j m : Nat), 1 ≤ j → j + m ≤ nCols X → Calls Try.prog 34 #[.slice a X.length c, .int .i64 (j : Int), .int .i64 ((j : Int) + (m : Int))] w fun e w2 => e = .returned (.int .i64 (sizeW (colW X) j m : Int)) ∧ w = w2 := fun j m hj hm => by
      have h1 := ref15_Size X hs a X.length c (nCols X) j (j + m) w hp HX.row HX.c1 hm (by have := HX.c2; omega) (by have := HX.c2; omega) HX.le
      rw [Nat.add_sub_cancel_left, Int.natCast_add] at h1; exact h1
    have hs0 : ∀ j m, sizeW (colW X) j m ≤ 40 + 42 * m := fun j m => sizeW_le HX.le j m
    have HS0 := hide hs0
    have hn1 := HX.c1
    have hn2 := HX.c2
    have hf0 := HX.le 0
    have hC0 : Calls Try.prog 34 #[.slice a X.length c, .int .i64 1, .int .i64 1] w fun e w2 => e = .returned (.int .i64 (colW X 0 : Int)) ∧ w = w2 := hC 1 0 (by omega) (by omega)
    have hht := hp.top
    have HXH := hide HX
    clear hval hx0 hux0 hpx0 hp hs0 HX
    generalize colW X = f at *
    generalize nCols X = N at *
    by_cases h3 : (f 0 : Int) ≤ W
    case neg =>
      have HE : Hid (errT X W = 14) := hide (HEW.out (fun h => h3 h.1))
      have d3 : decide (W < (f 0 : Int)) = true := decide_eq_true (by omega)
      clear h3
      go_enter Try.func32, Try.ntmps32
      go_wp2_with fail
      refine hv.mono ?_
      rintro e w2 ⟨rfl, rfl⟩
      go_wp2_with (with_reducible refine idx_3 19 _ _ _ _ _ hs rfl hht _ _ 0 rfl rfl _ HUX0.out ?_; intro b o hcell hbo)
      refine hC0.mono ?_
      rintro e w2 ⟨rfl, rfl⟩
      go_wp2_with fail
      go_ret
      exact ⟨by rw [HE.out]; rfl, rfl⟩
    have d3 : decide (W < (f 0 : Int)) = false := decide_eq_false (by omega)
    have H3 := hide h3
    clear h3
    go_enter Try.func32, Try.ntmps32
    go_wp2_with fail
    refine hv.mono ?_
    rintro e w2 ⟨rfl, rfl⟩
    go_wp2_with (with_reducible refine idx_3 19 _ _ _ _ _ hs rfl hht _ _ 0 rfl rfl _ HUX0.out ?_; intro b o hcell hbo)
    refine hC0.mono ?_
    rintro e w2 ⟨rfl, rfl⟩
    go_wp2_with fail
    clear hcell hbo
    go_loopg [6] N (fun g i w' => ∃ (k : Nat), 1 ≤ k ∧ k ≤ N ∧ g = N - k + 1 ∧ Hid (∀ j, j < k → 1 ≤ j → (sizeW f j 1 : Int) ≤ W) ∧ i = .int .i64 (k : Int) ∧ w = w')
    case atStart => exact ⟨1, by omega, by omega, by omega, hide (fun j h1 h2 => by omega), rfl, rfl⟩
    case round =>
      obtain ⟨k, hk1, hkN, hg, HK, rfl, rfl⟩ := hrel
      have HG := hide hg
      clear hg
      by_cases hkl : k < N
      · have hc := hC k 1 hk1 hkl
        obtain ⟨s, Hs⟩ : ∃ s, Hid (sizeW f k 1 = s) := ⟨_, hide rfl⟩
        have hs4 : s ≤ 82 := by have := HS0.out k 1; rw [← Hs.out]; omega
        rw [Hs.out] at hc
        by_cases hsW : (s : Int) ≤ W
        · have d4 : decide (W < (s : Int)) = false := decide_eq_false (by omega)
          have HK2 : Hid (∀ j, j < k + 1 → 1 ≤ j → (sizeW f j 1 : Int) ≤ W) := hide (fun j h1 h2 => by
            by_cases e : j = k
            · subst e; rw [Hs.out]; exact hsW
            · exact HK.out j (by omega) h2)
          go_wp2_with fail
          refine hc.mono ?_
          rintro e w2 ⟨rfl, rfl⟩
          go_wp2_with fail
          go_roundg (N - (k + 1) + 1)
          case measure => have := HG.out; omega
          case rel => exact ⟨k + 1, by omega, by omega, rfl, HK2, by go_num, rfl⟩
        · have d4 : decide (W < (s : Int)) = true := decide_eq_true (by omega)
          have HE : Hid (errT X W = 14) := hide (HEW.out (fun h => hsW (by rw [← Hs.out]; exact h.2 k hkl hk1)))
          go_wp2_with fail
          refine hc.mono ?_
          rintro e w2 ⟨rfl, rfl⟩
          go_wp2_with fail
          go_ret
          exact ⟨by rw [HE.out]; rfl, rfl⟩
      · obtain rfl : N = k := by omega
        have HE : Hid (errT X W = 0) := hide (HEO.out ⟨H3.out, fun j h1 h2 => HK.out j h1 h2⟩)
        go_wp2_with fail
        go_ret
        exact ⟨by rw [HE.out]; rfl, rfl⟩
end Go.Proofs.Ytmjkhmebpciopaa
end

/- the text T15 -/
section
/- Chapter 15: the page of a layout; pages that a call builds of pages. -/
namespace Go.Proofs.Ytmjkhmebpciopaa
open Go.RowKit Go.Dx

/-- the lines from column k on, with a line without cells before each part but the first -/
def pageG (f : Nat → Nat) (X : List (List (List UInt8))) (n : Nat) (T : Nat → Nat) : Nat → Nat → List (List UInt8)
  | 0, _ => []
  | d + 1, k => if k < n then (if 1 < k then [[]] else []) ++ (linesL f X k (T k - k) ++ pageG f X n T d (T k)) else []
/-- the page of a layout -/
def pageT (f : Nat → Nat) (X : List (List (List UInt8))) (n : Nat) (T : Nat → Nat) : List (List UInt8) := if n = 1 then linesL f X 1 0 else pageG f X n T n 1
theorem pageG_more {f : Nat → Nat} {X : List (List (List UInt8))} {n : Nat} {T : Nat → Nat} (hT : ∀ k, 1 ≤ k → k < n → k < T k) : ∀ d d' k, 1 ≤ k → n - k ≤ d → n - k ≤ d' → pageG f X n T d k = pageG f X n T d' k := by
  intro d
  induction d with
  | zero =>
    intro d' k h1 h2 h3
    cases d' with
    | zero => rfl
    | succ d' => show [] = if k < n then _ else _; rw [if_neg (by omega)]
  | succ d ih =>
    intro d' k h1 h2 h3
    show (if k < n then (if 1 < k then [[]] else []) ++ (linesL f X k (T k - k) ++ pageG f X n T d (T k)) else []) = _
    cases d' with
    | zero => rw [if_neg (by omega)]; rfl
    | succ d' =>
      show _ = if k < n then (if 1 < k then [[]] else []) ++ (linesL f X k (T k - k) ++ pageG f X n T d' (T k)) else []
      by_cases hk : k < n
      · rw [if_pos hk, if_pos hk]
        have := hT k h1 hk
        rw [ih d' (T k) (by omega) (by omega) (by omega)]
      · rw [if_neg hk, if_neg hk]
theorem pageG_step {f : Nat → Nat} {X : List (List (List UInt8))} {n : Nat} {T : Nat → Nat} (hT : ∀ k, 1 ≤ k → k < n → k < T k) {k : Nat} (h1 : 1 ≤ k) (h2 : k < n) : pageG f X n T n k = (if 1 < k then [[]] else []) ++ (linesL f X k (T k - k) ++ pageG f X n T n (T k)) := by
  obtain ⟨d, rfl⟩ : ∃ d, n = d + 1 := ⟨n - 1, by omega⟩
  show (if k < d + 1 then (if 1 < k then [[]] else []) ++ (linesL f X k (T k - k) ++ pageG f X (d + 1) T d (T k)) else []) = _
  have := hT k h1 h2
  rw [if_pos h2, pageG_more hT d (d + 1) (T k) (by omega) (by omega) (by omega)]
theorem pageG_stop {f : Nat → Nat} {X : List (List (List UInt8))} {n : Nat} {T : Nat → Nat} : ∀ {d k : Nat}, ¬ k < n → pageG f X n T d k = []
  | 0, _, _ => rfl
  | _ + 1, _, h => if_neg h
theorem pageG_congr {f : Nat → Nat} {X : List (List (List UInt8))} {n : Nat} {T T' : Nat → Nat} (hT : ∀ k, 1 ≤ k → k < n → k < T k) (h : ∀ k, 1 ≤ k → k < n → T k = T' k) : ∀ d k, 1 ≤ k → pageG f X n T d k = pageG f X n T' d k := by
  intro d
  induction d with
  | zero => intro k _; rfl
  | succ d ih =>
    intro k h1
    show (if k < n then (if 1 < k then [[]] else []) ++ (linesL f X k (T k - k) ++ pageG f X n T d (T k)) else []) = if k < n then (if 1 < k then [[]] else []) ++ (linesL f X k (T' k - k) ++ pageG f X n T' d (T' k)) else []
    by_cases hk : k < n
    · rw [if_pos hk, if_pos hk, ← h k h1 hk]
      have := hT k h1 hk
      rw [ih (T k) (by omega)]
    · rw [if_neg hk, if_neg hk]
theorem linesL_len (f : Nat → Nat) (X : List (List (List UInt8))) (j m : Nat) : (linesL f X j m).length = X.length := by unfold linesL; simp
theorem pageG_len {f : Nat → Nat} {X : List (List (List UInt8))} {n : Nat} {T : Nat → Nat} : ∀ d k, (pageG f X n T d k).length ≤ d * (X.length + 1)
  | 0, _ => by simp [pageG]
  | d + 1, k => by
    show (if k < n then (if 1 < k then [[]] else []) ++ (linesL f X k (T k - k) ++ pageG f X n T d (T k)) else []).length ≤ _
    rw [Nat.succ_mul]
    by_cases h : k < n
    · have := pageG_len (f := f) (X := X) (n := n) (T := T) d (T k)
      rw [if_pos h, List.length_append, List.length_append, linesL_len]
      by_cases h1 : 1 < k
      · rw [if_pos h1]; simp; omega
      · rw [if_neg h1]; simp; omega
    · rw [if_neg h]; simp

theorem OPage.kept {w w' : World} {row : Option Nat} {B : Nat} {a : Option Addr} {c : Nat} {hs : List Hd} {p : List (List UInt8)} (h : OPage w B a c hs p) (hg : w.grownBy w' row)
    (h1 : ∀ q, a = some q → some q.block ≠ row) (h2 : ∀ (i : Nat) (x : Hd) (q : Addr), hs[i]? = some x → x.1 = some q → some q.block ≠ row) : OPage w' B a c hs p :=
  ⟨h.top.kept hg h1, h.len, fun i x r hx hr => (h.row i x r hx hr).kept hg fun q hq => h2 i x q hx hq⟩
theorem OPage.row_own {w : World} {B : Nat} {a : Option Addr} {c : Nat} {hs : List Hd} {p : List (List UInt8)} (h : OPage w B a c hs p) {i : Nat} {x : Hd} (hx : hs[i]? = some x) : ∃ r, Own w B 5 1 x.1 x.2.1 x.2.2 (List.map B8 r) := by
  have hi : i < p.length := by rw [← h.len]; exact (List.getElem?_eq_some_iff.1 hx).1
  exact ⟨p[i], h.row i x p[i] hx (by simp [hi])⟩
/-- an owned page and an owned slice of ints that grows -/
theorem OPage.ints {w w' : World} {B B' : Nat} {a b : Option Addr} {c n' c' : Nat} {hs : List Hd} {p : List (List UInt8)} {xs : List Value} (h : OPage w B a c hs p) (ho : Own w B' 3 1 b n' c' xs) (hg : w.grownBy w' (b.map (·.block))) : OPage w' B a c hs p := by
  refine h.kept hg (fun q hq e => ?_) (fun i x q hx hq e => ?_)
  · have h1 := h.top
    cases hb : b with
    | none => rw [hb] at e; cases e
    | some t =>
      rw [hb] at ho e
      rw [hq] at h1
      exact own_ne h1 ho (by decide) (by simpa using e)
  · obtain ⟨r, h1⟩ := h.row_own hx
    cases hb : b with
    | none => rw [hb] at e; cases e
    | some t =>
      rw [hb] at ho e
      rw [hq] at h1
      exact own_ne h1 ho (by decide) (by simpa using e)
/-- an owned slice of ints and an owned page whose top grows -/
theorem Own.page {w w' : World} {B B' : Nat} {a b : Option Addr} {c n' c' : Nat} {hs : List Hd} {p : List (List UInt8)} {xs : List Value} (ho : Own w B' 3 1 b n' c' xs) (h : OPage w B a c hs p) (hg : w.grownBy w' (a.map (·.block))) : Own w' B' 3 1 b n' c' xs := by
  refine ho.kept hg fun q hq e => ?_
  have h1 := h.top
  cases ha : a with
  | none => rw [ha] at e; cases e
  | some t =>
    rw [ha] at h1 e
    rw [hq] at ho
    exact own_ne ho h1 (by decide) (by simpa using e)
/-- a cell is stored below what the page owns -/
theorem OPage.far {w : World} {B : Nat} {a : Option Addr} {c : Nat} {hs : List Hd} {p : List (List UInt8)} (h : OPage w B a c hs p) {q : Addr} (hq : q.block < B) (v : Value) : OPage (w.setCell q v) B a c hs p := by
  refine ⟨h.top.set_other (fun t ht => ?_) v, h.len, fun i x r hx hr => (h.row i x r hx hr).set_other (fun t ht => ?_) v⟩
  · have h1 := h.top
    rw [ht] at h1
    have := h1.base.1
    omega
  · have h1 := h.row i x r hx hr
    rw [ht] at h1
    have := h1.base.1
    omega
theorem Own.far {w : World} {B : Nat} {e : TypeId} {a : Option Addr} {n c sz : Nat} {xs : List Value} (h : Own w B e sz a n c xs) {q : Addr} (hq : q.block < B) (v : Value) : Own (w.setCell q v) B e sz a n c xs :=
  h.set_other (fun t ht => by
    rw [ht] at h
    have := h.base.1
    omega) v
theorem OPage.over {w w' : World} {g : Nat} {a : Option Addr} {c : Nat} {hs : List Hd} {p : List (List UInt8)} (h : OPage w (g + 1) a c hs p) (hg : w.grownBy w' (some g)) : OPage w' (g + 1) a c hs p :=
  h.kept hg (fun q hq e => by
    have h1 := h.top
    rw [hq] at h1
    have h2 := h1.base.1
    have h3 : q.block = g := by simpa using e
    omega) (fun i x q hx hq e => by
    obtain ⟨r, h1⟩ := h.row_own hx
    rw [hq] at h1
    have h2 := h1.base.1
    have h3 : q.block = g := by simpa using e
    omega)
theorem own_over {w w' : World} {g : Nat} {e : TypeId} {a : Option Addr} {n c sz : Nat} {xs : List Value} (h : Own w (g + 1) e sz a n c xs) (hg : w.grownBy w' (some g)) : Own w' (g + 1) e sz a n c xs :=
  h.kept hg fun q hq e => by
    rw [hq] at h
    have h2 := h.base.1
    have h3 : q.block = g := by simpa using e
    omega
theorem size_ints : (Try.prog.info? 22).map (·.size) = some 1 := by kernel_rfl
theorem OPage.cat {w w' : World} {B : Nat} {a a2 a' : Option Addr} {c c2 c' : Nat} {hs hs2 : List Hd} {p p2 : List (List UInt8)} (h : OPage w B a c hs p) (h2 : OPage w B a2 c2 hs2 p2)
    (ht : Own w' B 47 1 a' (p.length + p2.length) c' (hs.map hv ++ hs2.map hv)) (hg : w.grownBy w' (a.map (·.block))) : OPage w' B a' c' (hs ++ hs2) (p ++ p2) := by
  have key : ∀ (y : Hd) (s : List UInt8), Own w B 5 1 y.1 y.2.1 y.2.2 (s.map B8) → Own w' B 5 1 y.1 y.2.1 y.2.2 (s.map B8) := by
    intro y s hy
    refine hy.kept hg fun q hq => ?_
    cases a with
    | none => simp
    | some t =>
      have ho := h.top
      rw [hq] at hy
      have := own_ne hy ho (by decide)
      simpa using this
  refine ⟨by rw [List.length_append, List.map_append]; exact ht, by simp [h.len, h2.len], ?_⟩
  intro i y s h1 h3
  rw [List.getElem?_append] at h1 h3
  by_cases hi : i < hs.length
  · rw [if_pos hi] at h1
    rw [if_pos (by rw [← h.len]; exact hi)] at h3
    exact key y s (h.row i y s h1 h3)
  · rw [if_neg hi] at h1
    rw [if_neg (by rw [← h.len]; exact hi)] at h3
    rw [← h.len] at h3
    exact key y s (h2.row _ y s h1 h3)
section
variable {w : World} {ops : Array Oper} {rest : List Oper} {o : Oper} {act : Act} {Q : Exit → Act → World → Prop}
/-- 'append(p, q...)' on pages -/
theorem app_pp (hg : o.guard = none) (s x : Operand) (hop : o.op = Op.call { callee := Callee.builtin Builtin.append, args := #[s, x], argTypes := #[29, 29] })
    (w0 : World) (B : Nat) (a : Option Addr) (n c : Nat) (hs : List Hd) (p : List (List UInt8)) (hn0 : p.length = n) (hes : act.eval s = .slice a n c) (hown : OPage w B a c hs p)
    (a2 : Option Addr) (m c2 : Nat) (hs2 : List Hd) (p2 : List (List UInt8)) (hm0 : p2.length = m) (hex : act.eval x = .slice a2 m c2) (hown2 : OPage w B a2 c2 hs2 p2)
    (hn : (n + m) * 24 ≤ 140737488355328) (hB : B ≤ w.heap.size) (hbel : Below B w0 w)
    (hK : ∀ a' c' w', OPage w' B a' c' (hs ++ hs2) (p ++ p2) → w.grownBy w' (a.map (·.block)) → Below B w0 w' → wpList Try.prog ops Q rest (act.put o.dst (.slice a' (n + m) c')) w') :
    wpList Try.prog ops Q (o :: rest) act w := by
  subst hn0 hm0
  refine append_own hg s x 29 hop 47 (.slice none 0 0) 1 24 Try.underlying29 info_row rfl w0 B a _ c _ hes hown.top a2 _ c2 _ hex hown2.top.sl (one_map _ (fun _ => rfl) _) hn (by unfold maxLen; omega) hB hbel ?_
  intro a' c' w' ho hgr hb
  exact hK a' c' w' (hown.cat hown2 ho hgr) hgr hb
/-- 'append(p, nil)' on a page -/
theorem app_pn (hg : o.guard = none) (s x : Operand) (hop : o.op = Op.call { callee := Callee.builtin Builtin.append, args := #[s, x], argTypes := #[29, 29] })
    (w0 : World) (B : Nat) (a : Option Addr) (n c : Nat) (hs : List Hd) (p : List (List UInt8)) (hn0 : p.length = n) (hes : act.eval s = .slice a n c) (hown : OPage w B a c hs p)
    (hx : act.eval x = .slice (some ⟨w.heap.size, 0, none⟩) 1 1)
    (hn : (n + 1) * 24 ≤ 140737488355328) (hB : B ≤ w.heap.size) (hbel : Below B w0 w)
    (hK : ∀ a' c' w', OPage w' B a' c' (hs ++ [(none, 0, 0)]) (p ++ [[]]) → (w.alloc (.cells #[.slice none 0 0] 47)).grownBy w' (a.map (·.block)) → Below B w0 w' → wpList Try.prog ops Q rest (act.put o.dst (.slice a' (n + 1) c')) w') :
    wpList Try.prog ops Q (o :: rest) act (w.alloc (.cells #[.slice none 0 0] 47)) := by
  subst hn0
  have hb1 := blo w (.cells #[.slice none 0 0] 47)
  have h1 := hown.below hb1
  refine append_own hg s x 29 hop 47 (.slice none 0 0) 1 24 Try.underlying29 info_row rfl w0 B a _ c _ hes h1.top _ 1 1 [.slice none 0 0] hx (Sl.fresh w 47 1 1 [.slice none 0 0] rfl (by decide)) (by simp [Value.oneCell']) hn (by unfold maxLen; omega) (Nat.le_trans hB hb1.size) (hbel.trans (hb1.mono hB)) ?_
  intro a' c' w' ho hgr hb
  refine hK a' c' w' (h1.push (x := (none, 0, 0)) (r := []) (Own.nil _ _ _ _) ho hgr) hgr hb
end
section
variable {P : Program} {w : World}
/-- three results, the second in memory -/
theorem results_cell3 {fn : Func} {tmps : Array Value} {t t1 t2 : Tmp} {ty e : TypeId} {g : Nat} {cs : List Value} {v1 v2 : Value} (hr : fn.results = #[.tmp t1, .cell t ty, .tmp t2]) (h1 : tmps.getD t1 undef = v1) (ht : tmps.getD t undef = .pointer (some ⟨g, 0, none⟩)) (h2 : tmps.getD t2 undef = v2) (hag : IsAgg P ty) (hsz : (P.info? ty).map (·.size) = some cs.length)
    (hb : Box w g e cs) : (results fn tmps).run P w = .ok (.tuple #[v1, .agg cs.toArray, v2]) w := by
  have hl := run_loadVar_box (P := P) (off := 0) hag hsz hb (fun j u hj => by rw [Nat.zero_add]; exact hj)
  have hta : tmps[t1]?.getD undef = v1 := by rw [← h1]; simp
  have ht2 : tmps[t]?.getD undef = .pointer (some ⟨g, 0, none⟩) := by rw [← ht]; simp
  have ht3 : tmps[t2]?.getD undef = v2 := by rw [← h2]; simp
  simp only [results, hr]
  simp [hta, ht2, ht3, asAddr, hl]
end
theorem isAgg_rcert : IsAgg Try.prog 35 := .inr ⟨_, Try.underlying35⟩
theorem size_rcert (x y : Value) : (Try.prog.info? 35).map (·.size) = some [x, y].length := by kernel_rfl
theorem isAgg_tcert : IsAgg Try.prog 31 := .inr ⟨_, Try.underlying31⟩
theorem size_tcert (x y : Value) : (Try.prog.info? 31).map (·.size) = some [x, y].length := by kernel_rfl
/-- What a layout hands back: the page, the certificate, the error. -/
def GivesLay (P : List (List UInt8)) (F Ls : List Nat) (x : Int) (w : World) (r : Ending) (w' : World) : Prop :=
  ∃ ap cp hs a1 c1 a2 c2, r = .returned (.tuple #[.slice ap P.length cp, .agg #[.slice a1 F.length c1, .slice a2 Ls.length c2], .int .i64 x]) ∧ Pg w' ap P.length cp hs P ∧ Sl w' 1 a1 F.length c1 ((ints F).map I64) ∧ Sl w' 1 a2 Ls.length c2 ((ints Ls).map I64) ∧ Below w.heap.size w w'
/-- all of it lies in blocks of these types -/
structure KindLay (w : World) (ap : Option Addr) (hs : List Hd) (a1 a2 : Option Addr) : Prop where
  pg : KindOf 47 w ap
  row : ∀ (i : Nat) (x : Hd), hs[i]? = some x → KindOf 5 w x.1
  f : KindOf 3 w a1
  l : KindOf 3 w a2
theorem KindLay.nil (w : World) : KindLay w none [] none none := ⟨KindOf.none _ _, (fun _ _ h => by cases h), KindOf.none _ _, KindOf.none _ _⟩
theorem OPage.kinds {w : World} {B : Nat} {a : Option Addr} {c : Nat} {hs : List Hd} {p : List (List UInt8)} (h : OPage w B a c hs p) {a1 a2 : Option Addr} (h1 : KindOf 3 w a1) (h2 : KindOf 3 w a2) : KindLay w a hs a1 a2 :=
  ⟨KindOf.own h.top, (fun i x hx => by obtain ⟨r, h3⟩ := h.row_own hx; exact KindOf.own h3), h1, h2⟩
/-- What a layout hands back, with the types of its blocks. -/
def GivesLayN (P : List (List UInt8)) (F Ls : List Nat) (x : Int) (w : World) (r : Ending) (w' : World) : Prop :=
  ∃ ap cp hs a1 c1 a2 c2, r = .returned (.tuple #[.slice ap P.length cp, .agg #[.slice a1 F.length c1, .slice a2 Ls.length c2], .int .i64 x]) ∧ Pg w' ap P.length cp hs P ∧ Sl w' 1 a1 F.length c1 ((ints F).map I64) ∧ Sl w' 1 a2 Ls.length c2 ((ints Ls).map I64) ∧ Below w.heap.size w w' ∧ KindLay w' ap hs a1 a2
theorem GivesLay.of {P : List (List UInt8)} {F Ls : List Nat} {x : Int} {w : World} (r : Ending) (w' : World) (h : GivesLayN P F Ls x w r w') : GivesLay P F Ls x w r w' := by
  obtain ⟨ap, cp, hs, a1, c1, a2, c2, h1, h2, h3, h4, h5, _⟩ := h
  exact ⟨ap, cp, hs, a1, c1, a2, c2, h1, h2, h3, h4, h5⟩
end Go.Proofs.Ytmjkhmebpciopaa
end
