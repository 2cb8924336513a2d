/- Round trips of strings and lists. No Go. -/
import Derived.Test.YtalicdpocgomkaaDoorPure5
namespace Go.Dx

/-- a decoder reads back what its encoder wrote, whatever follows -/
def Round {α : Type} (P : α → Prop) (f : List UInt8 → α × Int × Int) (enc : α → List UInt8) : Prop :=
  ∀ x t, P x → f (enc x ++ t) = (x, (((enc x).length : Nat) : Int), 0) ∧ 1 ≤ (enc x).length
theorem round_int : Round (fun x => -9223372036854775808 ≤ x ∧ x ≤ 9223372036854775807) decInt encInt := fun x t h => ⟨decInt_enc h.1 h.2 t, encInt_pos x⟩
theorem cnt_round {N : Nat} (hN : N ≤ 9223372036854775807) {size : Int} (h1 : 1 ≤ size) {r : List UInt8} (hr : N * size.toNat ≤ r.length) : cntErr (encInt (N : Int) ++ r) size = 0 := by
  have hd := decInt_enc (n := (N : Int)) (by omega) (by omega) r
  unfold cntErr
  rw [hd, if_neg (by simp), if_neg (by simp only; omega), if_neg]
  simp only
  rw [List.length_append]
  obtain ⟨S, rfl⟩ := Int.eq_ofNat_of_zero_le (a := size) (by omega)
  simp only [Int.toNat_natCast] at hr
  intro h
  have h2 : ¬ (N : Int) ≤ (((encInt (N : Int)).length + r.length : Nat) - ((encInt (N : Int)).length : Int) : Int) / (S : Int) := by omega
  apply h2
  rw [Int.le_ediv_iff_mul_le (by omega)]
  have h3 : ((N * S : Nat) : Int) = (N : Int) * (S : Int) := by simp
  rw [← h3]
  omega
theorem round_bytes : Round (fun s : ByteArray => s.size ≤ 9223372036854775807) decBytes (fun s => encBytes s.data.toList) := fun s t hs => by
  have hl : s.data.toList.length = s.size := Array.length_toList
  refine ⟨?_, ?_⟩
  · have e : encBytes s.data.toList ++ t = encInt (s.size : Int) ++ (s.data.toList ++ t) := by unfold encBytes; rw [hl, List.append_assoc]
    have hc : cntErr (encInt (s.size : Int) ++ (s.data.toList ++ t)) 1 = 0 := cnt_round hs (by omega) (by rw [List.length_append]; simp)
    have hd := decInt_enc (n := (s.size : Int)) (by omega) (by omega) (s.data.toList ++ t)
    simp only [e]
    unfold decBytes
    rw [if_pos hc, hd]
    simp only [Int.toNat_natCast]
    have e2 : (encInt (s.size : Int) ++ (s.data.toList ++ t)).drop (encInt (s.size : Int)).length = s.data.toList ++ t := List.drop_left
    have e3 : (s.data.toList ++ t).take s.size = s.data.toList := by rw [← hl]; exact List.take_left
    rw [e2, e3]
    unfold encBytes
    rw [hl, List.length_append, hl]
    simp
  · have := encInt_pos (s.data.toList.length : Int)
    unfold encBytes
    rw [List.length_append]
    omega
theorem seqTo_round {α : Type} {P : α → Prop} {f : List UInt8 → α × Int × Int} {enc : α → List UInt8} (hf : Round P f enc) (pre t : List UInt8) : ∀ (xs : List α), (∀ x ∈ xs, P x) →
    ∀ k, k ≤ xs.length → seqTo f (pre ++ (xs.flatMap enc ++ t)) pre.length k = (xs.take k, pre.length + ((xs.take k).flatMap enc).length, 0) := by
  intro xs hP k
  induction k with
  | zero => intro _; simp [seqTo]
  | succ k ih =>
    intro hk
    have h := ih (by omega)
    have hx : k < xs.length := by omega
    have hsplit : xs.flatMap enc = (xs.take k).flatMap enc ++ (enc xs[k] ++ (xs.drop (k + 1)).flatMap enc) := by
      conv => lhs; rw [← List.take_append_drop k xs, List.drop_eq_getElem_cons hx]
      rw [List.flatMap_append, List.flatMap_cons]
    have hd : (pre ++ (xs.flatMap enc ++ t)).drop (pre.length + ((xs.take k).flatMap enc).length) = enc xs[k] ++ ((xs.drop (k + 1)).flatMap enc ++ t) := by
      rw [List.drop_append, List.drop_of_length_le (by omega), List.nil_append, Nat.add_sub_cancel_left, hsplit, List.append_assoc, List.drop_left, List.append_assoc]
    have hr := (hf xs[k] ((xs.drop (k + 1)).flatMap enc ++ t) (hP _ (List.getElem_mem hx))).1
    rw [seqTo_step h (by rw [hd, hr]), hd, hr]
    have ht : xs.take (k + 1) = xs.take k ++ [xs[k]] := by rw [List.take_add_one, List.getElem?_eq_getElem hx]; rfl
    rw [ht, List.flatMap_append, List.length_append]
    simp [Nat.add_assoc]
theorem flatMap_ge {α : Type} {enc : α → List UInt8} : ∀ {xs : List α}, (∀ x ∈ xs, 1 ≤ (enc x).length) → xs.length ≤ (xs.flatMap enc).length
  | [], _ => by simp
  | x :: xs, h => by
    rw [List.flatMap_cons, List.length_append, List.length_cons]
    have := h x List.mem_cons_self
    have := flatMap_ge (xs := xs) fun y hy => h y (List.mem_cons_of_mem _ hy)
    omega
theorem decSeq_round {α : Type} {P : α → Prop} {f : List UInt8 → α × Int × Int} {enc : α → List UInt8} (hf : Round P f enc) (xs : List α) (hP : ∀ x ∈ xs, P x) (hN : xs.length ≤ 9223372036854775807) (t : List UInt8) :
    decSeq f ((encInt (xs.length : Int) ++ xs.flatMap enc) ++ t) = (xs, (((encInt (xs.length : Int) ++ xs.flatMap enc).length : Nat) : Int), 0) := by
  have hge : xs.length ≤ (xs.flatMap enc).length := flatMap_ge fun x hx => (hf x [] (hP x hx)).2
  have hd := decInt_enc (n := (xs.length : Int)) (by omega) (by omega) (xs.flatMap enc ++ t)
  have hc : cntErr (encInt (xs.length : Int) ++ (xs.flatMap enc ++ t)) 1 = 0 := cnt_round hN (by omega) (by rw [List.length_append, show ((1 : Int).toNat) = 1 from rfl]; omega)
  have hs := seqTo_round hf (encInt (xs.length : Int)) t xs hP xs.length (Nat.le_refl _)
  rw [List.take_length] at hs
  rw [List.append_assoc, decSeq_ok hc (by rw [hd]) (by rw [hd]) hs, List.length_append]
end Go.Dx
