/- The contracts of the functions that the law reaches, joined into one text. -/
import Derived.Test.YtlpkicjijlcbfaaBaseCF
set_option linter.unusedVariables false
set_option linter.unusedSimpArgs false

section
/- Chapter 08: follow. -/
namespace Go.Dx
open Go.RowKit
theorem Sl.keep0 {w w' : World} {row : Option Nat} {sz : Nat} {a : Option Addr} {n c : Nat} {cs : List Value} (h : Sl w sz a n c cs) (hb : w.grownBy w' row) (hr : 0 < cs.length → ∀ p, a = some p → some p.block ≠ row) : Sl w' sz a n c cs := by
 by_cases h0 : 0 < cs.length
 ·exact h.grown hb (hr h0)
 ·obtain rfl : cs = [] := List.length_eq_zero_iff.1 (by omega)
  exact ⟨h.len, h.le, h.cap, h.nil, fun q hq j u hj => by simp at hj⟩
def GivesFo (t : Ta) (l : List Sy) (cells : List UInt8) (taken : List Int) (e : Ending) (w : World) : Prop :=
 ∃ a n c, e = .returned (.tuple #[.slice a n c, .bool (followF t l taken 0 s00 cells).isSome]) ∧ ∀ P, followF t l taken 0 s00 cells = some P → Sl w 1 a n c (P.map I64)
theorem follow_end {t : Ta} {l : List Sy} {i : Nat} {s : St} {r : List UInt8} : followF t l [] i s r = if i = l.length ∧ r = [] then some [] else none := rfl
theorem follow_past {t : Ta} {l : List Sy} {k : Int} {ks : List Int} {i : Nat} {s : St} {r : List UInt8} (h : l.length ≤ i) : followF t l (k :: ks) i s r = none := by
 simp only [followF]; rw [if_pos h]
theorem follow_neg {t : Ta} {l : List Sy} {k : Int} {ks : List Int} {i : Nat} {s : St} {r : List UInt8} (h : k < 0) : followF t l (k :: ks) i s r = none := by
 simp only [followF]; rw [if_pos h]; split <;> rfl
theorem follow_out {t : Ta} {l : List Sy} {k : Int} {ks : List Int} {i : Nat} {s : St} {r : List UInt8} (h : (stepsL t s l i).length ≤ k.toNat) : followF t l (k :: ks) i s r = none := by
 simp only [followF]
 split
 ·rfl
 ·split
  ·rfl
  ·rw [List.getElem?_eq_none h]
theorem follow_ne {t : Ta} {l : List Sy} {k : Int} {ks : List Int} {i : Nat} {s : St} {r : List UInt8} {x : Stp} (hx : (stepsL t s l i)[k.toNat]? = some x) (h : x.cells ≠ r.take x.cells.length) : followF t l (k :: ks) i s r = none := by
 simp only [followF]
 split
 ·rfl
 ·split
  ·rfl
  ·rw [hx]; simp only; rw [if_neg h]
theorem follow_go {t : Ta} {l : List Sy} {k : Int} {ks : List Int} {i : Nat} {s : St} {r : List UInt8} {x : Stp} (hi : i < l.length) (h0 : 0 ≤ k) (hx : (stepsL t s l i)[k.toNat]? = some x) (h : x.cells = r.take x.cells.length) :
  followF t l (k :: ks) i s r = (followF t l ks (i + x.len.toNat) x.dst (r.drop x.cells.length)).map (List.replicate x.cells.length (i : Int) ++ ·) := by
 simp only [followF]
 rw [if_neg (by omega), if_neg (by omega), hx]
 simp only
 rw [if_pos h]
end Go.Dx
namespace Go.Proofs.Ytlpkicjijlcbfaa
open Go.RowKit Go.Dx Go.Al
set_option maxRecDepth 100000 in
set_option maxHeartbeats 8000000 in
theorem con_follow (H : TH) (t : Ta) (l : List Sy) (a : Option Addr) (n c : Nat) (cells : List UInt8) (taken : List Int) (ea ta la : Option Addr) (en ec tn tc ln_ lc : Nat) (w : World) (hT : TaIs w H t) (hs : Sl w 2 a n c (l.flatMap sc)) (hE : Sl w 1 ea en ec (cells.map B8)) (hK : Sl w 1 ta tn tc (taken.map I64))
  (hv : validE t = 0) (hg : goodS l = true) (h2 : l.length ≤ 2048) (hce : cells.length ≤ 1000000) :
  Calls Try.prog 55 #[H.v, .slice a n c, .agg #[.slice ea en ec, .slice ta tn tc, .slice la ln_ lc]] w fun e w' => GivesFo t l cells taken e w' ∧ Below w.heap.size w w' := by
 have HV := hide hv
 have HG := hide hg
 have H2 := hide h2
 have HCE := hide hce
 have Hm := hide hT
 have Hs := hide hs
 have He := hide hE
 have Hk := hide hK
 clear hv hg h2 hce hT hs hE hK
 obtain ⟨⟨a0, n0, c0⟩, ⟨a1, n1, c1⟩, ps0, ps1, ⟨ad, nd, cd⟩, ⟨ac, nc, cc⟩, ⟨an, nn, cn⟩, ⟨af, nf, cf⟩, ⟨aw, nw, cw⟩⟩ := H
 unfold TH.v
 simp only [hdv]
 have Y1 := ((Box.new w 29 #[.slice a0 n0 c0, .slice a1 n1 c1, .slice ad nd cd, .slice ac nc cc, .slice an nn cn, .slice af nf cf, .slice aw nw cw]).alloc (.cells #[.slice ea en ec, .slice ta tn tc, .slice la ln_ lc] 39))
 have Y2 := Box.new (w.alloc (.cells #[.slice a0 n0 c0, .slice a1 n1 c1, .slice ad nd cd, .slice ac nc cc, .slice an nn cn, .slice af nf cf, .slice aw nw cw] 29)) 39 #[.slice ea en ec, .slice ta tn tc, .slice la ln_ lc]
 have hba := ((Below.refl w.heap.size w).alloc (Nat.le_refl _) (.cells #[.slice a0 n0 c0, .slice a1 n1 c1, .slice ad nd cd, .slice ac nc cc, .slice an nn cn, .slice af nf cf, .slice aw nw cw] 29)).alloc (by simp) (.cells #[.slice ea en ec, .slice ta tn tc, .slice la ln_ lc] 39)
 simp only [World.size_alloc] at Y2
 go_enter Try.func55, Try.ntmps55
 go_upto_region 1 with fail
 generalize (w.alloc (.cells _ 29)).alloc (.cells _ 39) = w2 at *
 obtain ⟨H, hH⟩ : ∃ H : TH, H = ⟨(a0, n0, c0), (a1, n1, c1), ps0, ps1, (ad, nd, cd), (ac, nc, cc), (an, nn, cn), (af, nf, cf), (aw, nw, cw)⟩ := ⟨_, rfl⟩
 have HX2 : Box w2 w.heap.size 29 (tcells H) := by rw [hH]; exact Y1
 have HT2 : TaIs w2 H t := by rw [hH]; exact Hm.out.below hba
 have HS2 := Hs.out.below hba
 have HE2 := He.out.below hba
 have HK2 := hide (Hk.out.below hba)
 clear hH Hm Hs He Hk Y1
 obtain ⟨gT, hgT⟩ : ∃ gT, Hid (w.heap.size = gT) := ⟨_, hide rfl⟩
 obtain ⟨gC, hgC⟩ : ∃ gC, Hid (w.heap.size + 1 = gC) := ⟨_, hide rfl⟩
 rw [hgC.out] at Y2 ⊢
 rw [hgT.out] at HX2 ⊢
 have hbl2 := hide hba
 clear hba
 have y0 : w2.cell? ⟨gC, 0, none⟩ = some (.slice ea en ec) := Y2.at_ rfl
 have y1 : w2.cell? ⟨gC, 1, none⟩ = some (.slice ta tn tc) := Y2.at_ rfl
 have HBs := Box.new w2 63 #[.int .i64 0, .bool false, .bool false]
 have hbB := blo w2 (.cells #[.int .i64 0, .bool false, .bool false] 63)
 go_upto_region 3 with fail
 generalize hw3 : w2.alloc (.cells _ 63) = w3 at *
 have hs3 : w3.heap.size = w2.heap.size + 1 := by rw [← hw3]; simp
 have z0 := cell_below y0 hbB
 have z1 := cell_below y1 hbB
 clear y0 y1 hw3
 obtain ⟨gS, hgS⟩ : ∃ gS, Hid (w2.heap.size = gS) := ⟨_, hide rfl⟩
 rw [hgS.out] at HBs hbB hs3 ⊢
 have hgTS : gT < gS := by rw [← hgS.out]; exact HX2.lt
 have hgCS : gC < gS := by rw [← hgS.out]; exact Y2.lt
 have hgwS : w.heap.size ≤ gS := by rw [← hgS.out]; exact hbl2.out.size
 have HS3 := hide hs3
 clear hs3 Y2
 have hnl : n = l.length := HS2.nf sc_len (by decide)
 have HNL := hide hnl
 clear hnl
 have hn20 : n ≤ 2048 := by have := H2.out; have := HNL.out; omega
 have htn : tn = taken.length := HK2.out.n_eq
 have HTN := hide htn
 clear htn
 have htm := Nat.le_trans HK2.out.le HK2.out.cap
 unfold maxLen at htm
 have hen : en = cells.length := HE2.n_eq
 have hen6 : en ≤ 1000000 := by have := HCE.out; omega
 have HEF : Hid (0 < cells.length → ∀ q, ea = some q → q.block < gS) := hide (fun h0 q hq => by
  obtain ⟨b, o, hab, hb, _⟩ := HE2.ex (by rw [List.length_map]; exact h0)
  rw [hq] at hab
  injection hab with hab
  subst hab
  rw [← hgS.out]; exact hb)
 have HE3 : Sl w3 1 ea en ec (cells.map B8) := HE2.below (by rw [hgS.out]; exact hbB)
 clear hen HE2
 go_wp2_with fail
 clear z0 z1
 go_loopg [8, 10, 11, 20] tn (fun gh v8 v10 v11 v20 w' => ∃ (j i : Nat) (s : St) (o3 : Option Addr) (n3 c3 : Nat) (P : List Int) (ra : Option Addr) (rn rc : Nat) (r : List UInt8), j ≤ tn ∧ gh = tn - j ∧ v20 = .int .i64 (j : Int) ∧ v10 = .int .i64 (i : Int) ∧ v8 = .slice o3 n3 c3 ∧ v11 = .slice ra rn rc ∧ i ≤ n ∧ (s.lang = 0 ∨ s.lang = 1) ∧ Go.Dx.Own w' (gS + 1) 3 1 o3 n3 c3 (P.map I64) ∧ Sl w' 1 ra rn rc (r.map B8) ∧ (0 < r.length → ∀ q, ra = some q → q.block < gS) ∧ Box w' gS 63 (scells s) ∧ Below gS w2 w' ∧ gS + 1 ≤ w'.heap.size ∧ n3 + rn ≤ 1000000 ∧ followF t l taken 0 s00 cells = (followF t l (taken.drop j) i s r).map (P ++ ·))
 case atStart => exact ⟨0, 0, s00, none, 0, 0, [], ea, en, ec, cells, Nat.zero_le _, rfl, rfl, rfl, rfl, rfl, Nat.zero_le _, .inl rfl, Go.Dx.Own.nil _ _ _ _, HE3, HEF.out, HBs, hbB, by rw [HS3.out]; exact Nat.le_refl _, by omega, by simp⟩
 case round =>
  clear HBs hbB HE3
  obtain ⟨j, i, s, o3, n3, c3, P, ra, rn, rc, r, hj, hgh, rfl, rfl, rfl, rfl, hi, hsl, hO, hR, hrf, hX, hb, hBw, hbd, hpl⟩ := hrel
  have HGH := hide hgh
  have HBD := hide hbd
  have HPL := hide hpl
  have HRF := hide hrf
  clear hgh hbd hpl hrf
  by_cases hjn : j < tn
  ·have d0 : decide ((j : Int) < (tn : Int)) = true := decide_eq_true (by omega)
   have hb' : Below w2.heap.size w2 wr := by rw [hgS.out]; exact hb
   have hKr := HK2.out.below hb'
   obtain ⟨k, hk⟩ : ∃ k, taken[j]? = some k := ⟨_, List.getElem?_eq_getElem (by have := HTN.out; omega)⟩
   have hdr : taken.drop j = k :: taken.drop (j + 1) := by
    rw [List.drop_eq_getElem_cons (by have := HTN.out; omega)]
    congr 1
    exact (List.getElem?_eq_some_iff.1 hk).2
   have hpl := HPL.out
   rw [hdr] at hpl
   have HPL' := hide hpl
   clear HPL hpl hdr
   go_upto_region 8 with (with_reducible refine idx_i 22 _ _ ta tn tc taken rfl hKr .i64 _ j rfl rfl k hk ?_; intro bI oI hcI hbI)
   clear hcI hKr
   by_cases hin : i < n
   ·have d1 : decide ((i : Int) ≥ (n : Int)) = false := decide_eq_false (by omega)
    have d1' : decide ((n : Int) ≤ (i : Int)) = false := decide_eq_false (by omega)
    have HXr : Box wr gT 29 (tcells H) := HX2.below hb hgTS
    have HTr := HT2.below hb'
    have HSr := HS2.below hb'
    have hinl : i < l.length := by have := HNL.out; omega
    have hsN := steps_ofT H t s l (i : Int) (L := stepsL t s l i) rfl a n c (by have := H2.out; omega) wr HTr HSr
    obtain ⟨L, hL⟩ : ∃ L, Hid (stepsL t s l i = L) := ⟨_, hide rfl⟩
    rw [hL.out] at hsN
    have HSN := hide hsN
    clear hsN hk
    go_upto_region 11 with (first
     | (with_reducible refine load_struct 28 29 _ 7 size_tables _ Try.underlying29 ⟨gT, 0, none⟩ rfl (tcells H) rfl (fun j u hj => by rw [Addr.add_lit, Nat.zero_add]; exact HXr.at_ hj) ?_)
     | (with_reducible refine load_struct 29 63 _ 3 size_state _ Try.underlying63 ⟨gS, 0, none⟩ rfl (scells s) rfl (fun j u hj => by rw [Addr.add_lit, Nat.zero_add]; exact hX.at_ hj) ?_)
     | (go_at_call 28; refine HSN.out.mono ?_; rintro e w5 ⟨a2, c2, ps2, rfl, hS5, hb5, hty5⟩))
    have hX5 := hX.under hb5
    have hO5 := hO.below hb5
    have hR5 := hR.below hb5
    have hb25 := hb.trans (hb5.mono (by omega))
    have hB5 : gS + 1 ≤ w5.heap.size := Nat.le_trans hBw hb5.size
    clear HXr HTr HSr HSN hX hO hR hb hb' hBw hb5
    obtain ⟨LN, hLN⟩ : ∃ LN, L.length = LN := ⟨_, rfl⟩
    rw [hLN] at hS5 ⊢
    have hLN6 : LN ≤ 1000000 := by rw [← hLN, ← hL.out]; exact steps_few HV.out s l i
    have HLN := hide hLN
    clear hLN
    have hrl : rn = r.length := hR5.n_eq
    have HRL := hide hrl
    clear hrl
    by_cases hk0 : k < 0
    ·have d2 : decide (k < 0) = true := decide_eq_true hk0
     have e1 := HPL'.out
     rw [follow_neg hk0, Option.map_none] at e1
     have HE1 := hide e1
     clear e1 hS5 hty5
     go_quiet (fail)
     go_wp2_with fail
     go_ret2
     exact ⟨⟨none, 0, 0, by rw [HE1.out]; rfl, fun Q hq => by rw [HE1.out] at hq; cases hq⟩, hbl2.out.trans ((hb25.trans ((Still.below nq : Below w5.heap.size w5 (w5.drewN nq)).mono (by omega))).mono hgwS)⟩
    ·have d2 : decide (k < 0) = false := decide_eq_false hk0
     obtain ⟨q, rfl⟩ : ∃ q : Nat, k = (q : Int) := ⟨k.toNat, by omega⟩
     by_cases hqn : LN ≤ q
     ·have d3 : decide ((LN : Int) ≤ (q : Int)) = true := decide_eq_true (by omega)
      have d3' : decide ((q : Int) ≥ (LN : Int)) = true := decide_eq_true (by omega)
      have e1 := HPL'.out
      rw [follow_out (by rw [hL.out, HLN.out]; exact hqn), Option.map_none] at e1
      have HE1 := hide e1
      clear e1 hS5 hty5
      go_quiet (fail)
      go_wp2_with fail
      go_ret2
      exact ⟨⟨none, 0, 0, by rw [HE1.out]; rfl, fun Q hq => by rw [HE1.out] at hq; cases hq⟩, hbl2.out.trans ((hb25.trans ((Still.below nq : Below w5.heap.size w5 (w5.drewN nq)).mono (by omega))).mono hgwS)⟩
     ·have d3 : decide ((LN : Int) ≤ (q : Int)) = false := decide_eq_false (by omega)
      have d3' : decide ((q : Int) ≥ (LN : Int)) = false := decide_eq_false (by omega)
      have hkLN : q < LN := by omega
      have hqn2 : decide (q < LN) = true := decide_eq_true hkLN
      obtain ⟨p, hpk⟩ : ∃ p, ps2[q]? = some p := ⟨_, List.getElem?_eq_getElem (by have := congrArg List.length hS5.eq; rw [List.length_map] at this; have := HLN.out; omega)⟩
      have hkx : (stepsL t s l i)[(q : Int).toNat]? = some p.1 := by rw [hL.out, ← hS5.eq, Int.toNat_natCast, List.getElem?_map, hpk]; rfl
      have hxm : p.1 ∈ stepsL t s l i := List.mem_of_getElem? hkx
      have hst := step_meas HV.out HG.out hinl hsl hxm
      have hcf := step_cells HV.out hxm
      have HKX := hide hkx
      clear hkx hxm
      obtain ⟨b4, o4, hab, hb4', x0, x1, x2, x3, x4, x5⟩ := st_cells hS5 hpk
      subst hab
      have hslc := hS5.row p (List.mem_of_getElem? hpk)
      have hpn := hslc.n_eq
      obtain ⟨⟨⟨sl, sn, si⟩, ln, cs, ru⟩, ⟨qa, qn, qc⟩⟩ := p
      simp only at x0 x1 x2 x3 x4 x5 hslc hpn hst hcf
      obtain ⟨lk, rfl⟩ : ∃ lk : Nat, ln = (lk : Int) := ⟨ln.toNat, by have := hst.2.2.2; omega⟩
      simp only [Int.toNat_natCast] at hst
      have HCF := hide hcf
      have HST := hide hst
      have hqn12 : qn ≤ 12 := by omega
      have hil : i + lk ≤ n := by have := HNL.out; omega
      have HPN := hide hpn
      clear hpn hcf hst hpk
      by_cases hlt : rn < qn
      ·have d4 : decide ((rn : Int) < (qn : Int)) = true := decide_eq_true (by omega)
       have e1 := HPL'.out
       rw [follow_ne HKX.out (fun e => by have e2 := congrArg List.length e; rw [List.length_take] at e2; simp only at e2; have := HPN.out; have := HRL.out; omega), Option.map_none] at e1
       have HE1 := hide e1
       clear e1 hS5 hty5 HKX
       go_quiet (fail)
       go_wp2_with fail
       go_ret2
       exact ⟨⟨none, 0, 0, by rw [HE1.out]; rfl, fun Q hq => by rw [HE1.out] at hq; cases hq⟩, hbl2.out.trans ((hb25.trans ((Still.below nq : Below w5.heap.size w5 (w5.drewN nq)).mono (by omega))).mono hgwS)⟩
      ·have d4 : decide ((rn : Int) < (qn : Int)) = false := decide_eq_false (by omega)
       have hrc : qn ≤ rc := Nat.le_trans (by omega) hR5.le
       have hSm := hide (fun m => eq_bytes (r.take qn) cs ra qa qn qn rc qc (w5.drewN m) (by have h := (hR5.take qn (by omega)).below (Still.below m); rw [← List.map_take] at h; exact h) (hslc.below (Still.below m)))
       by_cases hce : r.take qn = cs
       ·rw [decide_eq_true hce] at hSm
        have hSq : ∀ m, Calls Try.prog 77 #[.slice ra qn rc, .slice qa qn qc] (w5.drewN m) fun e w'' => e = .returned (.bool true) ∧ ∃ m', w'' = w5.drewN m' := fun m => Calls.quiet_of (hSm.out m)
        clear hSm
        go_quiet ((go_at_call 77; exact hSq _))
        clear hSq
        have hgo := follow_go (ks := taken.drop (j + 1)) hinl (by omega : (0 : Int) ≤ (q : Int)) HKX.out (show cs = r.take cs.length by rw [← HPN.out]; exact hce.symm)
        simp only [Int.toNat_natCast] at hgo
        have HGO := hide hgo
        clear hgo hce HKX
        obtain ⟨CT, CZ, hCT⟩ := hty5 _ rfl
        have hq6 : Below w5.heap.size w5 (w5.drewN nq) := Still.below nq
        have hX6 := hX5.under hq6
        have hO6 := hO5.below hq6
        have hR6 := hR5.below hq6
        have hb26 := hb25.trans (hq6.mono (by omega))
        have hB6 : gS + 1 ≤ (w5.drewN nq).heap.size := Nat.le_trans hB5 hq6.size
        have hCT6 : (w5.drewN nq).heap[b4]? = some (.cells CT 67 CZ) := (hq6.block b4 hb4').trans hCT
        have hldc : ∀ j u, ([.int .i64 sl, .bool sn, .bool si, .int .i64 (lk : Int), .slice qa qn qc, .int .i64 ru] : List Value)[j]? = some u → (w5.drewN nq).cell? ((⟨b4, o4 + q * 6, none⟩ : Addr).add j) = some u := fun j u hj => by
         rw [Addr.add_lit]
         refine cell_below ?_ hq6
         match j, hj with
         | 0, hj => cases hj; exact x0
         | 1, hj => cases hj; exact x1
         | 2, hj => cases hj; exact x2
         | 3, hj => cases hj; exact x3
         | 4, hj => cases hj; exact x4
         | 5, hj => cases hj; exact x5
         | j + 6, hj => cases hj
        have HL6 := hide hldc
        have x4' : (w5.drewN nq).cell? ⟨b4, o4 + q * 6 + 4, none⟩ = some (.slice qa qn qc) := cell_below x4 hq6
        clear hX5 hO5 hR5 hb25 hB5 hS5 hty5 hslc x0 x1 x2 x3 x4 x5 hldc hq6 hCT
        generalize w5.drewN nq = w6 at *
        go_wp2_with (with_reducible refine index_rowk 71 64 _ _ 67 Try.underlying64 6 size_stp6 b4 o4 LN c2 rfl _ _ q rfl rfl hkLN ?_)
        go_loopg [8, 75] qn (fun gh v8 v75 w' => ∃ (z : Nat) (o4' : Option Addr) (c4 : Nat), z ≤ qn ∧ gh = qn - z ∧ v75 = .int .i64 (z : Int) ∧ v8 = .slice o4' (n3 + z) c4 ∧ Go.Dx.Own w' (gS + 1) 3 1 o4' (n3 + z) c4 ((P ++ List.replicate z (i : Int)).map I64) ∧ Sl w' 1 ra rn rc (r.map B8) ∧ Box w' gS 63 (scells s) ∧ Below gS w2 w' ∧ gS + 1 ≤ w'.heap.size ∧ w'.heap[b4]? = some (.cells CT 67 CZ) ∧ (∀ j u, ([.int .i64 sl, .bool sn, .bool si, .int .i64 (lk : Int), .slice qa qn qc, .int .i64 ru] : List Value)[j]? = some u → w'.cell? ((⟨b4, o4 + q * 6, none⟩ : Addr).add j) = some u))
        case atStart => exact ⟨0, o3, c3, Nat.zero_le _, rfl, rfl, rfl, by simpa using hO6, hR6, hX6, hb26, hB6, hCT6, HL6.out⟩
        case round =>
         clear hO6 hR6 hX6 hb26 hB6 hCT6 HL6 x4'
         obtain ⟨z, o4', c4, hz, hgh, rfl, rfl, hO, hR, hX, hb, hBw, hCT, hld⟩ := hrel
         have HGZ := hide hgh
         have HLD := hide hld
         clear hgh hld
         by_cases hzq : z < qn
         ·have d5 : decide ((z : Int) < (qn : Int)) = true := decide_eq_true (by omega)
          have hn6 : n3 + z ≤ 2000000 := by have := HBD.out; omega
          go_wp2_with (at_builtin; refine app_i rfl _ _ rfl wr (gS + 1) o4' (n3 + z) c4 _ rfl hO (i : Int) rfl (by omega) hBw (Below.refl _ _) ?_; intro a7 c7 w7 hO7 gb7 hb7; refine hold ?_)
          refine hide ?_
          have hne : some b4 ≠ o4'.map (·.block) := own_blk hO hCT (by decide)
          have hX7 := hX.grown gb7 (own_lt hO (Nat.lt_succ_self _))
          have hb27 := hb.grown gb7 (by omega) (fun q hq => by have := own_ge hO q hq; omega)
          have hB7 : gS + 1 ≤ w7.heap.size := Nat.le_trans hBw gb7.size
          have hC7 := (gb7.block b4 (Array.getElem?_eq_some_iff.1 hCT).1 hne).trans hCT
          have hR7 : Sl w7 1 ra rn rc (r.map B8) := Sl.keep0 hR gb7 (fun h0 p hp e => by
           rw [List.length_map] at h0
           have h1 := HRF.out h0 p hp
           have h2 := own_ge hO p.block e.symm
           omega)
          have hld7 : ∀ j u, ([.int .i64 sl, .bool sn, .bool si, .int .i64 (lk : Int), .slice qa qn qc, .int .i64 ru] : List Value)[j]? = some u → w7.cell? ((⟨b4, o4 + q * 6, none⟩ : Addr).add j) = some u := fun j u hj => by
           rw [World.cell?_of_block (w := wr) (gb7.block _ (World.block_lt_of_cell? wr _ (HLD.out j u hj)) (by rw [Addr.add_lit]; exact hne))]
           exact HLD.out j u hj
          have HL7 := hide hld7
          clear hld7 HLD hO hR hX hb hBw hCT gb7 hb7 hne
          go_wp2_with fail
          go_roundg (qn - (z + 1))
          case measure => have := HGZ.out; omega
          case rel => exact ⟨z + 1, a7, c7, by omega, rfl, by go_num, by rw [← Nat.add_assoc], by rw [← Nat.add_assoc, List.replicate_succ', ← List.append_assoc, List.map_append]; exact hO7, hR7, hX7, hb27, hB7, hC7, HL7.out⟩
         ·obtain rfl : z = qn := by omega
          have d5 : decide ((z : Int) < (z : Int)) = false := decide_eq_false (by omega)
          have HCL := hide hCT
          have x4 : wr.cell? ⟨b4, o4 + q * 6 + 4, none⟩ = some (.slice qa z qc) := by have h := HLD.out 4 _ rfl; rw [Addr.add_lit] at h; exact h
          have hzr : z ≤ rn := by omega
          go_wp2_with (first
           | (with_reducible refine index_rowk 85 64 _ _ 67 Try.underlying64 6 size_stp6 b4 o4 LN c2 rfl _ _ q rfl rfl hkLN ?_)
           | (with_reducible refine cutlo_b 89 _ _ ra rn rc r rfl hR .i64 _ z rfl rfl hzr ?_; intro ra' hR' hrq; refine hold ?_))
          refine hide ?_
          have HRF' : Hid (0 < (r.drop z).length → ∀ q, ra' = some q → q.block < gS) := hide (fun h0 q hq => by
           obtain ⟨q0, h1, h2⟩ := hrq q hq
           rw [← h2]
           exact HRF.out (by rw [List.length_drop] at h0; omega) q0 h1)
          have hlc : wr.cell? ⟨b4, o4 + q * 6 + 3, none⟩ = some (.int .i64 (lk : Int)) := by have h := HLD.out 3 _ rfl; rw [Addr.add_lit] at h; exact h
          have HL6 := HLD
          clear hR hrq x4 hCT HLD
          go_wp2_with fail
          have st3_at6 : ∀ {j : Nat} {u : Value}, ([.int .i64 sl, .bool sn, .bool si] : List Value)[j]? = some u → ([.int .i64 sl, .bool sn, .bool si, .int .i64 (lk : Int), .slice qa z qc, .int .i64 ru] : List Value)[j]? = some u := fun {j} {u} hj => by
           match j, hj with
           | 0, hj => exact hj
           | 1, hj => exact hj
           | 2, hj => exact hj
          refine wp_region_freeL 13 [⟨0, 90, [90], fun vs _ => vs = [.int .i64 (i : Int)]⟩, ⟨1, 91, [91], fun vs _ => vs = [.slice (some ⟨b4, o4, none⟩) LN c2]⟩, ⟨2, 92, [92], fun vs _ => vs = [.int .i64 (q : Int)]⟩, ⟨3, 93, [93], fun vs _ => vs = [.pointer (some ⟨b4, o4 + q * 6, none⟩)]⟩, ⟨4, 94, [94], fun vs _ => vs = [.pointer (some ⟨b4, o4 + q * 6 + 3, none⟩)]⟩, ⟨5, 95, [95], fun vs _ => vs = [.int .i64 (lk : Int)]⟩, ⟨6, 96, [96], fun vs _ => vs = [.int .i64 ((i + lk : Nat) : Int)]⟩, ⟨7, 97, [97], fun vs _ => vs = [.slice (some ⟨b4, o4, none⟩) LN c2]⟩, ⟨8, 98, [98], fun vs _ => vs = [.int .i64 (q : Int)]⟩, ⟨9, 99, [99], fun vs _ => vs = [.pointer (some ⟨b4, o4 + q * 6, none⟩)]⟩, ⟨10, 100, [100], fun vs _ => vs = [.pointer (some ⟨b4, o4 + q * 6, none⟩)]⟩, ⟨11, 101, [101], fun vs _ => vs = [.agg #[.int .i64 sl, .bool sn, .bool si]]⟩, ⟨12, 10, [10], fun vs _ => vs = [.int .i64 ((i + lk : Nat) : Int)]⟩] (by kernel_rfl) (by kernel_rfl) ?_ ?_ ?_
          ·simp only [All]
           refine ⟨fun _ _ _ _ h => h, fun _ _ _ _ h => h, fun _ _ _ _ h => h, fun _ _ _ _ h => h, fun _ _ _ _ h => h, fun _ _ _ _ h => h, fun _ _ _ _ h => h, fun _ _ _ _ h => h, fun _ _ _ _ h => h, fun _ _ _ _ h => h, fun _ _ _ _ h => h, fun _ _ _ _ h => h, fun _ _ _ _ h => h, trivial⟩
          ·simp only [All]
           refine ⟨?_, ?_, ?_, ?_, ?_, ?_, ?_, ?_, ?_, ?_, ?_, ?_, ?_, trivial⟩
           ·intro o ho a' w' hb hfr hdep hlt; obtain rfl := oj ho
            have g10 : a'.tmps[10]?.getD undef = .int .i64 (i : Int) := by have h := hlt 12 _ rfl (by kernel_rfl); simpa using h
            clear ho hfr hdep hlt; go_wp2_with fail; exact ⟨rfl, _, rfl, br, rfl⟩
           ·intro o ho a' w' hb hfr hdep hlt; obtain rfl := oj ho
            have g14 : a'.tmps[14]?.getD undef = .slice (some ⟨b4, o4, none⟩) LN c2 := by simpa using hfr 14 (by kernel_rfl)
            clear ho hfr hdep hlt; go_wp2_with fail; exact ⟨rfl, _, rfl, br, rfl⟩
           ·intro o ho a' w' hb hfr hdep hlt; obtain rfl := oj ho
            have g13 : a'.tmps[13]?.getD undef = .int .i64 (q : Int) := by simpa using hfr 13 (by kernel_rfl)
            clear ho hfr hdep hlt; go_wp2_with fail; exact ⟨rfl, _, rfl, br, rfl⟩
           ·intro o ho a' w' hb hfr hdep hlt; obtain rfl := oj ho
            have g91 : a'.tmps[91]?.getD undef = .slice (some ⟨b4, o4, none⟩) LN c2 := by simpa using hdep 1 _ rfl (by kernel_rfl)
            have g92 : a'.tmps[92]?.getD undef = .int .i64 (q : Int) := by simpa using hdep 2 _ rfl (by kernel_rfl)
            clear ho hfr hdep hlt; refine index_rowk 93 64 _ _ 67 Try.underlying64 6 size_stp6 b4 o4 LN c2 (by show a'.tmps.getD 91 undef = _; simpa using g91) _ _ q (by show a'.tmps.getD 92 undef = _; simpa using g92) rfl hkLN ?_
            exact ⟨rfl, _, rfl, br, rfl⟩
           ·intro o ho a' w' hb hfr hdep hlt; obtain rfl := oj ho
            have g93 : a'.tmps[93]?.getD undef = .pointer (some ⟨b4, o4 + q * 6, none⟩) := by simpa using hdep 3 _ rfl (by kernel_rfl)
            clear ho hfr hdep hlt; go_wp2_with fail; exact ⟨rfl, _, rfl, br, rfl⟩
           ·intro o ho a' w' hb hfr hdep hlt; obtain rfl := oj ho
            have g94 : a'.tmps[94]?.getD undef = .pointer (some ⟨b4, o4 + q * 6 + 3, none⟩) := by simpa using hdep 4 _ rfl (by kernel_rfl)
            clear ho hfr hdep hlt; have hcl := cell_below hlc hb
            go_wp2_with fail; exact ⟨rfl, _, rfl, br, rfl⟩
           ·intro o ho a' w' hb hfr hdep hlt; obtain rfl := oj ho
            have g90 : a'.tmps[90]?.getD undef = .int .i64 (i : Int) := by simpa using hdep 0 _ rfl (by kernel_rfl)
            have g95 : a'.tmps[95]?.getD undef = .int .i64 (lk : Int) := by simpa using hdep 5 _ rfl (by kernel_rfl)
            clear ho hfr hdep hlt; go_wp2_with fail; exact ⟨rfl, _, rfl, br, by simp⟩
           ·intro o ho a' w' hb hfr hdep hlt; obtain rfl := oj ho
            have g14 : a'.tmps[14]?.getD undef = .slice (some ⟨b4, o4, none⟩) LN c2 := by simpa using hfr 14 (by kernel_rfl)
            clear ho hfr hdep hlt; go_wp2_with fail; exact ⟨rfl, _, rfl, br, rfl⟩
           ·intro o ho a' w' hb hfr hdep hlt; obtain rfl := oj ho
            have g13 : a'.tmps[13]?.getD undef = .int .i64 (q : Int) := by simpa using hfr 13 (by kernel_rfl)
            clear ho hfr hdep hlt; go_wp2_with fail; exact ⟨rfl, _, rfl, br, rfl⟩
           ·intro o ho a' w' hb hfr hdep hlt; obtain rfl := oj ho
            have g97 : a'.tmps[97]?.getD undef = .slice (some ⟨b4, o4, none⟩) LN c2 := by simpa using hdep 7 _ rfl (by kernel_rfl)
            have g98 : a'.tmps[98]?.getD undef = .int .i64 (q : Int) := by simpa using hdep 8 _ rfl (by kernel_rfl)
            clear ho hfr hdep hlt; refine index_rowk 99 64 _ _ 67 Try.underlying64 6 size_stp6 b4 o4 LN c2 (by show a'.tmps.getD 97 undef = _; simpa using g97) _ _ q (by show a'.tmps.getD 98 undef = _; simpa using g98) rfl hkLN ?_
            exact ⟨rfl, _, rfl, br, rfl⟩
           ·intro o ho a' w' hb hfr hdep hlt; obtain rfl := oj ho
            have g99 : a'.tmps[99]?.getD undef = .pointer (some ⟨b4, o4 + q * 6, none⟩) := by simpa using hdep 9 _ rfl (by kernel_rfl)
            clear ho hfr hdep hlt; go_wp2_with fail; exact ⟨rfl, _, rfl, br, rfl⟩
           ·intro o ho a' w' hb hfr hdep hlt; obtain rfl := oj ho
            have g100 : a'.tmps[100]?.getD undef = .pointer (some ⟨b4, o4 + q * 6, none⟩) := by simpa using hdep 10 _ rfl (by kernel_rfl)
            clear ho hfr hdep hlt; refine load_struct 101 63 _ 3 size_state _ Try.underlying63 ⟨b4, o4 + q * 6, none⟩ (by show a'.tmps.getD 100 undef = _; simpa using g100) [.int .i64 sl, .bool sn, .bool si] rfl (fun j u hj => cell_below (HL6.out j u (st3_at6 hj)) hb) ?_
            exact ⟨rfl, _, rfl, br, rfl⟩
           ·intro o ho a' w' hb hfr hdep hlt; obtain rfl := oj ho
            have g96 : a'.tmps[96]?.getD undef = .int .i64 ((i + lk : Nat) : Int) := by simpa using hdep 6 _ rfl (by kernel_rfl)
            clear ho hfr hdep hlt; go_wp2_with fail; exact ⟨rfl, _, rfl, br, rfl⟩
          ·intro gg w7 hbl hp'
           have p10 := hp' 12 _ rfl
           have p101 := hp' 11 _ rfl
           clear hp'
           simp at p10 p101
           simp only [List.drop_succ_cons, List.drop_zero, List.map_cons, List.map_nil, putAll, Act.put, List.setIfInBounds_toArray, List.set_cons_succ, List.set_cons_zero, List.cons_append, List.nil_append, p10, p101]
           clear p10 p101
           have hX7 := hX.under hbl
           have hO7 := hO.below hbl
           have hR7 := hR'.below hbl
           have hb27 := hb.trans (hbl.mono (by omega))
           have hB7 : gS + 1 ≤ w7.heap.size := Nat.le_trans hBw hbl.size
           clear hX hO hR' hb hBw hbl hlc HL6
           go_wp2_with (with_reducible refine hold_store ?_)
           refine hide ?_
           refine store_all 63 _ _ 63 gS (scells s) [.int .i64 sl, .bool sn, .bool si] (.agg #[.int .i64 sl, .bool sn, .bool si]) size_state hX7 rfl rfl rfl rfl (by simp [Value.oneCell']) ?_; intro w8 hX8 gb8 zb8
           have hO8 := hO7.kept gb8 (fun p hp => by subst hp; intro e; injection e with e; have := hO7.base.1; omega)
           have hR8 : Sl w8 1 ra' (rn - z) (rc - z) ((r.drop z).map B8) := Sl.keep0 hR7 gb8 (fun h0 p hp e => by
            rw [List.length_map] at h0
            have h1 := HRF'.out h0 p hp
            injection e with e
            omega)
           have hb28 := hb27.grown gb8 (by omega) (fun q hq => by cases hq; exact Nat.le_refl _)
           have hB8 : gS + 1 ≤ w8.heap.size := Nat.le_trans hB7 gb8.size
           go_wp2_with fail
           go_roundg (tn - (j + 1))
           case measure => have := HGH.out; omega
           case rel => exact ⟨j + 1, i + lk, ⟨sl, sn, si⟩, o4', n3 + z, c4, P ++ List.replicate z (i : Int), ra', rn - z, rc - z, r.drop z, by omega, rfl, by go_num, by go_num, rfl, rfl, hil, HST.out.2.2.1, hO8, hR8, HRF'.out, hX8, hb28, hB8, by have := HBD.out; omega, by rw [HPL'.out, HGO.out, Option.map_map, ← HPN.out]; congr 1; funext y; simp⟩

       ·rw [decide_eq_false hce] at hSm
        have e1 := HPL'.out
        rw [follow_ne HKX.out (fun e => hce (by have := HPN.out; simp only at e; rw [this]; exact e.symm)), Option.map_none] at e1
        have HE1 := hide e1
        clear e1 hS5 hty5 HKX hce
        have hSq : ∀ m, Calls Try.prog 77 #[.slice ra qn rc, .slice qa qn qc] (w5.drewN m) fun e w'' => e = .returned (.bool false) ∧ ∃ m', w'' = w5.drewN m' := fun m => Calls.quiet_of (hSm.out m)
        clear hSm
        go_quiet ((go_at_call 77; exact hSq _))
        go_wp2_with fail
        go_ret2
        exact ⟨⟨none, 0, 0, by rw [HE1.out]; rfl, fun Q hq => by rw [HE1.out] at hq; cases hq⟩, hbl2.out.trans ((hb25.trans ((Still.below nq : Below w5.heap.size w5 (w5.drewN nq)).mono (by omega))).mono hgwS)⟩
   ·have d1 : decide ((i : Int) ≥ (n : Int)) = true := decide_eq_true (by omega)
    have d1' : decide ((n : Int) ≤ (i : Int)) = true := decide_eq_true (by omega)
    have e1 := HPL'.out
    rw [follow_past (by have := HNL.out; omega), Option.map_none] at e1
    have HE1 := hide e1
    clear e1
    go_wp2_with fail
    go_ret2
    exact ⟨⟨none, 0, 0, by rw [HE1.out]; rfl, fun Q hq => by rw [HE1.out] at hq; cases hq⟩, hbl2.out.trans (hb.mono hgwS)⟩
  ·have d0 : decide ((j : Int) < (tn : Int)) = false := decide_eq_false (by omega)
   have e1 := HPL.out
   rw [List.drop_eq_nil_of_le (by have := HTN.out; omega), follow_end] at e1
   have HE1 := hide e1
   have hrl : rn = r.length := hR.n_eq
   have HRL := hide hrl
   clear e1 hrl
   by_cases hil : i = n
   ·have d1 : ((i : Int) == (n : Int)) = true := by simp [hil]
    by_cases hr0 : rn = 0
    ·have d2 : ((rn : Int) == 0) = true := by simp [hr0]
     have e1 := HE1.out
     rw [if_pos ⟨by have := HNL.out; omega, List.length_eq_zero_iff.1 (by have := HRL.out; omega)⟩] at e1
     simp only [Option.map_some, List.append_nil] at e1
     have HE2 := hide e1
     clear e1 HE1
     go_wp2_with fail
     go_ret2
     exact ⟨⟨o3, n3, c3, by rw [HE2.out]; rfl, fun Q hq => by rw [HE2.out] at hq; injection hq with hq; subst hq; exact hO.sl⟩, hbl2.out.trans (hb.mono hgwS)⟩
    ·have d2 : ((rn : Int) == 0) = false := by simp [hr0]
     have e1 := HE1.out
     rw [if_neg (fun h => hr0 (by have := HRL.out; rw [h.2] at this; simpa using this)), Option.map_none] at e1
     have HE2 := hide e1
     clear e1 HE1
     go_wp2_with fail
     go_ret2
     exact ⟨⟨o3, n3, c3, by rw [HE2.out]; rfl, fun Q hq => by rw [HE2.out] at hq; cases hq⟩, hbl2.out.trans (hb.mono hgwS)⟩
   ·have d1 : ((i : Int) == (n : Int)) = false := by simp; omega
    have e1 := HE1.out
    rw [if_neg (fun h => hil (by have := HNL.out; omega)), Option.map_none] at e1
    have HE2 := hide e1
    clear e1 HE1
    go_wp2_with fail
    go_ret2
    exact ⟨⟨o3, n3, c3, by rw [HE2.out]; rfl, fun Q hq => by rw [HE2.out] at hq; cases hq⟩, hbl2.out.trans (hb.mono hgwS)⟩
end Go.Proofs.Ytlpkicjijlcbfaa
end

section
/- Chapter 08: Spans, Check. -/
namespace Go.Dx
open Go.RowKit
def spE (t : Ta) (l : List Sy) (cells : List UInt8) (taken : List Int) : Int := if fitsE t l ≠ 0 then fitsE t l else if (followF t l taken 0 s00 cells).isSome = true then 0 else 19
def spP (t : Ta) (l : List Sy) (cells : List UInt8) (taken : List Int) : List Int := if fitsE t l ≠ 0 then [] else (followF t l taken 0 s00 cells).getD []
def GivesSp (t : Ta) (l : List Sy) (cells : List UInt8) (taken : List Int) (e : Ending) (w : World) : Prop :=
 ∃ a n c, e = .returned (.tuple #[.slice a n c, .int .i64 (spE t l cells taken)]) ∧ Sl w 1 a n c ((spP t l cells taken).map I64)
theorem nf_row {P Z : Nums} {r q : List Int} (hP : R8 P) (hr : r.length = 8) {k : Nat} (hk : P.length = k) (hq : q.length = 8) :
  ((P ++ q :: Z).flatMap rowc).take (k * 8) ++ rowc r ++ ((P ++ q :: Z).flatMap rowc).drop (k * 8 + (rowc r).length) = (P ++ r :: Z).flatMap rowc := by
 have h1 : (P.flatMap rowc).length = k * 8 := by rw [nf_len P hP, hk]
 have h2 : (rowc r).length = 8 := by unfold rowc; rw [List.length_map]; exact hr
 have h3 : (rowc q).length = 8 := by unfold rowc; rw [List.length_map]; exact hq
 have e1 : ((P ++ q :: Z).flatMap rowc).drop (k * 8 + 8) = Z.flatMap rowc := by
  rw [List.flatMap_append, List.flatMap_cons, ← List.append_assoc]
  exact List.drop_left' (by rw [List.length_append, h1, h3])
 have e2 : ((P ++ q :: Z).flatMap rowc).take (k * 8) = P.flatMap rowc := by
  rw [List.flatMap_append]
  exact List.take_left' h1
 rw [h2, e1, e2, List.flatMap_append, List.flatMap_cons, List.append_assoc]
theorem chE_bad {t : Ta} {l : List Sy} {cells : List UInt8} {taken : List Int} {A : Nums} (h0 : fitsE t l = 0) (h : ¬ (A = numT t l ∧ (followF t l taken 0 s00 cells).isSome = true ∧ (cells.length : Int) = numV t l)) : chE t l cells taken A = 19 := by
 unfold chE; rw [if_neg (by simp [h0]), if_neg h]
theorem chE_good {t : Ta} {l : List Sy} {cells : List UInt8} {taken : List Int} {A : Nums} (h0 : fitsE t l = 0) (h1 : A = numT t l) (h2 : (followF t l taken 0 s00 cells).isSome = true) (h3 : (cells.length : Int) = numV t l) : chE t l cells taken A = 0 := by
 unfold chE; rw [if_neg (by simp [h0]), if_pos ⟨h1, h2, h3⟩]
end Go.Dx
namespace Go.Proofs.Ytlpkicjijlcbfaa
open Go.RowKit Go.Dx Go.Al
set_option maxRecDepth 100000 in
set_option maxHeartbeats 4000000 in
theorem con_Spans (H : TH) (t : Ta) (l : List Sy) (a : Option Addr) (n c : Nat) (cells : List UInt8) (taken : List Int) (ea ta la : Option Addr) (en ec tn tc ln_ lc : Nat) (w : World) (hT : TaIs w H t) (hs : Sl w 2 a n c (l.flatMap sc)) (hE : Sl w 1 ea en ec (cells.map B8)) (hK : Sl w 1 ta tn tc (taken.map I64)) (hce : cells.length ≤ 1000000) :
  Calls Try.prog 34 #[H.v, .slice a n c, .agg #[.slice ea en ec, .slice ta tn tc, .slice la ln_ lc]] w fun e w' => GivesSp t l cells taken e w' ∧ Below w.heap.size w w' := by
 have Hm := hide hT
 have Hs := hide hs
 have He := hide hE
 have Hk := hide hK
 clear hT hs hE hK
 obtain ⟨⟨a0, n0, c0⟩, ⟨a1, n1, c1⟩, ps0, ps1, ⟨ad, nd, cd⟩, ⟨ac, nc, cc⟩, ⟨an, nn, cn⟩, ⟨af, nf, cf⟩, ⟨aw, nw, cw⟩⟩ := H
 unfold TH.v
 simp only [hdv]
 have Y1 := ((Box.new w 29 #[.slice a0 n0 c0, .slice a1 n1 c1, .slice ad nd cd, .slice ac nc cc, .slice an nn cn, .slice af nf cf, .slice aw nw cw]).alloc (.cells #[.slice ea en ec, .slice ta tn tc, .slice la ln_ lc] 39))
 have Y2 := Box.new (w.alloc (.cells #[.slice a0 n0 c0, .slice a1 n1 c1, .slice ad nd cd, .slice ac nc cc, .slice an nn cn, .slice af nf cf, .slice aw nw cw] 29)) 39 #[.slice ea en ec, .slice ta tn tc, .slice la ln_ lc]
 have hba := ((Below.refl w.heap.size w).alloc (Nat.le_refl _) (.cells #[.slice a0 n0 c0, .slice a1 n1 c1, .slice ad nd cd, .slice ac nc cc, .slice an nn cn, .slice af nf cf, .slice aw nw cw] 29)).alloc (by simp) (.cells #[.slice ea en ec, .slice ta tn tc, .slice la ln_ lc] 39)
 simp only [World.size_alloc] at Y2
 go_enter Try.func34, Try.ntmps34
 go_upto_region 1 with fail
 generalize (w.alloc (.cells _ 29)).alloc (.cells _ 39) = w2 at *
 obtain ⟨H, hH⟩ : ∃ H : TH, H = ⟨(a0, n0, c0), (a1, n1, c1), ps0, ps1, (ad, nd, cd), (ac, nc, cc), (an, nn, cn), (af, nf, cf), (aw, nw, cw)⟩ := ⟨_, rfl⟩
 have HX2 : Box w2 w.heap.size 29 (tcells H) := by rw [hH]; exact Y1
 have HT2 : TaIs w2 H t := by rw [hH]; exact Hm.out.below hba
 have HS2 := Hs.out.below hba
 have HE2 := He.out.below hba
 have HK2 := Hk.out.below hba
 have HC2 : Box w2 (w.heap.size + 1) 39 [.slice ea en ec, .slice ta tn tc, .slice la ln_ lc] := Y2
 clear hH Hm Hs He Hk Y1 Y2
 obtain ⟨gT, hgT⟩ : ∃ gT, Hid (w.heap.size = gT) := ⟨_, hide rfl⟩
 obtain ⟨gC, hgC⟩ : ∃ gC, Hid (w.heap.size + 1 = gC) := ⟨_, hide rfl⟩
 rw [hgC.out] at HC2 ⊢
 rw [hgT.out] at HX2 ⊢
 have hfit := hide (con_fits H t l a n c w2 HT2 HS2)
 obtain ⟨FE, hFE⟩ : ∃ FE, Hid (fitsE t l = FE) := ⟨_, hide rfl⟩
 rw [hFE.out] at hfit
 go_wp2_with (first
  | (with_reducible refine load_struct 11 29 _ 7 size_tables _ Try.underlying29 ⟨gT, 0, none⟩ rfl (tcells H) rfl (fun j u hj => by rw [Addr.add_lit, Nat.zero_add]; exact HX2.at_ hj) ?_)
  | (go_at_call 38; refine hfit.out.mono ?_; rintro e w3 ⟨rfl, hb3⟩; refine hold ?_))
 refine hide ?_
 have HX3 := HX2.under hb3
 have HC3 := HC2.under hb3
 have HT3 := HT2.below hb3
 have HS3 := HS2.below hb3
 have HE3 := HE2.below hb3
 have HK3 := HK2.below hb3
 have hbl3 := hba.trans (hb3.mono hba.size)
 clear HX2 HC2 HT2 HS2 HE2 HK2 hba hb3 hfit
 by_cases hfe : FE = 0
 ·subst hfe
  obtain ⟨hv, hg, h2048⟩ := fitsE_ok hFE.out
  have hfo := hide (con_follow H t l a n c cells taken ea ta la en ec tn tc ln_ lc w3 HT3 HS3 HE3 HK3 hv hg h2048 hce)
  clear hv hg h2048
  go_wp2_with (first
   | (with_reducible refine load_struct 18 29 _ 7 size_tables _ Try.underlying29 ⟨gT, 0, none⟩ rfl (tcells H) rfl (fun j u hj => by rw [Addr.add_lit, Nat.zero_add]; exact HX3.at_ hj) ?_)
   | (with_reducible refine load_struct 20 39 _ 3 size_cert _ Try.underlying39 ⟨gC, 0, none⟩ rfl [.slice ea en ec, .slice ta tn tc, .slice la ln_ lc] rfl (fun j u hj => by rw [Addr.add_lit, Nat.zero_add]; exact HC3.at_ hj) ?_)
   | (go_at_call 55; refine hfo.out.mono ?_; rintro e w4 ⟨⟨a4, n4, c4, rfl, hP4⟩, hb4⟩; refine hold ?_))
  refine hide ?_
  have hbl4 := hbl3.trans (hb4.mono hbl3.size)
  obtain ⟨FO, hFO⟩ : ∃ FO, Hid (followF t l taken 0 s00 cells = FO) := ⟨_, hide rfl⟩
  rw [hFO.out] at hP4 ⊢
  have HP4 := hide hP4
  clear hP4 hfo
  cases FO with
  | none =>
   simp only [Option.isSome_none]
   go_wp2_with fail
   go_ret2
   exact ⟨⟨none, 0, 0, by unfold spE; rw [hFE.out, hFO.out]; rfl, by unfold spP; rw [hFE.out, hFO.out]; exact Sl.empty _ _⟩, hbl4⟩
  | some P =>
   simp only [Option.isSome_some]
   go_wp2_with fail
   go_ret2
   exact ⟨⟨a4, n4, c4, by unfold spE; rw [hFE.out, hFO.out]; rfl, by unfold spP; rw [hFE.out, hFO.out]; exact HP4.out P rfl⟩, hbl4⟩
 ·have d1 : (FE == 0) = false := by simp [hfe]
  go_wp2_with fail
  go_ret2
  exact ⟨⟨none, 0, 0, by unfold spE; rw [hFE.out, if_pos hfe]; rfl, by unfold spP; rw [hFE.out, if_pos hfe]; exact Sl.empty _ _⟩, hbl3⟩
set_option maxRecDepth 100000 in
set_option maxHeartbeats 16000000 in
theorem con_Check (H : TH) (t : Ta) (l : List Sy) (a : Option Addr) (n c : Nat) (cells : List UInt8) (taken : List Int) (A : Nums) (hsA : List (Option Addr × Nat × Nat)) (ea ta la : Option Addr) (en ec tn tc ln_ lc : Nat) (w : World) (hT : TaIs w H t) (hs : Sl w 2 a n c (l.flatMap sc)) (hE : Sl w 1 ea en ec (cells.map B8)) (hK : Sl w 1 ta tn tc (taken.map I64)) (hL : Ng w la ln_ lc hsA A)
  (hce : cells.length ≤ 1000000) (hAB : BdN A 1000000) :
  Calls Try.prog 27 #[H.v, .slice a n c, .agg #[.slice ea en ec, .slice ta tn tc, .slice la ln_ lc]] w fun e w' => e = .returned (.int .i64 (chE t l cells taken A)) ∧ Below w.heap.size w w' := by
 have Hl := hide hL
 have HAB := hide hAB
 clear hL hAB
 have Hm := hide hT
 have Hs := hide hs
 have He := hide hE
 have Hk := hide hK
 clear hT hs hE hK
 obtain ⟨⟨a0, n0, c0⟩, ⟨a1, n1, c1⟩, ps0, ps1, ⟨ad, nd, cd⟩, ⟨ac, nc, cc⟩, ⟨an, nn, cn⟩, ⟨af, nf, cf⟩, ⟨aw, nw, cw⟩⟩ := H
 unfold TH.v
 simp only [hdv]
 have Y1 := ((Box.new w 29 #[.slice a0 n0 c0, .slice a1 n1 c1, .slice ad nd cd, .slice ac nc cc, .slice an nn cn, .slice af nf cf, .slice aw nw cw]).alloc (.cells #[.slice ea en ec, .slice ta tn tc, .slice la ln_ lc] 39))
 have Y2 := Box.new (w.alloc (.cells #[.slice a0 n0 c0, .slice a1 n1 c1, .slice ad nd cd, .slice ac nc cc, .slice an nn cn, .slice af nf cf, .slice aw nw cw] 29)) 39 #[.slice ea en ec, .slice ta tn tc, .slice la ln_ lc]
 have hba := ((Below.refl w.heap.size w).alloc (Nat.le_refl _) (.cells #[.slice a0 n0 c0, .slice a1 n1 c1, .slice ad nd cd, .slice ac nc cc, .slice an nn cn, .slice af nf cf, .slice aw nw cw] 29)).alloc (by simp) (.cells #[.slice ea en ec, .slice ta tn tc, .slice la ln_ lc] 39)
 simp only [World.size_alloc] at Y2
 go_enter Try.func27, Try.ntmps27
 go_upto_region 1 with fail
 generalize (w.alloc (.cells _ 29)).alloc (.cells _ 39) = w2 at *
 obtain ⟨H, hH⟩ : ∃ H : TH, H = ⟨(a0, n0, c0), (a1, n1, c1), ps0, ps1, (ad, nd, cd), (ac, nc, cc), (an, nn, cn), (af, nf, cf), (aw, nw, cw)⟩ := ⟨_, rfl⟩
 have HX2 : Box w2 w.heap.size 29 (tcells H) := by rw [hH]; exact Y1
 have HT2 : TaIs w2 H t := by rw [hH]; exact Hm.out.below hba
 have HS2 := Hs.out.below hba
 have HE2 := He.out.below hba
 have HK2 := Hk.out.below hba
 have HC2 : Box w2 (w.heap.size + 1) 39 [.slice ea en ec, .slice ta tn tc, .slice la ln_ lc] := Y2
 clear hH Hm Hs He Hk Y1 Y2
 obtain ⟨gT, hgT⟩ : ∃ gT, Hid (w.heap.size = gT) := ⟨_, hide rfl⟩
 obtain ⟨gC, hgC⟩ : ∃ gC, Hid (w.heap.size + 1 = gC) := ⟨_, hide rfl⟩
 rw [hgC.out] at HC2 ⊢
 rw [hgT.out] at HX2 ⊢
 have hfit := hide (con_fits H t l a n c w2 HT2 HS2)
 obtain ⟨FE, hFE⟩ : ∃ FE, Hid (fitsE t l = FE) := ⟨_, hide rfl⟩
 rw [hFE.out] at hfit
 have HL2 := Hl.out.below hba
 clear Hl
 go_wp2_with (first
  | (with_reducible refine load_struct 17 29 _ 7 size_tables _ Try.underlying29 ⟨gT, 0, none⟩ rfl (tcells H) rfl (fun j u hj => by rw [Addr.add_lit, Nat.zero_add]; exact HX2.at_ hj) ?_)
  | (go_at_call 38; refine hfit.out.mono ?_; rintro e w3 ⟨rfl, hb3⟩; refine hold ?_))
 refine hide ?_
 have HL3 := HL2.below hb3
 clear HL2
 have HX3 := HX2.under hb3
 have HC3 := HC2.under hb3
 have HT3 := HT2.below hb3
 have HS3 := HS2.below hb3
 have HE3 := HE2.below hb3
 have HK3 := HK2.below hb3
 have hbl3 := hba.trans (hb3.mono hba.size)
 clear HX2 HC2 HT2 HS2 HE2 HK2 hba hb3 hfit
 by_cases hfe : FE = 0
 ·subst hfe
  obtain ⟨hv, hg, h2048⟩ := fitsE_ok hFE.out
  have HV := hide hv
  have HG := hide hg
  have H2 := hide h2048
  have hnl : n = l.length := HS3.nf sc_len (by decide)
  have hn20 : n ≤ 2048 := by omega
  have HNL := hide hnl
  have hln : ln_ = A.length := HL3.n_eq
  have HLN := hide hln
  have y2 : w3.cell? ⟨gC, 2, none⟩ = some (.slice la ln_ lc) := HC3.at_ rfl
  clear hv hg h2048 hnl hln
  obtain ⟨N, hN⟩ : ∃ N, Hid (n + 1 = N) := ⟨_, hide rfl⟩
  have hNI : (n : Int) + 1 = (N : Int) := by have := hN.out; omega
  by_cases h1 : N = ln_
  ·subst h1
   obtain ⟨ln_, rfl⟩ : ∃ z : Nat, z = N := ⟨_, rfl⟩
   have d1 : ((ln_ : Int) != (ln_ : Int)) = false := by simp
   obtain ⟨b, hb⟩ : ∃ b : Bool, b = true ↔ ∃ r ∈ A, r.length ≠ 8 := ⟨A.any (fun r => decide (r.length ≠ 8)), by simp⟩
   have hbad := hide (con_bad A hsA la ln_ lc w3 HL3 b hb)
   unfold CH1 at hbad
   have HBI := hide hb
   clear hb
   cases b with
   | true =>
    have he : chE t l cells taken A = 19 := chE_bad hFE.out (fun h => by
     obtain ⟨r, h1, h2⟩ := HBI.out.1 rfl
     rw [h.1] at h1
     exact h2 (sufT_rows t l _ r h1))
    have HE := hide he
    clear he
    go_wp2_with (go_at_call 50; refine hbad.out.mono ?_; rintro e w4 ⟨rfl, hb4⟩; refine hold ?_)
    refine hide ?_
    have hbl4 := hbl3.trans (hb4.mono hbl3.size)
    clear hbad
    go_wp2_with fail
    go_ret
    exact ⟨by rw [HE.out]; rfl, hbl4⟩
   | false =>
    have hR8 : R8 A := fun r hr => Classical.byContradiction fun h => by
     have := HBI.out.2 ⟨r, hr, h⟩
     cases this
    have HR8 := hide hR8
    clear HBI hR8
    go_wp2_with (go_at_call 50; refine hbad.out.mono ?_; rintro e w4 ⟨rfl, hb4⟩; refine hold ?_)
    refine hide ?_
    have hbl4 := hbl3.trans (hb4.mono hbl3.size)
    have HX4 := HX3.under hb4
    have HC4 := HC3.under hb4
    have HT4 := HT3.below hb4
    have HS4 := HS3.below hb4
    have HE4 := HE3.below hb4
    have HK4 := HK3.below hb4
    have HL4 := HL3.below hb4
    have z2 := cell_below y2 hb4
    clear hbad hb4 hbl3 HX3 HC3 HT3 HS3 HE3 HK3 HL3 y2
    have hN6 : ln_ ≤ 2049 := by have := hN.out; omega
    clear d1
    go_wp2_with (first
     | (with_reducible refine make_wide 38 90 _ _ 93 row0 (.int .i64 0) 8 64 Try.underlying90 info_row8 rfl (by decide) row0_at .i64 .i64 _ _ ln_ rfl rfl rfl rfl (by omega) (by omega) ?_; intro w5 HA5 hb5; refine hold ?_))
    refine hide ?_
    obtain ⟨bA, hbA⟩ : ∃ bA, Hid (w4.heap.size = bA) := ⟨_, hide rfl⟩
    rw [hbA.out] at HA5 ⊢
    have hbA5 : bA < w5.heap.size := HA5.lt
    have hb5A : Below bA w4 w5 := by rw [← hbA.out]; exact hb5
    have z5 := cell_below z2 hb5
    have hgw4 : w.heap.size ≤ bA := by rw [← hbA.out]; exact hbl4.size
    have hgTA : gT < bA := by rw [← hbA.out]; exact HX4.lt
    have hgCA : gC < bA := by rw [← hbA.out]; exact HC4.lt
    clear hb5 z2
    go_wp2_with fail
    clear z5
    go_loopg [42] ln_ (fun gh v w' => ∃ k : Nat, k ≤ ln_ ∧ gh = ln_ - k ∧ v = .int .i64 (k : Int) ∧ Box w' bA 93 ((A.take k ++ List.replicate (ln_ - k) zeros).flatMap rowc) ∧ Below bA w4 w')
    case atStart =>
     refine ⟨0, Nat.zero_le _, rfl, rfl, ?_, hb5A⟩
     rw [List.take_zero, List.nil_append, Nat.sub_zero, nf_zero]
     exact HA5
    case round =>
     clear HA5 hb5A hbA5
     obtain ⟨k, hk, rfl, rfl, HBA, hb⟩ := hrel
     have hb' : Below w4.heap.size w4 wr := by rw [hbA.out]; exact hb
     by_cases hkn : k < ln_
     ·have d2 : decide ((k : Int) < (ln_ : Int)) = true := decide_eq_true (by omega)
      obtain ⟨r, hr⟩ : ∃ r, A[k]? = some r := ⟨_, List.getElem?_eq_getElem (by have := HLN.out; omega)⟩
      obtain ⟨⟨ha, hn_, hc⟩, hh⟩ : ∃ h, hsA[k]? = some h := ⟨_, List.getElem?_eq_getElem (by have := HLN.out; have := HL4.len; omega)⟩
      have hrow := HL4.row k _ r hh hr
      have hr8 := HR8.out r (List.mem_of_getElem? hr)
      obtain rfl : hn_ = 8 := by rw [← hr8]; exact hrow.n_eq
      have htop := HL4.top.below hb'
      have hcs : (hsA.map hdv)[k]? = some (.slice ha 8 hc) := by rw [List.getElem?_map, hh]; rfl
      obtain ⟨b8, o8, hab, hb8, hc8⟩ := (hrow.below hb').ex (by rw [List.length_map, hr8]; decide)
      simp only at hab hc8
      subst hab
      have hrl : (rowc r).length = 8 := by unfold rowc; rw [List.length_map]; exact hr8
      have hr1 : ∀ u ∈ rowc r, u.oneCell' = true := by unfold rowc; intro u hu; obtain ⟨v, _, rfl⟩ := List.mem_map.1 hu; rfl
      have hrc : ∀ (j : Nat) (u : Value), (rowc r)[j]? = some u → wr.cell? ((⟨b8, o8, none⟩ : Addr).add j) = some u := fun j u hj => by
       rw [Addr.add_lit]; exact hc8 j u hj
      have hob : (A.take k ++ List.replicate (ln_ - k) zeros).flatMap rowc = (A.take k ++ zeros :: List.replicate (ln_ - (k + 1)) zeros).flatMap rowc := by
       rw [show ln_ - k = (ln_ - (k + 1)) + 1 by omega, List.replicate_succ]
      have hP8 : R8 (A.take k) := fun q hq => HR8.out q (List.mem_of_mem_take hq)
      have hPl : (A.take k).length = k := by rw [List.length_take]; have := HLN.out; omega
      have hnf := nf_row (Z := List.replicate (ln_ - (k + 1)) zeros) hP8 hr8 hPl (show zeros.length = 8 from rfl)
      rw [hob] at HBA
      have hlen : k * 8 + (rowc r).length ≤ ((A.take k ++ zeros :: List.replicate (ln_ - (k + 1)) zeros).flatMap rowc).length := by
       rw [nf_len _ (fun q hq => by
        rcases List.mem_append.1 hq with h | h
        ·exact hP8 q h
        ·rcases List.mem_cons.1 h with h | h
         ·rw [h]; rfl
         ·rw [List.eq_of_mem_replicate h]; rfl), List.length_append, hPl, List.length_cons, hrl]
       omega
      have HNF := hide hnf
      have HLE := hide hlen
      have hsz8 : (Try.prog.info? 93).map (·.size) = some (rowc r).length := by rw [hrl]; exact size_row8
      have HSZ := hide hsz8
      have HRK := hide hr
      clear hob hnf hlen hsz8 hr hr8 hrow hh hc8
      go_wp2_with (first
       | (with_reducible refine idx_ii 45 _ _ la ln_ lc _ rfl htop _ _ k rfl rfl _ hcs ?_; intro b o hcell hbo)
       | (with_reducible refine to_array 50 93 _ 8 3 Try.underlying93 _ 8 hc rfl (Nat.le_refl _) ?_)
       | (with_reducible refine load_arr 51 93 _ 8 size_row8 8 3 Try.underlying93 ⟨b8, o8, none⟩ rfl (rowc r) hrl hrc ?_)
       | (with_reducible refine index_knownN 52 90 _ _ 93 Try.underlying90 8 size_row8 bA ln_ ln_ rfl _ _ k rfl rfl hkn ?_)
       | (with_reducible refine hold_store ?_))
      refine hide ?_
      refine store_box 93 _ _ 93 bA (k * 8) _ (rowc r) (.agg (rowc r).toArray) HSZ.out HBA rfl rfl rfl HLE.out hr1 ?_; intro w6 HB6 gb6 zb6
      rw [HNF.out] at HB6
      have hb6 := hb.grown gb6 (by have := hb.size; have := hbA.out; omega) (fun q hq => by cases hq; exact Nat.le_refl _)
      have HB6' : Hid (Box w6 bA 93 ((A.take (k + 1) ++ List.replicate (ln_ - (k + 1)) zeros).flatMap rowc)) := hide (by
       rw [List.take_add_one, HRK.out]
       simpa using HB6)
      clear HBA HB6 gb6 zb6 hb htop hcs hrc
      go_wp2_with fail
      go_roundg (ln_ - (k + 1))
      case measure => omega
      case rel => exact ⟨k + 1, by omega, rfl, by go_num, HB6'.out, hb6⟩
     ·obtain rfl : k = ln_ := by omega
      have d2 : decide ((k : Int) < (k : Int)) = false := decide_eq_false (by omega)
      have HBAA : Box wr bA 93 (A.flatMap rowc) := by
       rw [List.take_of_length_le (by have := HLN.out; omega), Nat.sub_self, List.replicate_zero, List.append_nil] at HBA
       exact HBA
      clear HBA
      have hbl6 := hbl4.trans (hb.mono hgw4)
      have HX6 := HX4.below hb hgTA
      have HC6 := HC4.below hb hgCA
      have HT6 := HT4.below hb'
      have HS6 := HS4.below hb'
      have HE6 := HE4.below hb'
      have HK6 := HK4.below hb'
      obtain ⟨w6, rfl⟩ : ∃ w' : World, w' = wr := ⟨_, rfl⟩
      clear HX4 HC4 HT4 HS4 HE4 HK4 HL4 hb hb' hbl4 hkn hk
      have hn1 : n < k := by have := hN.out; omega
      obtain ⟨q, hq⟩ : ∃ q, A[n]? = some q := ⟨_, List.getElem?_eq_getElem (by have := HLN.out; omega)⟩
      have hq8 := HR8.out q (List.mem_of_getElem? hq)
      have hql : (rowc q).length = 8 := by unfold rowc; rw [List.length_map]; exact hq8
      have hqc : ∀ (j : Nat) (u : Value), (rowc q)[j]? = some u → w6.cell? ((⟨bA, n * 8, none⟩ : Addr).add j) = some u := fun j u hj => by
       rw [Addr.add_lit]
       obtain ⟨v, hv, rfl⟩ : ∃ v, q[j]? = some v ∧ I64 v = u := by unfold rowc at hj; rw [List.getElem?_map] at hj; cases h : q[j]? with
        | none => rw [h] at hj; cases hj
        | some v => rw [h] at hj; injection hj with hj; exact ⟨v, rfl, hj⟩
       exact HBAA.at_ (nf_get A HR8.out hq hv)
      have hneq : ∀ w' : World, (binOp .neq 93 (.agg (rowc q).toArray) row0).run Try.prog w' = .ok (.bool (!decide (q = zeros))) w' := fun w' => run_neq_arr w' 93 3 8 .i64 Try.underlying93 Try.underlying3 size_int q zeros hq8 rfl
      unfold row0 at hneq
      have hlast : A.getD l.length [] = q := by rw [List.getD_eq_getElem?_getD, ← HNL.out, hq]; rfl
      have HLAST := hide hlast
      clear hq8 hq hlast
      obtain ⟨bz, hbz⟩ : ∃ bz, Hid (decide (q = zeros) = bz) := ⟨_, hide rfl⟩
      rw [hbz.out] at hneq
      cases bz with
      | false =>
       have he : chE t l cells taken A = 19 := chE_bad hFE.out (fun h => by
        have h1 := numT_last t l
        rw [← h.1, HLAST.out] at h1
        exact absurd h1 (of_decide_eq_false hbz.out))
       have HE := hide he
       clear he
       go_wp2_with (first
        | (with_reducible refine index_knownN 57 90 _ _ 93 Try.underlying90 8 size_row8 bA k k rfl _ _ n rfl rfl hn1 ?_)
        | (with_reducible refine load_arr 58 93 _ 8 size_row8 8 3 Try.underlying93 ⟨bA, n * 8, none⟩ rfl (rowc q) hql hqc ?_))
       go_ret
       exact ⟨by rw [HE.out]; rfl, hbl6⟩
      | true =>
       have hqz := of_decide_eq_true hbz.out
       subst hqz
       clear hbz
       go_wp2_with (first
        | (with_reducible refine index_knownN 57 90 _ _ 93 Try.underlying90 8 size_row8 bA k k rfl _ _ n rfl rfl hn1 ?_)
        | (with_reducible refine load_arr 58 93 _ 8 size_row8 8 3 Try.underlying93 ⟨bA, n * 8, none⟩ rfl (rowc zeros) hql hqc ?_))
       clear hneq hqc hql
       obtain ⟨N, rfl⟩ : ∃ N : Nat, N = k := ⟨_, rfl⟩
       have hAN : Hid (A.length = N) := hide HLN.out.symm
       go_loopg [63] n (fun gh v w' => ∃ i : Nat, i ≤ n ∧ gh = n - i ∧ v = .int .i64 (i : Int) ∧ Below w6.heap.size w6 w' ∧ (∀ i', i' < i → ∀ k', k' < 8 → (A.getD i' []).getD k' 0 = (leastF (lookA A i') (stepsL t (stN k') l i')).2))
       case atStart => exact ⟨0, Nat.zero_le _, rfl, rfl, Below.refl _ _, fun i' h => absurd h (Nat.not_lt_zero _)⟩
       case round =>
        obtain ⟨i, hi, rfl, rfl, hb, hI⟩ := hrel
        have HI := hide hI
        clear hI
        by_cases hin : i < n
        ·have d3 : decide ((i : Int) < (n : Int)) = true := decide_eq_true (by omega)
         have hil : i < l.length := by have := HNL.out; omega
         have hll : l.length ≤ 1000000 := by have := H2.out; omega
         have hiN : i < N := by omega
         obtain ⟨r, hr⟩ : ∃ r, A[i]? = some r := ⟨_, List.getElem?_eq_getElem (by have := HLN.out; omega)⟩
         have hr8 := HR8.out r (List.mem_of_getElem? hr)
         have HR := hide hr
         have HR88 := hide hr8
         clear hr hr8
         go_wp2_with fail
         go_loopg [66] 8 (fun gh v w' => ∃ k : Nat, k ≤ 8 ∧ gh = 8 - k ∧ v = .int .i64 (k : Int) ∧ Below w6.heap.size w6 w' ∧ (∀ k', k' < k → (A.getD i []).getD k' 0 = (leastF (lookA A i) (stepsL t (stN k') l i)).2))
         case atStart => exact ⟨0, Nat.zero_le _, rfl, rfl, hb, fun k' h => absurd h (Nat.not_lt_zero _)⟩
         case round =>
          clear hb
          obtain ⟨k, hk, rfl, rfl, hb, hK1⟩ := hrel
          have HK1 := hide hK1
          clear hK1
          by_cases hk8 : k < 8
          ·have d4 : decide ((k : Int) < 8) = true := decide_eq_true (by omega)
           have HXr := HX6.under hb
           have HTr := HT6.below hb
           have HSr := HS6.below hb
           have HBA := HBAA.under hb
           obtain ⟨vv, hvv⟩ : ∃ vv, r[k]? = some vv := ⟨_, List.getElem?_eq_getElem (by have := HR88.out; omega)⟩
           have HCV : Hid (∀ w', Below wr.heap.size wr w' → w'.cell? ⟨bA, i * 8 + k, none⟩ = some (.int .i64 vv)) := hide (fun w' h => (HBA.under h).at_ (nf_get A HR8.out HR.out hvv))
           have HRV : Hid ((A.getD i []).getD k 0 = vv) := hide (by
            have e : A.getD i [] = r := by rw [List.getD_eq_getElem?_getD, HR.out]; rfl
            rw [e, List.getD_eq_getElem?_getD, hvv]; rfl)
           clear hvv
           obtain ⟨S, hS⟩ : ∃ S, Hid (stN k = S) := ⟨_, hide rfl⟩
           have hLk := hide (lkt_all HV.out HG.out (i := i) (s := S) hil (by rw [← hS.out]; exact stN_lang k hk8) (A := A) (by rw [hAN.out, ← HNL.out]; exact hN.out.symm) HAB.out)
           obtain ⟨L, hL⟩ : ∃ L, Hid (stepsL t S l i = L) := ⟨_, hide rfl⟩
           rw [hL.out] at hLk
           obtain ⟨LN, hLN⟩ : ∃ LN, L.length = LN := ⟨_, rfl⟩
           have hLN6 : LN ≤ 1000000 := by rw [← hLN, ← hL.out]; exact steps_few HV.out S l i
           obtain ⟨⟨LI, LV⟩, hLI⟩ : ∃ q : Int × Int, Hid (leastF (lookA A i) L = q) := ⟨_, hide rfl⟩
           go_wp2_with fail
           have hcv : ∀ w', Below wr.heap.size wr w' → w'.cell? ⟨bA, i * 8 + k, none⟩ = some (.int .i64 vv) := HCV.out
           clear HCV
           refine wp_region_free 14 [⟨0, 70, [70], fun vs _ => vs = [H.v]⟩, ⟨1, 71, [71], fun vs _ => vs = [.int .i64 (k : Int)]⟩, ⟨2, 72, [72], fun vs _ => vs = [sv S]⟩, ⟨3, 73, [73], fun vs _ => vs = [.slice a n c]⟩, ⟨4, 74, [74], fun vs _ => vs = [.int .i64 (i : Int)]⟩, ⟨5, 75, [75], FStn LN L⟩, ⟨6, 76, [76], fun vs _ => vs = [.slice (some ⟨bA, 0, none⟩) N N]⟩, ⟨7, 77, [77], fun vs _ => vs = [.int .i64 (i : Int)]⟩, ⟨8, 78, [78], RcF bA i A⟩, ⟨9, 79, [79], fun vs _ => vs = [.tuple #[.int .i64 LI, .int .i64 LV]]⟩, ⟨10, 69, [69], fun vs _ => vs = [.tuple #[.int .i64 LI, .int .i64 LV]]⟩, ⟨11, 80, [80], fun vs _ => vs = [.int .i64 LI]⟩, ⟨12, 81, [81], fun vs _ => vs = [.int .i64 LV]⟩, ⟨13, 13, [13], fun vs _ => vs = [.int .i64 LI]⟩] (by kernel_rfl) (by kernel_rfl) ?_ ?_ ?_
           ·simp only [All]
            refine ⟨fun _ _ _ _ h => h, fun _ _ _ _ h => h, fun _ _ _ _ h => h, fun _ _ _ _ h => h, fun _ _ _ _ h => h, ?_, fun _ _ _ _ h => h, fun _ _ _ _ h => h, ?_, fun _ _ _ _ h => h, fun _ _ _ _ h => h, fun _ _ _ _ h => h, fun _ _ _ _ h => h, fun _ _ _ _ h => h, trivial⟩
            ·exact fun vs w1 w2 hb h => h.below hb
            ·exact fun vs w1 w2 hb h => h.below hb
           ·simp only [All]
            refine ⟨?_, ?_, ?_, ?_, ?_, ?_, ?_, ?_, ?_, ?_, ?_, ?_, ?_, ?_, trivial⟩
            ·intro o ho a' w' hb hfr hdep; obtain rfl := oj ho
             have g3 : a'.tmps[3]?.getD undef = .pointer (some ⟨gT, 0, none⟩) := by simpa using hfr 3 (by kernel_rfl)
             clear ho hfr hdep; refine load_struct 70 29 _ 7 size_tables _ Try.underlying29 ⟨gT, 0, none⟩ (by show a'.tmps.getD 3 undef = _; simpa using g3) (tcells H) rfl (fun j u hj => by rw [Addr.add_lit, Nat.zero_add]; exact (HXr.under hb).at_ hj) ?_
             exact ⟨rfl, _, rfl, br, rfl⟩
            ·intro o ho a' w' hb hfr hdep; obtain rfl := oj ho
             have g12 : a'.tmps[12]?.getD undef = .int .i64 (k : Int) := by simpa using hfr 12 (by kernel_rfl)
             clear ho hfr hdep; go_wp2_with fail; exact ⟨rfl, _, rfl, br, rfl⟩
            ·intro o ho a' w' hb hfr hdep; obtain rfl := oj ho
             have g71 : a'.tmps[71]?.getD undef = .int .i64 (k : Int) := by simpa using hdep 1 _ rfl (by kernel_rfl)
             clear ho hfr hdep; have hsta := hide (con_state k hk8 w')
             rw [hS.out] at hsta
             go_wp2_with (go_at_call 53; refine hsta.out.mono ?_; rintro e w2 ⟨rfl, h2⟩)
             exact ⟨rfl, _, rfl, h2, rfl⟩
            ·intro o ho a' w' hb hfr hdep; obtain rfl := oj ho
             have g1 : a'.tmps[1]?.getD undef = .slice a n c := by simpa using hfr 1 (by kernel_rfl)
             clear ho hfr hdep; go_wp2_with fail; exact ⟨rfl, _, rfl, br, rfl⟩
            ·intro o ho a' w' hb hfr hdep; obtain rfl := oj ho
             have g11 : a'.tmps[11]?.getD undef = .int .i64 (i : Int) := by simpa using hfr 11 (by kernel_rfl)
             clear ho hfr hdep; go_wp2_with fail; exact ⟨rfl, _, rfl, br, rfl⟩
            ·intro o ho a' w' hb hfr hdep; obtain rfl := oj ho
             have g70 : a'.tmps[70]?.getD undef = H.v := by simpa using hdep 0 _ rfl (by kernel_rfl)
             have g72 : a'.tmps[72]?.getD undef = sv S := by simpa using hdep 2 _ rfl (by kernel_rfl)
             have g73 : a'.tmps[73]?.getD undef = .slice a n c := by simpa using hdep 3 _ rfl (by kernel_rfl)
             have g74 : a'.tmps[74]?.getD undef = .int .i64 (i : Int) := by simpa using hdep 4 _ rfl (by kernel_rfl)
             clear ho hfr hdep; have hst := hide (steps_of H t S l i hL.out a n c (by omega) w' (HTr.below hb) (HSr.below hb))
             go_wp2_with (go_at_call 28; refine hst.out.mono ?_; rintro e w2 ⟨a2, c2, ps2, rfl, hS2, h2⟩)
             exact ⟨rfl, _, rfl, h2, a2, c2, ps2, rfl, by rw [hLN] at hS2; exact hS2⟩
            ·intro o ho a' w' hb hfr hdep; obtain rfl := oj ho
             have g8 : a'.tmps[8]?.getD undef = .slice (some ⟨bA, 0, none⟩) N N := by simpa using hfr 8 (by kernel_rfl)
             clear ho hfr hdep; go_wp2_with fail; exact ⟨rfl, _, rfl, br, rfl⟩
            ·intro o ho a' w' hb hfr hdep; obtain rfl := oj ho
             have g11 : a'.tmps[11]?.getD undef = .int .i64 (i : Int) := by simpa using hfr 11 (by kernel_rfl)
             clear ho hfr hdep; go_wp2_with fail; exact ⟨rfl, _, rfl, br, rfl⟩
            ·intro o ho a' w' hb hfr hdep; obtain rfl := oj ho
             have g76 : a'.tmps[76]?.getD undef = .slice (some ⟨bA, 0, none⟩) N N := by simpa using hdep 6 _ rfl (by kernel_rfl)
             have g77 : a'.tmps[77]?.getD undef = .int .i64 (i : Int) := by simpa using hdep 7 _ rfl (by kernel_rfl)
             clear ho hfr hdep; have hrc := hide (con_reach (.slice (some ⟨bA, 0, none⟩) N N) i N bA w' rfl)
             go_wp2_with (go_at_call 54; refine hrc.out.mono ?_; rintro e w2 ⟨b1, b2, rfl, X1, X2, h2⟩)
             exact ⟨rfl, _, rfl, h2, b1, b2, rfl, ⟨by rw [hAN.out]; exact X1, X2, (HBA.under hb).under h2, HR8.out, by rw [hAN.out]; omega⟩⟩
            ·intro o ho a' w' hb hfr hdep; obtain rfl := oj ho
             obtain ⟨a75, c75, ps75, g75, S75⟩ := hdep 5 _ rfl (by kernel_rfl)
             simp at g75
             obtain ⟨b78, d78, g78, R78⟩ := hdep 8 _ rfl (by kernel_rfl)
             simp at g78
             clear ho hfr hdep; have hls := hide (con_least (lookA A i) ps75 L a75 LN c75 b78 d78 w' S75 hLN6 (fun p hp w3 hb3 => reach_1 p A bA b78 d78 i w3 (R78.below hb3) (hLk.out p.1 (stl_mem S75 p hp)) (stl_hdr S75 p hp)))
             rw [hLI.out] at hls
             go_wp2_with (go_at_call 52; refine hls.out.mono ?_; rintro e w2 ⟨rfl, h2⟩)
             exact ⟨rfl, _, rfl, h2, rfl⟩
            ·intro o ho a' w' hb hfr hdep; obtain rfl := oj ho
             have g79 : a'.tmps[79]?.getD undef = .tuple #[.int .i64 LI, .int .i64 LV] := by simpa using hdep 9 _ rfl (by kernel_rfl)
             clear ho hfr hdep; go_wp2_with fail; exact ⟨rfl, _, rfl, br, rfl⟩
            ·intro o ho a' w' hb hfr hdep; obtain rfl := oj ho
             have g69 : a'.tmps[69]?.getD undef = .tuple #[.int .i64 LI, .int .i64 LV] := by simpa using hdep 10 _ rfl (by kernel_rfl)
             clear ho hfr hdep; go_wp2_with fail; exact ⟨rfl, _, rfl, br, rfl⟩
            ·intro o ho a' w' hb hfr hdep; obtain rfl := oj ho
             have g69 : a'.tmps[69]?.getD undef = .tuple #[.int .i64 LI, .int .i64 LV] := by simpa using hdep 10 _ rfl (by kernel_rfl)
             clear ho hfr hdep; go_wp2_with fail; exact ⟨rfl, _, rfl, br, rfl⟩
            ·intro o ho a' w' hb hfr hdep; obtain rfl := oj ho
             have g80 : a'.tmps[80]?.getD undef = .int .i64 LI := by simpa using hdep 11 _ rfl (by kernel_rfl)
             clear ho hfr hdep; go_wp2_with fail; exact ⟨rfl, _, rfl, br, rfl⟩
           ·intro gg w7 hbl hp'
            have p13 := hp' 13 _ rfl
            have p81 := hp' 12 _ rfl
            clear hp'
            simp at p13 p81
            simp only [List.drop_succ_cons, List.drop_zero, List.map_cons, List.map_nil, putAll, Act.put, List.setIfInBounds_toArray, List.set_cons_succ, List.set_cons_zero, List.cons_append, List.nil_append, p13, p81]
            clear p13 p81
            have hb7 := hb.trans (hbl.mono hb.size)
            have cv7 := hcv w7 hbl
            clear HXr HTr HSr HBA hb hbl hLk hcv
            by_cases hvv : LV = vv
            ·have d6 : (LV != vv) = false := by simp [hvv]
             have HQ : Hid (∀ k', k' < k + 1 → (A.getD i []).getD k' 0 = (leastF (lookA A i) (stepsL t (stN k') l i)).2) := hide (fun k' hk' => by
              by_cases h : k' = k
              ·subst h
               rw [HRV.out, hS.out, hL.out, hLI.out]
               exact hvv.symm
              ·exact HK1.out k' (by omega))
             go_wp2_with (first
              | (with_reducible refine index_knownN 86 90 _ _ 93 Try.underlying90 8 size_row8 bA N N rfl _ _ i rfl rfl hiN ?_)
              | (with_reducible refine index_arrp 87 93 _ _ 3 8 Try.underlying93 size_int bA (i * 8) rfl _ _ k rfl rfl hk8 ?_))
             go_roundg (8 - (k + 1))
             case measure => omega
             case rel => exact ⟨k + 1, by omega, rfl, by go_num, hb7, HQ.out⟩
            ·have d6 : (LV != vv) = true := by simp [hvv]
             have he : chE t l cells taken A = 19 := chE_bad hFE.out (fun h => by
              have h1 := (numT_eq HV.out HG.out).eq i hil k hk8
              rw [← h.1, HRV.out, hS.out, hL.out, hLI.out] at h1
              exact hvv h1.symm)
             have HE := hide he
             clear he
             go_wp2_with (first
              | (with_reducible refine index_knownN 86 90 _ _ 93 Try.underlying90 8 size_row8 bA N N rfl _ _ i rfl rfl hiN ?_)
              | (with_reducible refine index_arrp 87 93 _ _ 3 8 Try.underlying93 size_int bA (i * 8) rfl _ _ k rfl rfl hk8 ?_))
             go_ret
             exact ⟨by rw [HE.out]; rfl, hbl6.trans (hb7.mono hbl6.size)⟩

          ·obtain rfl : k = 8 := by omega
           have d4 : decide (((8 : Nat) : Int) < 8) = false := by decide
           have HQ : Hid (∀ i', i' < i + 1 → ∀ k', k' < 8 → (A.getD i' []).getD k' 0 = (leastF (lookA A i') (stepsL t (stN k') l i')).2) := hide (fun i' hi' => by
            by_cases h : i' = i
            ·subst h; exact HK1.out
            ·exact HI.out i' (by omega))
           clear HK1
           go_wp2_with fail
           go_roundg (n - (i + 1))
           case measure => omega
           case rel => exact ⟨i + 1, by omega, rfl, by go_num, hb, HQ.out⟩
        ·obtain rfl : i = n := by omega
         have d3 : decide ((i : Int) < (i : Int)) = false := decide_eq_false (by omega)
         have hAe : A = numT t l := eq_unique HV.out HG.out ⟨by rw [hAN.out, ← HNL.out]; exact hN.out.symm, HR8.out, HLAST.out, by rw [← HNL.out]; exact HI.out⟩
         subst hAe
         have HX7 := HX6.under hb
         have HC7 := HC6.under hb
         have HT7 := HT6.below hb
         have HS7 := HS6.below hb
         have HE7 := HE6.below hb
         have HK7 := HK6.below hb
         have HB7 := HBAA.under hb
         have hbl7 := hbl6.trans (hb.mono hbl6.size)
         have hen : en = cells.length := HE7.n_eq
         have HEN := hide hen
         have hfo := hide (con_follow H t l a i c cells taken ea ta la en ec tn tc N lc wr HT7 HS7 HE7 HK7 HV.out HG.out H2.out hce)
         clear HX6 HC6 HT6 HS6 HE6 HK6 HBAA hb hbl6 hen HI
         go_wp2_with (first
          | (with_reducible refine load_struct 93 29 _ 7 size_tables _ Try.underlying29 ⟨gT, 0, none⟩ rfl (tcells H) rfl (fun j u hj => by rw [Addr.add_lit, Nat.zero_add]; exact HX7.at_ hj) ?_)
          | (with_reducible refine load_struct 95 39 _ 3 size_cert _ Try.underlying39 ⟨gC, 0, none⟩ rfl [.slice ea en ec, .slice ta tn tc, .slice la N lc] rfl (fun j u hj => by rw [Addr.add_lit, Nat.zero_add]; exact HC7.at_ hj) ?_)
          | (go_at_call 55; refine hfo.out.mono ?_; rintro e w8 ⟨⟨a8, n8, c8, rfl, hP8⟩, hb8⟩; refine hold ?_))
         refine hide ?_
         have hbl8 := hbl7.trans (hb8.mono hbl7.size)
         have HB8 := HB7.under hb8
         have HC8 := HC7.under hb8
         obtain ⟨NV, hNV⟩ : ∃ NV, Hid (numV t l = NV) := ⟨_, hide rfl⟩
         have c0 : w8.cell? ⟨bA, 0, none⟩ = some (.int .i64 NV) := by
          have h := HB8.at_ (j := 0) (num_cell0 t l)
          rw [hNV.out] at h
          exact h
         have y0 : w8.cell? ⟨gC, 0, none⟩ = some (.slice ea en ec) := HC8.at_ rfl
         obtain ⟨FO, hFO⟩ : ∃ FO, Hid ((followF t l taken 0 s00 cells).isSome = FO) := ⟨_, hide rfl⟩
         rw [hFO.out]
         have hN0 : decide (0 < N) = true := decide_eq_true (by omega)
         clear HX7 HC7 HT7 HS7 HE7 HK7 HB7 hP8 hfo HB8 HC8 hbl7 hb8
         cases FO with
         | false =>
          have he : chE t l cells taken (numT t l) = 19 := chE_bad hFE.out (fun h => by
           rw [hFO.out] at h
           cases h.2.1)
          have HE := hide he
          clear he
          go_wp2_with fail
          go_quiet (fail)
          go_wp2_with fail
          go_ret
          exact ⟨by rw [HE.out]; rfl, hbl8.trans ((Still.below nq : Below w8.heap.size w8 (w8.drewN nq)).mono hbl8.size)⟩
         | true =>
          by_cases hnv : (en : Int) = NV
          ·have d5 : ((en : Int) != NV) = false := by simp [hnv]
           have he : chE t l cells taken (numT t l) = 0 := chE_good hFE.out rfl hFO.out (by rw [hNV.out, ← HEN.out]; exact hnv)
           have HE := hide he
           clear he hnv
           go_wp2_with fail
           go_quiet (fail)
           go_wp2_with fail
           go_ret
           exact ⟨by rw [HE.out]; rfl, hbl8.trans ((Still.below nq : Below w8.heap.size w8 (w8.drewN nq)).mono hbl8.size)⟩
          ·have d5 : ((en : Int) != NV) = true := by simp [hnv]
           have he : chE t l cells taken (numT t l) = 19 := chE_bad hFE.out (fun h => hnv (by rw [← hNV.out, HEN.out]; exact h.2.2))
           have HE := hide he
           clear he hnv
           go_wp2_with fail
           go_quiet (fail)
           go_wp2_with fail
           go_ret
           exact ⟨by rw [HE.out]; rfl, hbl8.trans ((Still.below nq : Below w8.heap.size w8 (w8.drewN nq)).mono hbl8.size)⟩
  ·have d1 : ((ln_ : Int) != (N : Int)) = true := by simp; omega
   have he : chE t l cells taken A = 19 := chE_bad hFE.out (fun h => by
    have h2 := numT_len t l
    rw [← h.1] at h2
    have := HLN.out
    have := HNL.out
    have := hN.out
    omega)
   have HE := hide he
   clear he
   go_wp2_with fail
   go_ret
   exact ⟨by rw [HE.out]; rfl, hbl3⟩
 ·have d1 : (FE == 0) = false := by simp [hfe]
  go_wp2_with fail
  go_ret
  exact ⟨by unfold chE; rw [hFE.out, if_pos hfe]; rfl, hbl3⟩
end Go.Proofs.Ytlpkicjijlcbfaa
end

section
/- Chapter 08: Width. -/
namespace Go.Dx
open Go.RowKit
def TuF (ct : TypeId) (X : Int) (C : List UInt8) (K : List Int) (A : Nums) (vs : List Value) (w : World) : Prop := ∃ v, vs = [.tuple #[v, .int .i64 X]] ∧ CeT ct w v C K A
theorem TuF.keep {ct : TypeId} {X : Int} {C : List UInt8} {K : List Int} {A : Nums} {vs : List Value} {w w' : World} (h : TuF ct X C K A vs w) (hk : KeepsX ct w w') : TuF ct X C K A vs w' := by obtain ⟨v, h1, h2⟩ := h; exact ⟨v, h1, h2.keep hk⟩
def VaF (ct : TypeId) (C : List UInt8) (K : List Int) (A : Nums) (vs : List Value) (w : World) : Prop := ∃ v, vs = [v] ∧ CeT ct w v C K A
theorem VaF.keep {ct : TypeId} {C : List UInt8} {K : List Int} {A : Nums} {vs : List Value} {w w' : World} (h : VaF ct C K A vs w) (hk : KeepsX ct w w') : VaF ct C K A vs w' := by obtain ⟨v, h1, h2⟩ := h; exact ⟨v, h1, h2.keep hk⟩
def GTr (ct : TypeId) (w0 : World) (C : List UInt8) (K : List Int) (A : Nums) : Nat → List Value → World → Prop
 | 0, _, w => Below w0.heap.size w0 w
 | 1, vs, w => ∃ b, vs.getD 0 undef = .pointer (some ⟨b, 0, none⟩) ∧ w0.heap.size ≤ b ∧ ∃ cs, cs.length = 3 ∧ Box w b ct cs ∧ Below w0.heap.size w0 w
 | _ + 2, vs, w => ∃ b, vs.getD 0 undef = .pointer (some ⟨b, 0, none⟩) ∧ w0.heap.size ≤ b ∧ ∃ s1 s2 s3, Box w b ct [s1, s2, s3] ∧ CeT ct w (.agg #[s1, s2, s3]) C K A ∧ Below w0.heap.size w0 w
theorem GTr.bel {ct : TypeId} {w0 : World} {C : List UInt8} {K : List Int} {A : Nums} : ∀ {j : Nat} {vs : List Value} {w : World}, GTr ct w0 C K A j vs w → Below w0.heap.size w0 w
 | 0, _, _, h => h
 | 1, _, _, ⟨_, _, _, _, _, _, h⟩ => h
 | _ + 2, _, _, ⟨_, _, _, _, _, _, _, _, h⟩ => h
theorem GTr.mono {ct : TypeId} {w0 : World} {C : List UInt8} {K : List Int} {A : Nums} : ∀ (j : Nat) (vs : List Value) (w w' : World), Below w.heap.size w w' → GTr ct w0 C K A j vs w → GTr ct w0 C K A j vs w'
 | 0, _, _, _, hb, h => h.trans (hb.mono h.size)
 | 1, _, _, _, hb, ⟨b, h1, h2, cs, h3, h4, h5⟩ => ⟨b, h1, h2, cs, h3, h4.under hb, h5.trans (hb.mono h5.size)⟩
 | _ + 2, _, _, _, hb, ⟨b, h1, h2, s1, s2, s3, h3, h4, h5⟩ => ⟨b, h1, h2, s1, s2, s3, h3.under hb, h4.below hb, h5.trans (hb.mono h5.size)⟩
def incB (E : List Int) : Bool := (List.range (E.length - 1)).all fun i => decide (E.getD i 0 < E.getD (i + 1) 0)
def IncE (E : List Int) : Prop := ∀ i x y, E[i]? = some x → E[i + 1]? = some y → x < y
theorem inc_of {E : List Int} (h : IncE E) : incB E = true := by
 unfold incB
 rw [List.all_eq_true]
 intro i hi
 rw [List.mem_range] at hi
 have h1 : E[i]? = some E[i] := List.getElem?_eq_getElem (by omega)
 have h2 : E[i + 1]? = some E[i + 1] := List.getElem?_eq_getElem (by omega)
 rw [decide_eq_true_eq, List.getD_eq_getElem?_getD, List.getD_eq_getElem?_getD, h1, h2]
 exact h i _ _ h1 h2
theorem inc_not {E : List Int} {i : Nat} {x y : Int} (hx : E[i]? = some x) (hy : E[i + 1]? = some y) (h : y ≤ x) : incB E = false := by
 cases e : incB E
 ·rfl
 ·exfalso
  unfold incB at e
  rw [List.all_eq_true] at e
  have := e i (List.mem_range.2 (by have := (List.getElem?_eq_some_iff.1 hy).1; omega))
  rw [decide_eq_true_eq, List.getD_eq_getElem?_getD, List.getD_eq_getElem?_getD, hx, hy] at this
  simp at this
  omega
theorem inc_lt {E : List Int} (h : IncE E) : ∀ (d i : Nat) (x y : Int), E[i]? = some x → E[i + d + 1]? = some y → x < y
 | 0, i, x, y, hx, hy => h i x y hx hy
 | d + 1, i, x, y, hx, hy => by
  obtain ⟨z, hz⟩ : ∃ z, E[i + 1]? = some z := ⟨_, List.getElem?_eq_getElem (by have := (List.getElem?_eq_some_iff.1 hy).1; omega)⟩
  have h1 := h i x z hx hz
  have h2 := inc_lt h d (i + 1) z y hz (by rw [show i + 1 + d + 1 = i + (d + 1) + 1 by omega]; exact hy)
  omega
theorem inc_in {E : List Int} (h : IncE E) {n : Int} (h0 : E[0]? = some 0) {m : Nat} (hm : m + 1 = E.length) (hn : E[m]? = some n) {i : Nat} {x : Int} (hx : E[i]? = some x) : 0 ≤ x ∧ x ≤ n := by
 have hi := (List.getElem?_eq_some_iff.1 hx).1
 refine ⟨?_, ?_⟩
 ·cases i with
  | zero => rw [h0] at hx; injection hx with hx; omega
  | succ d => have := inc_lt h d 0 0 x h0 (by rw [Nat.zero_add]; exact hx); omega
 ·rcases Nat.lt_or_ge i m with h1 | h1
  ·have := inc_lt h (m - i - 1) i x n hx (by rw [show i + (m - i - 1) + 1 = m by omega]; exact hn); omega
  ·obtain rfl : i = m := by omega
   rw [hn] at hx; injection hx with hx; omega
def wdR (t : Ta) (l : List Sy) (pts : List Int) : Int × List (List Int) :=
 if fitsE t l ≠ 0 then (fitsE t l, []) else if l = [] ∧ pts = [] then (0, []) else if incB [[0], pts, [(l.length : Int)]].flatten = false then (1, []) else
  match widW t l ([[0], pts, [(l.length : Int)]].flatten.map Int.toNat) with
  | none => (6, [])
  | some X => (0, X)
theorem wdR_fits {t : Ta} {l : List Sy} {pts : List Int} (h : fitsE t l ≠ 0) : wdR t l pts = (fitsE t l, []) := by unfold wdR; rw [if_pos h]
theorem wdR_nil {t : Ta} {l : List Sy} {pts : List Int} (h : fitsE t l = 0) (h1 : l = []) (h2 : pts = []) : wdR t l pts = (0, []) := by unfold wdR; rw [if_neg (by simp [h]), if_pos ⟨h1, h2⟩]
theorem wdR_arg {t : Ta} {l : List Sy} {pts E : List Int} (h : fitsE t l = 0) (h1 : ¬ (l = [] ∧ pts = [])) (he : [[0], pts, [(l.length : Int)]].flatten = E) (h2 : incB E = false) : wdR t l pts = (1, []) := by unfold wdR; rw [if_neg (by simp [h]), if_neg h1, he, if_pos h2]
theorem wdR_none {t : Ta} {l : List Sy} {pts E : List Int} (h : fitsE t l = 0) (h1 : ¬ (l = [] ∧ pts = [])) (he : [[0], pts, [(l.length : Int)]].flatten = E) (h2 : incB E = true) (h3 : widW t l (E.map Int.toNat) = none) : wdR t l pts = (6, []) := by unfold wdR; rw [if_neg (by simp [h]), if_neg h1, he, if_neg (by simp [h2]), h3]
theorem wdR_some {t : Ta} {l : List Sy} {pts E : List Int} {X : List (List Int)} (h : fitsE t l = 0) (h1 : ¬ (l = [] ∧ pts = [])) (he : [[0], pts, [(l.length : Int)]].flatten = E) (h2 : incB E = true) (h3 : widW t l (E.map Int.toNat) = some X) : wdR t l pts = (0, X) := by unfold wdR; rw [if_neg (by simp [h]), if_neg h1, he, if_neg (by simp [h2]), h3]
theorem rowW_bad {t : Ta} {l : List Sy} {a b : Nat} {r : List Nat} (h : trE t ((l.drop a).take (b - a)) ≠ 0) : rowW t l a (b :: r) = none := by simp only [rowW]; rw [if_pos h]
theorem rowW_ok {t : Ta} {l : List Sy} {a b : Nat} {r : List Nat} (h : trE t ((l.drop a).take (b - a)) = 0) : rowW t l a (b :: r) = (rowW t l a r).map (numV t ((l.drop a).take (b - a)) :: ·) := by simp only [rowW]; rw [if_neg (by simp [h])]
theorem widW_none {t : Ta} {l : List Sy} {a : Nat} {r : List Nat} (hr : r ≠ []) (h : rowW t l a r = none) : widW t l (a :: r) = none := by simp only [widW]; rw [if_neg hr, h]
theorem widW_some {t : Ta} {l : List Sy} {a : Nat} {r : List Nat} {x : List Int} (hr : r ≠ []) (h : rowW t l a r = some x) : widW t l (a :: r) = (widW t l r).map (x :: ·) := by simp only [widW]; rw [if_neg hr, h]
theorem widW_last {t : Ta} {l : List Sy} {a : Nat} : widW t l [a] = some [] := by simp [widW]
theorem piece_good {l : List Sy} (h : goodS l = true) (a n : Nat) : goodS ((l.drop a).take n) = true := by
 unfold goodS at h ⊢
 rw [List.all_eq_true] at h ⊢
 exact fun x hx => h x (List.mem_of_mem_drop (List.mem_of_mem_take hx))
theorem piece_fits {t : Ta} {l : List Sy} (h : fitsE t l = 0) (a n : Nat) : fitsE t ((l.drop a).take n) = 0 := by
 obtain ⟨h1, h2, h3⟩ := fitsE_ok h
 exact fitsE_of h1 (piece_good h2 a n) (by rw [List.length_take, List.length_drop]; omega)
theorem piece_err {t : Ta} {l : List Sy} (h : fitsE t l = 0) (a n : Nat) (he : trE t ((l.drop a).take n) ≠ 0) : trE t ((l.drop a).take n) = 6 := by
 unfold trE at he ⊢
 rw [piece_fits h a n] at he ⊢
 rw [if_neg (by simp)] at he ⊢
 split
 ·rfl
 ·rename_i h1
  rw [if_neg h1] at he
  exact absurd rfl he
theorem piece_num {t : Ta} {l : List Sy} (h : fitsE t l = 0) (a n : Nat) (he : trE t ((l.drop a).take n) = 0) : ((cellsP (pathT t ((l.drop a).take n))).length : Int) = numV t ((l.drop a).take n) := by
 obtain ⟨h1, h2, h3⟩ := fitsE_ok h
 exact path_cost h1 (piece_good h2 a n) (trE_ok he).2
def HdL (lo : Nat) (v : Value) (vs : List Value) (w : World) : Prop := ∃ q, vs = [.slice (some ⟨q, 0, none⟩) 1 1] ∧ lo ≤ q ∧ Sl w 1 (some ⟨q, 0, none⟩) 1 1 [v]
theorem HdL.below {lo : Nat} {v : Value} {vs : List Value} {w w' : World} (h : HdL lo v vs w) (hb : Below w.heap.size w w') : HdL lo v vs w' := by obtain ⟨q, h1, h2, h3⟩ := h; exact ⟨q, h1, h2, h3.below hb⟩
structure WdI (w : World) (i64 : TypeId) (B : Nat) (hs : List (Option Addr × Nat × Nat)) (X : List (List Int)) : Prop where
 len : hs.length = X.length
 row : ∀ (j : Nat) (h : Option Addr × Nat × Nat) (r : List Int), hs[j]? = some h → X[j]? = some r → Own w B i64 1 h.1 h.2.1 h.2.2 (r.map I64)
theorem WdI.nil (w : World) (i64 : TypeId) (B : Nat) : WdI w i64 B [] [] := ⟨rfl, fun j h r hh => by simp at hh⟩
theorem WdI.kept {w w' : World} {i64 : TypeId} {B g : Nat} {hs : List (Option Addr × Nat × Nat)} {X : List (List Int)} (h : WdI w i64 B hs X) (hg : w.grownBy w' (some g)) (hB : g < B) : WdI w' i64 B hs X :=
 ⟨h.len, fun j x r hx hr => (h.row j x r hx hr).kept hg (fun p hp e => by
  have h1 := h.row j x r hx hr
  rw [hp] at h1
  have := h1.base.1
  injection e with e
  omega)⟩
theorem WdI.push {w : World} {i64 : TypeId} {B : Nat} {hs : List (Option Addr × Nat × Nat)} {X : List (List Int)} (h : WdI w i64 B hs X) {x : Option Addr × Nat × Nat} {r : List Int} (hx : Own w B i64 1 x.1 x.2.1 x.2.2 (r.map I64)) : WdI w i64 B (hs ++ [x]) (X ++ [r]) := by
 refine ⟨by simp [h.len], fun j y q hy hq => ?_⟩
 rcases Nat.lt_or_ge j hs.length with hlt | hge
 ·rw [List.getElem?_append_left hlt] at hy
  rw [List.getElem?_append_left (by rw [← h.len]; exact hlt)] at hq
  exact h.row j y q hy hq
 ·have e : j = hs.length := by
   have := (List.getElem?_eq_some_iff.1 hy).1
   rw [List.length_append, List.length_singleton] at this
   omega
  subst e
  rw [List.getElem?_append_right (Nat.le_refl _), Nat.sub_self] at hy
  rw [h.len, List.getElem?_append_right (Nat.le_refl _), Nat.sub_self] at hq
  injection hy with hy
  injection hq with hq
  subst hy; subst hq
  exact hx
theorem WdI.ng {w : World} {i64 e : TypeId} {B b : Nat} {hs : List (Option Addr × Nat × Nat)} {X : List (List Int)} (h : WdI w i64 B hs X) {n : Nat} (hn : hs.length = n) (hx : Box w b e (hs.map hdv)) (hm : n ≤ 100000) : Ng w (some ⟨b, 0, none⟩) n n hs X :=
 ⟨hx.sl 0 n n 1 (hs.map hdv) (by rw [List.length_map, hn, Nat.mul_one]) (Nat.le_refl _) (by unfold maxLen; omega) (fun j u hj => by rw [Nat.zero_add]; exact hj), h.len, fun i x r hx hr => (h.row i x r hx hr).sl⟩
theorem Own.keptK {w w' : World} {g B : Nat} {e : TypeId} {sz : Nat} {a : Option Addr} {n c : Nat} {cs : List Value} (h : Own w B e sz a n c cs) (hg : w.grownBy w' (some g)) (hB : g < B) : Own w' B e sz a n c cs := h.kept hg (fun p hp e => by
  rw [hp] at h
  have := h.base.1
  injection e with e
  omega)
theorem Sl.back {w w' : World} {sz : Nat} {a : Option Addr} {n c : Nat} {cs : List Value} (h : Sl w' sz a n c cs) (hb : Below w.heap.size w w') (hl : ∀ p, a = some p → 0 < cs.length → p.block < w.heap.size) : Sl w sz a n c cs :=
 ⟨h.len, h.le, h.cap, h.nil, fun p hp j u hj => by
  have h1 := h.cell p hp j u hj
  have e : (p.add j).block = p.block := by unfold Addr.add; split <;> rfl
  rw [hb.cell (by rw [e]; exact hl p hp (by have := (List.getElem?_eq_some_iff.1 hj).1; omega))] at h1
  exact h1⟩
theorem own_new {w : World} {B : Nat} {e : TypeId} {sz : Nat} {a : Option Addr} {n c : Nat} {cs : List Value} (h : Own w B e sz a n c cs) {q : Nat} (hq : w.heap.size ≤ q) : some q ≠ a.map (·.block) := fun e => by
 cases a with
 | none => cases e
 | some p =>
  have := h.base.2
  injection e with e
  simp only at e
  omega
theorem CeT.parts {ct : TypeId} {w : World} {s1 s2 s3 : Value} {C : List UInt8} {K : List Int} {A : Nums} (h : CeT ct w (.agg #[s1, s2, s3]) C K A) : ∃ a1 n1 c1 a2 n2 c2 a3 n3 c3 hs, s1 = .slice a1 n1 c1 ∧ s2 = .slice a2 n2 c2 ∧ s3 = .slice a3 n3 c3 ∧ Sl w 1 a1 n1 c1 (C.map B8) ∧ Sl w 1 a2 n2 c2 (K.map I64) ∧ Ng w a3 n3 c3 hs A := by
 obtain ⟨a1, n1, c1, a2, n2, c2, a3, n3, c3, hs, hv, h1, h2, h3⟩ := h.ce
 simp at hv
 obtain ⟨e1, e2, e3⟩ := hv
 exact ⟨a1, n1, c1, a2, n2, c2, a3, n3, c3, hs, e1, e2, e3, h1, h2, h3⟩
def trC (t : Ta) (l : List Sy) : List UInt8 := if trE t l = 0 then cellsP (pathT t l) else []
def trK (t : Ta) (l : List Sy) : List Int := if trE t l = 0 then takenP (pathT t l) else []
def trA (t : Ta) (l : List Sy) : Nums := if trE t l = 0 then numT t l else []
def GivesWd (t : Ta) (l : List Sy) (pts : List Int) (e : Ending) (w : World) : Prop :=
 ∃ a n c hs, e = .returned (.tuple #[.slice a n c, .int .i64 (wdR t l pts).1]) ∧ Ng w a n c hs (wdR t l pts).2
theorem Ng.nil (w : World) : Ng w none 0 0 [] [] := ⟨Sl.empty _ _, rfl, fun i x r hx => by cases hx⟩
theorem set_midw {α : Type} {P Z : List α} {x y : α} {k : Nat} (hk : P.length = k) : (P ++ x :: Z).set k y = P ++ y :: Z := by
 subst hk
 rw [List.set_append_right _ _ (Nat.le_refl _), Nat.sub_self, List.set_cons_zero]
end Go.Dx
namespace Go.Proofs.Ytlpkicjijlcbfaa
open Go.RowKit Go.Dx Go.Al
theorem nil_at : ∀ i, i < (Value.slice none 0 0).cells.size → (Value.slice none 0 0).cells[i]? = some (.slice none 0 0) := by
 intro i hi
 have h : i < 1 := hi
 obtain rfl : i = 0 := by omega
 rfl
theorem info_hdw : (Try.prog.info? 22).map (fun i => (i.zero, i.size, i.bytes)) = some (some (.slice none 0 0), 1, 24) := by kernel_rfl
theorem tr_at (H : TH) (t : Ta) (l : List Sy) (a : Option Addr) (n c : Nat) (w : World) (hT : TaIs w H t) (hs : Sl w 2 a n c (l.flatMap sc)) {X : Int} {C : List UInt8} {K : List Int} {A : Nums} (hX : trE t l = X) (hC : trC t l = C) (hK : trK t l = K) (hA : trA t l = A) :
  Calls Try.prog 13 #[H.v, .slice a n c] w fun e w' => (∃ v, e = .returned (.tuple #[v, .int .i64 X]) ∧ CeT 39 w' v C K A) ∧ Below w.heap.size w w' := by
 subst hX hC hK hA
 exact con_Translate H t l a n c w hT hs
set_option maxRecDepth 100000 in
set_option maxHeartbeats 16000000 in
theorem con_Width (H : TH) (t : Ta) (l : List Sy) (a : Option Addr) (n c : Nat) (pts : List Int) (pa : Option Addr) (pn pc : Nat) (w : World) (hT : TaIs w H t) (hs : Sl w 2 a n c (l.flatMap sc)) (hP : Sl w 1 pa pn pc (pts.map I64)) (hpl : pts.length ≤ 10000) :
  Calls Try.prog 24 #[H.v, .slice a n c, .slice pa pn pc] w fun e w' => GivesWd t l pts e w' ∧ Below w.heap.size w w' := by
 obtain ⟨WE, hWE⟩ : ∃ WE, Hid (wdR t l pts = WE) := ⟨_, hide rfl⟩
 obtain ⟨ER, RW⟩ := WE
 have HPL := hide hpl
 clear hpl
 have Hm := hide hT
 have Hs := hide hs
 have Hp := hide hP
 clear hT hs hP
 obtain ⟨⟨a0, n0, c0⟩, ⟨a1, n1, c1⟩, ps0, ps1, ⟨ad, nd, cd⟩, ⟨ac, nc, cc⟩, ⟨an, nn, cn⟩, ⟨af, nf, cf⟩, ⟨aw, nw, cw⟩⟩ := H
 unfold TH.v GivesWd
 rw [hWE.out]
 simp only [hdv]
 have Y1 := Box.new w 29 #[.slice a0 n0 c0, .slice a1 n1 c1, .slice ad nd cd, .slice ac nc cc, .slice an nn cn, .slice af nf cf, .slice aw nw cw]
 have hba := blo w (.cells #[.slice a0 n0 c0, .slice a1 n1 c1, .slice ad nd cd, .slice ac nc cc, .slice an nn cn, .slice af nf cf, .slice aw nw cw] 29)
 go_enter Try.func24, Try.ntmps24
 go_upto_region 1 with fail
 generalize w.alloc (.cells _ 29) = wa at *
 obtain ⟨H, hH⟩ : ∃ H : TH, H = ⟨(a0, n0, c0), (a1, n1, c1), ps0, ps1, (ad, nd, cd), (ac, nc, cc), (an, nn, cn), (af, nf, cf), (aw, nw, cw)⟩ := ⟨_, rfl⟩
 have HXa : Box wa w.heap.size 29 (tcells H) := by rw [hH]; exact Y1
 have HTa : TaIs wa H t := by rw [hH]; exact Hm.out.below hba
 have HSa := Hs.out.below hba
 have HPa := Hp.out.below hba
 clear hH Hm Hs Hp Y1
 obtain ⟨gT, hgT⟩ : ∃ gT, Hid (w.heap.size = gT) := ⟨_, hide rfl⟩
 rw [hgT.out] at HXa ⊢
 have hfit := hide (con_fits H t l a n c wa HTa HSa)
 obtain ⟨FE, hFE⟩ : ∃ FE, Hid (fitsE t l = FE) := ⟨_, hide rfl⟩
 rw [hFE.out] at hfit
 go_wp2_with (first
  | (with_reducible refine load_struct 17 29 _ 7 size_tables _ Try.underlying29 ⟨gT, 0, none⟩ rfl (tcells H) rfl (fun j u hj => by rw [Addr.add_lit, Nat.zero_add]; exact HXa.at_ hj) ?_)
  | (go_at_call 38; refine hfit.out.mono ?_; rintro e w2 ⟨rfl, hb2⟩; refine hold ?_))
 refine hide ?_
 have HX2 := HXa.under hb2
 have HT2 := HTa.below hb2
 have HS2 := HSa.below hb2
 have HP2 := HPa.below hb2
 have hbl2 := hba.trans (hb2.mono hba.size)
 clear HXa HTa HSa HPa hba hb2 hfit
 by_cases hfe : FE = 0
 ·subst hfe
  have hnl : n = l.length := HS2.nf sc_len (by decide)
  have hpn : pn = pts.length := HP2.n_eq
  have HNL := hide hnl
  have HPN := hide hpn
  have hn20 : n ≤ 2048 := by obtain ⟨-, -, h⟩ := fitsE_ok hFE.out; omega
  have hpn4 : pn ≤ 10000 := by have := HPL.out; omega
  clear hnl hpn
  by_cases hz : n = 0 ∧ pn = 0
  ·have he : (ER, RW) = (0, []) := by
    rw [← hWE.out]
    exact wdR_nil hFE.out (List.length_eq_zero_iff.1 (by have := HNL.out; omega)) (List.length_eq_zero_iff.1 (by have := HPN.out; omega))
   obtain ⟨rfl, rfl⟩ := Prod.mk.inj he
   obtain ⟨rfl, rfl⟩ := hz
   clear he
   go_wp2_with fail
   go_ret2
   exact ⟨⟨none, 0, 0, [], rfl, Ng.nil _⟩, hbl2⟩
  ·have HNZ : Hid (¬ (l = [] ∧ pts = [])) := hide (fun h => hz ⟨by rw [HNL.out, h.1]; rfl, by rw [HPN.out, h.2]; rfl⟩)
   go_upto_region 4 with fail
   go_cut [30] (fun v w' => v = .bool false ∧ w2 = w')
   case first =>
    by_cases h0 : n = 0
    ·have h1 : pn ≠ 0 := fun h => hz ⟨h0, h⟩
     have d2 : ((n : Int) == 0) = true := by simp [h0]
     have d3 : ((pn : Int) == 0) = false := by simp [h1]
     clear h0 h1 hz
     go_wp2_with fail
     go_meet
     exact ⟨rfl, rfl⟩
    ·have d2 : ((n : Int) == 0) = false := by simp [h0]
     clear h0 hz
     go_wp2_with fail
     go_meet
     exact ⟨rfl, rfl⟩
   case rest =>
    obtain ⟨rfl, rfl⟩ := hcut
    clear hz
    go_upto_region 6 with fail
    have hN1 := Go.Dx.Own.built w2 w2.heap.size 3 1 1 #[.int .i64 0] (Nat.le_refl _) rfl (by decide)
    obtain ⟨W1, hW1⟩ : ∃ W1, W1 = w2.alloc (.cells #[.int .i64 0] 3) := ⟨_, rfl⟩
    have hN2 := Go.Dx.Own.built W1 w2.heap.size 3 1 1 #[.int .i64 (n : Int)] (by rw [hW1]; simp) rfl (by decide)
    obtain ⟨W2, hW2⟩ : ∃ W2, W2 = W1.alloc (.cells #[.int .i64 (n : Int)] 3) := ⟨_, rfl⟩
    have hN3 := Go.Dx.Own.built W2 w2.heap.size 22 1 3 #[.slice (some ⟨w2.heap.size, 0, none⟩) 1 1, .slice pa pn pc, .slice (some ⟨w2.heap.size + 1, 0, none⟩) 1 1] (by rw [hW2, hW1]; simp; omega) rfl (by decide)
    have hb21 : Below w2.heap.size w2 W1 := by rw [hW1]; exact blo _ _
    have hb12 : Below W1.heap.size W1 W2 := by rw [hW2]; exact blo _ _
    have hb23 := blo W2 (.cells #[.slice (some ⟨w2.heap.size, 0, none⟩) 1 1, .slice pa pn pc, .slice (some ⟨w2.heap.size + 1, 0, none⟩) 1 1] 22)
    have hs1 : W1.heap.size = w2.heap.size + 1 := by rw [hW1]; simp
    have hs2 : W2.heap.size = w2.heap.size + 1 + 1 := by rw [hW2, World.size_alloc, hs1]
    have hsn1 : Sl W1 1 (some ⟨w2.heap.size, 0, none⟩) 1 1 (([0] : List Int).map I64) := by rw [hW1]; exact hN1.sl
    have hsn2 : Sl W2 1 (some ⟨w2.heap.size + 1, 0, none⟩) 1 1 (([(n : Int)] : List Int).map I64) := by rw [hW2, ← hs1]; exact hN2.sl
    obtain ⟨W3, hW3⟩ : ∃ W3, W3 = W2.alloc (.cells #[.slice (some ⟨w2.heap.size, 0, none⟩) 1 1, .slice pa pn pc, .slice (some ⟨w2.heap.size + 1, 0, none⟩) 1 1] 22) := ⟨_, rfl⟩
    have hsn3 : Sl W3 1 (some ⟨w2.heap.size + 1 + 1, 0, none⟩) 3 3 (([(some ⟨w2.heap.size, 0, none⟩, 1, 1), (pa, pn, pc), (some ⟨w2.heap.size + 1, 0, none⟩, 1, 1)] : List (Option Addr × Nat × Nat)).map hdv) := by rw [hW3, ← hs2]; exact hN3.sl
    rw [← hW3] at hb23
    have hb2W : Below w2.heap.size w2 W2 := hb21.trans (hb12.mono hb21.size)
    have hb2X : Below w2.heap.size w2 W3 := hb2W.trans (hb23.mono hb2W.size)
    have hng : Ng W3 (some ⟨w2.heap.size + 1 + 1, 0, none⟩) 3 3 [(some ⟨w2.heap.size, 0, none⟩, 1, 1), (pa, pn, pc), (some ⟨w2.heap.size + 1, 0, none⟩, 1, 1)] [[0], pts, [(n : Int)]] := ⟨hsn3, rfl, fun i x r hx hr => by
     match i, hx, hr with
     | 0, hx, hr => cases hx; cases hr; exact (hsn1.below hb12).below hb23
     | 1, hx, hr => cases hx; cases hr; exact HP2.below hb2X
     | 2, hx, hr => cases hx; cases hr; exact hsn2.below hb23
     | i + 3, hx, hr => cases hx⟩
    have hcat := hide (concati [[0], pts, [(n : Int)]] _ _ 3 3 W3 hng (by decide) (fun q hq => by
     simp only [List.mem_cons, List.mem_nil_iff, or_false] at hq
     rcases hq with rfl | rfl | rfl
     ·decide
     ·exact HPL.out
     ·exact Nat.le_trans (Nat.le_refl 1) (by decide)))
    have hE0 : ([[0], pts, [(n : Int)]] : List (List Int)).flatten[0]? = some 0 := rfl
    have hEn : ([[0], pts, [(n : Int)]] : List (List Int)).flatten[pn + 1]? = some (n : Int) := by
     rw [HPN.out]
     simp
    have hEl : ([[0], pts, [(n : Int)]] : List (List Int)).flatten.length = pn + 2 := by rw [HPN.out]; simp
    obtain ⟨E, hE⟩ : ∃ E, Hid (([[0], pts, [(n : Int)]] : List (List Int)).flatten = E) := ⟨_, hide rfl⟩
    rw [hE.out] at hcat hE0 hEn hEl
    obtain ⟨en, hen⟩ : ∃ en, Hid (E.length = en) := ⟨_, hide rfl⟩
    rw [hen.out] at hcat hEl
    obtain ⟨m, hm⟩ : ∃ m, Hid (m + 1 = en) := ⟨pn + 1, hide (by omega)⟩
    have hm4 : m ≤ 10001 := by have := hm.out; omega
    have hm1 : 1 ≤ m := by have := hm.out; omega
    have HE0' := hide hE0
    have HEn : Hid (E[m]? = some (n : Int)) := hide (by rw [show m = pn + 1 by have := hm.out; omega]; exact hEn)
    have hmI : (en : Int) - 1 = (m : Int) := by have := hm.out; omega
    have hmN : en - 1 = m := by have := hm.out; omega
    have hen1 : 1 ≤ en := by have := hm.out; omega
    have HW3 := hide hW3
    rw [hW2, hW1] at hW3
    have hWW := hide hW3
    have HX3 := HX2.under hb2X
    have HT3 := HT2.below hb2X
    have HS3 := HS2.below hb2X
    have hbl3 := hbl2.trans (hb2X.mono hbl2.size)
    clear hN1 hN2 hN3 hb21 hb12 hb23 hs1 hsn1 hsn2 hsn3 hb2W hb2X hng HX2 HT2 HS2 HP2 hbl2 hW3 hE0 hEn hEl HW3 hs2 hW2 hW1
    have hd0 : ((n : Int) == 0) = decide (n = 0) := by by_cases h : n = 0 <;> simp [h]
    clear hd0
    go_wp2_with (first
     | (rw [← hWW.out]; go_at_call 49; refine hcat.out.mono ?_; rintro e w7 ⟨ga, ec, rfl, hO7, hb7⟩; refine hold ?_))
    refine hide ?_
    have HX7 := HX3.under hb7
    have HT7 := HT3.below hb7
    have HS7 := HS3.below hb7
    have hE7 : Sl w7 1 ga en ec (E.map I64) := hO7.sl
    have hbl7 := hbl3.trans (hb7.mono hbl3.size)
    clear HX3 HT3 HS3 hO7 hb7 hbl3 hcat hWW
    clear W1 W2 W3
    obtain ⟨gb, go, hab, hgb, hcE⟩ := hE7.ex (by rw [List.length_map, hen.out]; omega)
    subst hab
    clear hcE
    go_wp2_with (with_reducible refine cut_lo 39 22 _ _ 3 Try.underlying22 1 size_int (some ⟨gb, go, none⟩) en ec _ rfl hE7 _ _ 1 rfl rfl hen1 ?_; intro a39 hs39 hr39; refine hold ?_)
    refine hide ?_
    clear hs39 hr39
    rw [hmN]
    go_wp2_with fail
    go_loopg [41] m (fun gh v w' => ∃ j : Nat, j ≤ m ∧ gh = m - j ∧ v = .int .i64 (j : Int) ∧ Below w7.heap.size w7 w' ∧ (∀ i x y, i < j → E[i]? = some x → E[i + 1]? = some y → x < y))
    case atStart => exact ⟨0, Nat.zero_le _, rfl, rfl, Below.refl _ _, fun i x y h => absurd h (Nat.not_lt_zero _)⟩
    case round =>
     obtain ⟨j, hj, rfl, rfl, hb, hJ⟩ := hrel
     have HJ := hide hJ
     clear hJ
     by_cases hjm : j < m
     ·have d3 : decide ((j : Int) < (m : Int)) = true := decide_eq_true (by omega)
      have hEr := hE7.below hb
      obtain ⟨e0, he0⟩ : ∃ e0, E[j]? = some e0 := ⟨_, List.getElem?_eq_getElem (by have := hm.out; have := hen.out; omega)⟩
      obtain ⟨e1, he1⟩ : ∃ e1, E[j + 1]? = some e1 := ⟨_, List.getElem?_eq_getElem (by have := hm.out; have := hen.out; omega)⟩
      have HE0 := hide he0
      have HE1 := hide he1
      obtain ⟨b, o, hab, hbb, hcc⟩ := hEr.ex (by rw [List.length_map, hen.out]; omega)
      injection hab with hab
      injection hab with h1 h2
      subst h1; subst h2
      obtain ⟨q0, hq0⟩ : ∃ q, Hid (go + j = q) := ⟨_, hide rfl⟩
      obtain ⟨q1, hq1⟩ : ∃ q, Hid (go + (j + 1) = q) := ⟨_, hide rfl⟩
      have ce0 : wr.cell? ⟨gb, q0, none⟩ = some (.int .i64 e0) := by rw [← hq0.out]; exact hcc j _ (by rw [List.getElem?_map, he0]; rfl)
      have ce1 : wr.cell? ⟨gb, q1, none⟩ = some (.int .i64 e1) := by rw [← hq1.out]; exact hcc (j + 1) _ (by rw [List.getElem?_map, he1]; rfl)
      have hj0 : j < en := by have := hm.out; omega
      have hj1 : j + 1 < en := by have := hm.out; omega
      clear he0 he1 hcc hbb
      go_wp2_with fail
      refine wp_region_free 9 [⟨0, 44, [44], fun vs _ => vs = [.slice (some ⟨gb, go, none⟩) en ec]⟩, ⟨1, 45, [45], fun vs _ => vs = [.int .i64 (j : Int)]⟩, ⟨2, 46, [46], fun vs _ => vs = [.int .i64 ((j + 1 : Nat) : Int)]⟩, ⟨3, 47, [47], fun vs _ => vs = [.pointer (some ⟨gb, q1, none⟩)]⟩, ⟨4, 48, [48], fun vs _ => vs = [.int .i64 e1]⟩, ⟨5, 49, [49], fun vs _ => vs = [.slice (some ⟨gb, go, none⟩) en ec]⟩, ⟨6, 50, [50], fun vs _ => vs = [.int .i64 (j : Int)]⟩, ⟨7, 51, [51], fun vs _ => vs = [.pointer (some ⟨gb, q0, none⟩)]⟩, ⟨8, 52, [52], fun vs _ => vs = [.int .i64 e0]⟩] (by kernel_rfl) (by kernel_rfl) ?_ ?_ ?_
      ·simp only [All]
       refine ⟨fun _ _ _ _ h => h, fun _ _ _ _ h => h, fun _ _ _ _ h => h, fun _ _ _ _ h => h, fun _ _ _ _ h => h, fun _ _ _ _ h => h, fun _ _ _ _ h => h, fun _ _ _ _ h => h, fun _ _ _ _ h => h, trivial⟩
      ·simp only [All]
       refine ⟨?_, ?_, ?_, ?_, ?_, ?_, ?_, ?_, ?_, trivial⟩
       ·intro o ho a' w' hb hfr hdep; obtain rfl := oj ho
        have g9 : a'.tmps[9]?.getD undef = .slice (some ⟨gb, go, none⟩) en ec := by simpa using hfr 9 (by kernel_rfl)
        clear ho hfr hdep; go_wp2_with fail; exact ⟨rfl, _, rfl, br, rfl⟩
       ·intro o ho a' w' hb hfr hdep; obtain rfl := oj ho
        have g10 : a'.tmps[10]?.getD undef = .int .i64 (j : Int) := by simpa using hfr 10 (by kernel_rfl)
        clear ho hfr hdep; go_wp2_with fail; exact ⟨rfl, _, rfl, br, rfl⟩
       ·intro o ho a' w' hb hfr hdep; obtain rfl := oj ho
        have g45 : a'.tmps[45]?.getD undef = .int .i64 (j : Int) := by simpa using hdep 1 _ rfl (by kernel_rfl)
        clear ho hfr hdep; go_wp2_with fail; exact ⟨rfl, _, rfl, br, by simp⟩
       ·intro o ho a' w' hb hfr hdep; obtain rfl := oj ho
        have g44 : a'.tmps[44]?.getD undef = .slice (some ⟨gb, go, none⟩) en ec := by simpa using hdep 0 _ rfl (by kernel_rfl)
        have g46 : a'.tmps[46]?.getD undef = .int .i64 ((j + 1 : Nat) : Int) := by simpa using hdep 2 _ rfl (by kernel_rfl)
        clear ho hfr hdep; refine index_rowk 47 22 _ _ 3 Try.underlying22 1 size_int gb go en ec (by show a'.tmps.getD 44 undef = _; simpa using g44) _ _ (j + 1) (by show a'.tmps.getD 46 undef = _; simpa using g46) rfl hj1 ?_
        rw [Nat.mul_one, hq1.out]
        exact ⟨rfl, _, rfl, br, rfl⟩
       ·intro o ho a' w' hb hfr hdep; obtain rfl := oj ho
        have g47 : a'.tmps[47]?.getD undef = .pointer (some ⟨gb, q1, none⟩) := by simpa using hdep 3 _ rfl (by kernel_rfl)
        clear ho hfr hdep; have hcl := cell_below ce1 hb
        go_wp2_with fail; exact ⟨rfl, _, rfl, br, rfl⟩
       ·intro o ho a' w' hb hfr hdep; obtain rfl := oj ho
        have g9 : a'.tmps[9]?.getD undef = .slice (some ⟨gb, go, none⟩) en ec := by simpa using hfr 9 (by kernel_rfl)
        clear ho hfr hdep; go_wp2_with fail; exact ⟨rfl, _, rfl, br, rfl⟩
       ·intro o ho a' w' hb hfr hdep; obtain rfl := oj ho
        have g10 : a'.tmps[10]?.getD undef = .int .i64 (j : Int) := by simpa using hfr 10 (by kernel_rfl)
        clear ho hfr hdep; go_wp2_with fail; exact ⟨rfl, _, rfl, br, rfl⟩
       ·intro o ho a' w' hb hfr hdep; obtain rfl := oj ho
        have g49 : a'.tmps[49]?.getD undef = .slice (some ⟨gb, go, none⟩) en ec := by simpa using hdep 5 _ rfl (by kernel_rfl)
        have g50 : a'.tmps[50]?.getD undef = .int .i64 (j : Int) := by simpa using hdep 6 _ rfl (by kernel_rfl)
        clear ho hfr hdep; refine index_rowk 51 22 _ _ 3 Try.underlying22 1 size_int gb go en ec (by show a'.tmps.getD 49 undef = _; simpa using g49) _ _ j (by show a'.tmps.getD 50 undef = _; simpa using g50) rfl hj0 ?_
        rw [Nat.mul_one, hq0.out]
        exact ⟨rfl, _, rfl, br, rfl⟩
       ·intro o ho a' w' hb hfr hdep; obtain rfl := oj ho
        have g51 : a'.tmps[51]?.getD undef = .pointer (some ⟨gb, q0, none⟩) := by simpa using hdep 7 _ rfl (by kernel_rfl)
        clear ho hfr hdep; have hcl := cell_below ce0 hb
        go_wp2_with fail; exact ⟨rfl, _, rfl, br, rfl⟩
      ·intro gg w9 hbl hp'
       have p48 := hp' 4 _ rfl
       have p52 := hp' 8 _ rfl
       clear hp'
       simp at p48 p52
       simp only [List.drop_succ_cons, List.drop_zero, List.map_cons, List.map_nil, putAll, Act.put, List.setIfInBounds_toArray, List.set_cons_succ, List.set_cons_zero, List.cons_append, List.nil_append, p48, p52]
       clear p48 p52
       have hb9 := hb.trans (hbl.mono hb.size)
       clear hEr hb hbl ce0 ce1
       by_cases hle : e1 ≤ e0
       ·have d4 : decide (e1 ≤ e0) = true := decide_eq_true hle
        have he : (ER, RW) = (1, []) := by
         rw [← hWE.out]
         exact wdR_arg hFE.out HNZ.out (by rw [← HNL.out]; exact hE.out) (inc_not HE0.out HE1.out hle)
        obtain ⟨rfl, rfl⟩ := Prod.mk.inj he
        clear he
        go_wp2_with fail
        go_ret2
        exact ⟨⟨none, 0, 0, [], rfl, Ng.nil _⟩, hbl7.trans (hb9.mono hbl7.size)⟩
       ·have d4 : decide (e1 ≤ e0) = false := decide_eq_false hle
        have HJ2 : Hid (∀ i x y, i < j + 1 → E[i]? = some x → E[i + 1]? = some y → x < y) := hide (fun i x y hi hx hy => by
         by_cases h : i = j
         ·subst h
          rw [HE0.out] at hx
          rw [HE1.out] at hy
          injection hx with hx
          injection hy with hy
          omega
         ·exact HJ.out i x y (by omega) hx hy)
        go_wp2_with fail
        go_roundg (m - (j + 1))
        case measure => omega
        case rel => exact ⟨j + 1, by omega, rfl, by go_num, hb9, HJ2.out⟩
     ·obtain rfl : j = m := by omega
      have d3 : decide ((j : Int) < (j : Int)) = false := decide_eq_false (by omega)
      have hInc : IncE E := fun i x y hx hy => HJ.out i x y (by have h := (List.getElem?_eq_some_iff.1 hy).1; have := hm.out; have := hen.out; omega) hx hy
      have HI := hide hInc
      clear hInc HJ
      have HX8 := HX7.under hb
      have HT8 := HT7.below hb
      have HS8 := HS7.below hb
      have hE8 := hE7.below hb
      have hbl8 := hbl7.trans (hb.mono hbl7.size)
      have hgb8 : gb < wr.heap.size := Nat.lt_of_lt_of_le hgb hb.size
      obtain ⟨w8, rfl⟩ : ∃ w' : World, w' = wr := ⟨_, rfl⟩
      clear HX7 HT7 HS7 hE7 hbl7 hb hgb
      obtain ⟨m, rfl⟩ : ∃ z : Nat, z = j := ⟨_, rfl⟩
      go_wp2_with (with_reducible refine make_wide 58 37 _ _ 22 (.slice none 0 0) (.slice none 0 0) 1 24 Try.underlying37 info_hdw rfl (by decide) nil_at .i64 .i64 _ _ m rfl rfl rfl rfl (by omega) (by omega) ?_; intro wm HO9 hb9; refine hold ?_)
      refine hide ?_
      rw [Nat.mul_one] at HO9
      obtain ⟨bO, hbO⟩ : ∃ bO, Hid (w8.heap.size = bO) := ⟨_, hide rfl⟩
      rw [hbO.out] at HO9 hb9 ⊢
      have hbO9 : bO + 1 ≤ wm.heap.size := HO9.lt
      have hgbO : gb < bO := by rw [← hbO.out]; exact hgb8
      have hgTO : gT < bO := by rw [← hbO.out]; exact HX8.lt
      have hgwO : w.heap.size ≤ bO := by rw [← hbO.out]; exact hbl8.size
      have hEl : Hid ((E.map Int.toNat).length = m + 1) := hide (by rw [List.length_map, hen.out]; exact hm.out.symm)
      go_wp2_with fail
      go_loopg [61] m (fun gh v w' => ∃ (i : Nat) (hs : List (Option Addr × Nat × Nat)) (X : List (List Int)), i ≤ m ∧ gh = m - i ∧ v = .int .i64 (i : Int) ∧ hs.length = i ∧ WdI w' 3 (bO + 1) hs X ∧ Box w' bO 22 (hs.map hdv ++ List.replicate (m - i) (.slice none 0 0)) ∧ Below bO w8 w' ∧ bO + 1 ≤ w'.heap.size ∧ widW t l (E.map Int.toNat) = (widW t l ((E.map Int.toNat).drop i)).map (X ++ ·))
      case atStart => exact ⟨0, [], [], Nat.zero_le _, rfl, rfl, rfl, WdI.nil _ _ _, by rw [List.map_nil, List.nil_append, Nat.sub_zero]; exact HO9, hb9, hbO9, by simp⟩
      case round =>
       clear HO9 hb9 hbO9
       obtain ⟨i, hs, X, hi, rfl, rfl, hsl, hW, hO, hb, hBw, hwid⟩ := hrel
       have HWD := hide hwid
       have HSL := hide hsl
       clear hwid hsl
       by_cases him : i < m
       ·have d5 : decide ((i : Int) < (m : Int)) = true := decide_eq_true (by omega)
        obtain ⟨ex, hex⟩ : ∃ x, E[i]? = some x := ⟨_, List.getElem?_eq_getElem (by have := hm.out; have := hen.out; omega)⟩
        obtain ⟨hx0, hxn⟩ := inc_in HI.out HE0'.out (by have := hm.out; have := hen.out; omega : m + 1 = E.length) HEn.out hex
        obtain ⟨x, rfl⟩ : ∃ x : Nat, ex = (x : Int) := ⟨ex.toNat, by omega⟩
        have HEX := hide hex
        have hdrop : (E.map Int.toNat).drop i = x :: (E.map Int.toNat).drop (i + 1) := by
         rw [List.drop_eq_getElem_cons (by rw [hEl.out]; omega)]
         congr 1
         rw [List.getElem_map, (List.getElem?_eq_some_iff.1 hex).2]
         rfl
        have hdne : (E.map Int.toNat).drop (i + 1) ≠ [] := fun e => by
         have := congrArg List.length e
         rw [List.length_drop, hEl.out] at this
         simp at this
         omega
        have HDR := hide hdrop
        have HDN := hide hdne
        have hb' : Below w8.heap.size w8 wr := by rw [hbO.out]; exact hb
        have hEr := hE8.below hb'
        have hri : (en : Int) - ((i : Int) + 1) = ((m - i : Nat) : Int) := by have := hm.out; omega
        have hen2 : i + 1 ≤ en := by have := hm.out; omega
        have hmi : en - (i + 1) = m - i := by have := hm.out; omega
        clear hex hdrop hdne
        go_wp2_with (with_reducible refine cut_lo 67 22 _ _ 3 Try.underlying22 1 size_int (some ⟨gb, go, none⟩) en ec _ rfl hEr _ _ (i + 1) rfl (by first | rfl | (push_cast; rfl) | simp) hen2 ?_; intro a67 hs67 hr67; refine hold ?_)
        refine hide ?_
        rw [hmi]
        rw [hmi, Nat.mul_one, ← List.map_drop] at hs67
        obtain ⟨wi, rfl⟩ : ∃ w' : World, w' = wr := ⟨_, rfl⟩
        obtain ⟨S, hS⟩ : ∃ S, Hid (wi.heap.size = S) := ⟨_, hide rfl⟩
        have hbOS : bO + 1 ≤ S := by rw [← hS.out]; exact hBw
        obtain ⟨q, hq⟩ : ∃ q, m - i = q + 1 := ⟨m - i - 1, by omega⟩
        rw [hq, List.replicate_succ] at hO
        have HQ := hide hq
        have hqm : q + 1 = m - i := hq.symm
        have own_E : ∀ p, a67 = some p → p.block < bO := fun p hp => by
         obtain ⟨q, h1, h2⟩ := hr67 p hp
         injection h1 with h1
         subst h1
         simp only at h2
         omega
        clear hq hr67 hEr
        go_wp2_with fail
        go_loopg [69] (m - i) (fun gh v w' => ∃ (k : Nat) (R : List Int) (ra : Option Addr) (rn rc : Nat), k ≤ m - i ∧ gh = m - i - k ∧ v = .int .i64 (k : Int) ∧ rn = k ∧ Go.Dx.Own w' S 3 1 ra rn rc (R.map I64) ∧ Box w' bO 22 (hs.map hdv ++ .slice ra rn rc :: List.replicate q (.slice none 0 0)) ∧ Kg bO S wi w' ∧ rowW t l x ((E.map Int.toNat).drop (i + 1)) = (rowW t l x ((E.map Int.toNat).drop (i + 1 + k))).map (R ++ ·))
        case atStart => exact ⟨0, [], none, 0, 0, Nat.zero_le _, rfl, rfl, rfl, Go.Dx.Own.nil _ _ _ _, hO, Kg.refl _ _ _, by simp⟩
        case round =>
         clear hO
         obtain ⟨k, R, ra, rn, rc, hk, rfl, rfl, hrn, hR, hO, hkg, hrow⟩ := hrel
         have HRW := hide hrow
         have HRN := hide hrn
         have hrn4 : rn ≤ 20000 := by omega
         clear hrow hrn
         have hbk : Below bO w8 wr := hb.grown (hkg.grown hS.out) (by omega) (fun k hk => by cases hk; exact Nat.le_refl _)
         have hbk' : Below w8.heap.size w8 wr := by rw [hbO.out]; exact hbk
         have hSw : S ≤ wr.heap.size := by rw [← hS.out]; exact hkg.size
         by_cases hkm : k < m - i
         ·have d6 : decide ((k : Int) < ((m - i : Nat) : Int)) = true := decide_eq_true (by omega)
          obtain ⟨ez, hez⟩ : ∃ z, E[i + 1 + k]? = some z := ⟨_, List.getElem?_eq_getElem (by have := hm.out; have := hen.out; omega)⟩
          obtain ⟨hz0, hzn⟩ := inc_in HI.out HE0'.out (by have := hm.out; have := hen.out; omega : m + 1 = E.length) HEn.out hez
          have hxz := inc_lt HI.out k i _ _ HEX.out (by rw [show i + k + 1 = i + 1 + k by omega]; exact hez)
          obtain ⟨z, rfl⟩ : ∃ z : Nat, ez = (z : Int) := ⟨ez.toNat, by omega⟩
          have hdz : (E.drop (i + 1))[k]? = some (z : Int) := by rw [List.getElem?_drop]; exact hez
          have hdrop : (E.map Int.toNat).drop (i + 1 + k) = z :: (E.map Int.toNat).drop (i + 1 + (k + 1)) := by
           rw [List.drop_eq_getElem_cons (by rw [hEl.out]; omega)]
           congr 1
           rw [List.getElem_map, (List.getElem?_eq_some_iff.1 hez).2]
           rfl
          have HDZ := hide hdrop
          have hs67r : Sl wr 1 a67 (m - i) (ec - (i + 1)) ((E.drop (i + 1)).map I64) := hs67.grown (hkg.grown hS.out) (fun p hp e => by
           have := own_E p hp
           injection e with e
           omega)
          have hEr := hE8.below hbk'
          have HXr := HX8.below hbk hgTO
          have HTr := HT8.below hbk'
          have HSr := HS8.below hbk'
          have hxn' : x ≤ n := by omega
          have hzn' : z ≤ n := by omega
          have hxz' : x ≤ z := by omega
          clear hez hdrop
          go_upto_region 20 with (with_reducible refine idx_i 71 _ _ a67 (m - i) (ec - (i + 1)) (E.drop (i + 1)) rfl hs67r _ _ k rfl rfl _ hdz ?_; intro bI oI hcI hbI)
          clear hcI hs67r hdz
          have hin : i < en := by have := hm.out; omega
          obtain ⟨qx, hqx⟩ : ∃ q, Hid (go + i = q) := ⟨_, hide rfl⟩
          have cx : wr.cell? ⟨gb, qx, none⟩ = some (.int .i64 (x : Int)) := by
           obtain ⟨b, o, hab, hbb, hc⟩ := hEr.ex (by rw [List.length_map, hen.out]; omega)
           injection hab with hab
           injection hab with h1 h2
           subst h1; subst h2
           rw [← hqx.out]
           exact hc i _ (by rw [List.getElem?_map, HEX.out]; rfl)
          have hlr : ∀ q, a = some q → q.block < wr.heap.size := fun q hq => by
           obtain ⟨b, o, hab, hbb, hc⟩ := HSr.ex (by rw [flat_len sc_len]; have := HNL.out; omega)
           rw [hq] at hab
           injection hab with hab
           subst hab
           exact hbb
          obtain ⟨LP, hLP⟩ : ∃ LP, Hid ((l.drop x).take (z - x) = LP) := ⟨_, hide rfl⟩
          obtain ⟨TX, hX⟩ : ∃ X, Hid (trE t LP = X) := ⟨_, hide rfl⟩
          obtain ⟨TC, hC⟩ : ∃ X, Hid (trC t LP = X) := ⟨_, hide rfl⟩
          obtain ⟨TK, hK⟩ : ∃ X, Hid (trK t LP = X) := ⟨_, hide rfl⟩
          obtain ⟨TA, hA⟩ : ∃ X, Hid (trA t LP = X) := ⟨_, hide rfl⟩
          refine wp_region_chain4 14 (KeepsX 39) (GTr 39 wr (TC) (TK) (TA)) [⟨12, 15, [], fun _ _ => True⟩, ⟨13, 103, [0], fun _ _ => True⟩] [⟨0, 74, [74], fun vs _ => vs = [H.v]⟩, ⟨1, 75, [75], fun vs _ => vs = [.slice a n c]⟩, ⟨2, 76, [76], fun vs _ => vs = [.slice (some ⟨gb, go, none⟩) en ec]⟩, ⟨3, 77, [77], fun vs _ => vs = [.int .i64 (i : Int)]⟩, ⟨4, 78, [78], fun vs _ => vs = [.pointer (some ⟨gb, qx, none⟩)]⟩, ⟨5, 79, [79], fun vs _ => vs = [.int .i64 (x : Int)]⟩, ⟨6, 80, [80], fun vs _ => vs = [.int .i64 (z : Int)]⟩, ⟨7, 81, [81], fun vs _ => ∃ a', vs = [.slice a' (z - x) (c - x)] ∧ Sl wr 2 a' (z - x) (c - x) (LP.flatMap sc)⟩, ⟨8, 82, [82], TuF 39 TX (TC) (TK) (TA)⟩, ⟨9, 73, [73], TuF 39 TX (TC) (TK) (TA)⟩, ⟨10, 83, [83], VaF 39 (TC) (TK) (TA)⟩, ⟨11, 84, [84], fun vs _ => vs = [.int .i64 TX]⟩] (by kernel_rfl) (by kernel_rfl) ?_ (fun _ _ h => KeepsX.of h) GTr.mono ?_ ?_ ?_ ?_
          ·exact (Still.below 1 : Below wr.heap.size wr (wr.drewN 1))
          ·simp only [All]
           refine ⟨(fun _ _ _ _ h => h), (fun _ _ _ _ h => h), (fun _ _ _ _ h => h), (fun _ _ _ _ h => h), (fun _ _ _ _ h => h), (fun _ _ _ _ h => h), (fun _ _ _ _ h => h), (fun _ _ _ _ h => h), (fun _ _ _ hk h => h.keep hk), (fun _ _ _ hk h => h.keep hk), (fun _ _ _ hk h => h.keep hk), (fun _ _ _ _ h => h), trivial⟩
          ·intro m c hc o ho a w' hG hfr hdep
           rcases m with _ | _ | m
           ·cases hc
            obtain rfl := oj ho
            have hB : Below wr.heap.size wr w' := hG
            clear hfr hdep hG
            go_wp2_with fail
            exact ⟨rfl, _, rfl, KeepsX.of (blo _ _), w'.heap.size, rfl, hB.size, [.slice none 0 0, .slice none 0 0, .slice none 0 0], rfl, Box.new _ _ _, hB.alloc hB.size _⟩
           ·cases hc
            obtain rfl := oj ho
            obtain ⟨b9, e9, hlo9, cs9, hl9, hbx9, hB⟩ := hG
            obtain ⟨v9, g9, c9⟩ := hdep 10 _ rfl (by kernel_rfl)
            replace e9 : a.tmps.getD 15 undef = .pointer (some ⟨b9, 0, none⟩) := e9
            replace g9 : a.tmps.getD 83 undef = v9 := by simpa using g9
            obtain ⟨a1, n1, c1, a2, n2, c2, a3, n3, c3, hs9, hv9, -⟩ := c9.ce
            subst hv9
            clear ho hfr hdep; refine store_all 39 _ _ 39 b9 cs9 [.slice a1 n1 c1, .slice a2 n2 c2, .slice a3 n3 c3] _ size_cert hbx9 e9 g9 rfl (by rw [hl9]; rfl) (by simp [Value.oneCell']) ?_
            intro w10 hx10 hg10 hs10
            have hK := KeepsX.put hbx9 hg10
            have hb10 := hB.grown hg10 hB.size (fun k hk => by cases hk; exact hlo9)
            have E9 := hide e9
            clear e9 g9 hl9 hs10
            go_wp2_with fail
            exact ⟨rfl, undef, rfl, hK, b9, by first | rfl | exact E9.out | simpa using E9.out, hlo9, _, _, _, hx10, c9.keep hK, hb10⟩
           ·cases hc
          ·simp only [All]
           refine ⟨?_, ?_, ?_, ?_, ?_, ?_, ?_, ?_, ?_, ?_, ?_, ?_, trivial⟩
           ·intro o ho a' w' hfr hdep hst; obtain rfl := oj ho
            have hb : Below wr.heap.size wr w' := by obtain ⟨j, _, _, hG⟩ := hst; exact hG.bel
            have g3 : a'.tmps[3]?.getD undef = .pointer (some ⟨gT, 0, none⟩) := by simpa using hfr 3 (by kernel_rfl)
            clear ho hfr hdep hst; refine load_struct 74 29 _ 7 size_tables _ Try.underlying29 ⟨gT, 0, none⟩ (by show a'.tmps.getD 3 undef = _; simpa using g3) (tcells H) rfl (fun j u hj => by rw [Addr.add_lit, Nat.zero_add]; exact (HXr.under hb).at_ hj) ?_
            exact ⟨rfl, _, rfl, br, rfl⟩
           ·intro o ho a' w' hfr hdep hst; obtain rfl := oj ho
            have hb : Below wr.heap.size wr w' := by obtain ⟨j, _, _, hG⟩ := hst; exact hG.bel
            have g1 : a'.tmps[1]?.getD undef = .slice a n c := by simpa using hfr 1 (by kernel_rfl)
            clear ho hfr hdep hst; go_wp2_with fail; exact ⟨rfl, _, rfl, br, rfl⟩
           ·intro o ho a' w' hfr hdep hst; obtain rfl := oj ho
            have hb : Below wr.heap.size wr w' := by obtain ⟨j, _, _, hG⟩ := hst; exact hG.bel
            have g9 : a'.tmps[9]?.getD undef = .slice (some ⟨gb, go, none⟩) en ec := by simpa using hfr 9 (by kernel_rfl)
            clear ho hfr hdep hst; go_wp2_with fail; exact ⟨rfl, _, rfl, br, rfl⟩
           ·intro o ho a' w' hfr hdep hst; obtain rfl := oj ho
            have hb : Below wr.heap.size wr w' := by obtain ⟨j, _, _, hG⟩ := hst; exact hG.bel
            have g12 : a'.tmps[12]?.getD undef = .int .i64 (i : Int) := by simpa using hfr 12 (by kernel_rfl)
            clear ho hfr hdep hst; go_wp2_with fail; exact ⟨rfl, _, rfl, br, rfl⟩
           ·intro o ho a' w' hfr hdep hst; obtain rfl := oj ho
            have hb : Below wr.heap.size wr w' := by obtain ⟨j, _, _, hG⟩ := hst; exact hG.bel
            have g76 : a'.tmps[76]?.getD undef = .slice (some ⟨gb, go, none⟩) en ec := by simpa using hdep 2 _ rfl (by kernel_rfl)
            have g77 : a'.tmps[77]?.getD undef = .int .i64 (i : Int) := by simpa using hdep 3 _ rfl (by kernel_rfl)
            clear ho hfr hdep hst; refine index_rowk 78 22 _ _ 3 Try.underlying22 1 size_int gb go en ec (by show a'.tmps.getD 76 undef = _; simpa using g76) _ _ i (by show a'.tmps.getD 77 undef = _; simpa using g77) rfl hin ?_
            rw [Nat.mul_one, hqx.out]
            exact ⟨rfl, _, rfl, br, rfl⟩
           ·intro o ho a' w' hfr hdep hst; obtain rfl := oj ho
            have hb : Below wr.heap.size wr w' := by obtain ⟨j, _, _, hG⟩ := hst; exact hG.bel
            have g78 : a'.tmps[78]?.getD undef = .pointer (some ⟨gb, qx, none⟩) := by simpa using hdep 4 _ rfl (by kernel_rfl)
            clear ho hfr hdep hst; have hcl := cell_below cx hb
            go_wp2_with fail; exact ⟨rfl, _, rfl, br, rfl⟩
           ·intro o ho a' w' hfr hdep hst; obtain rfl := oj ho
            have hb : Below wr.heap.size wr w' := by obtain ⟨j, _, _, hG⟩ := hst; exact hG.bel
            have g14 : a'.tmps[14]?.getD undef = .int .i64 (z : Int) := by simpa using hfr 14 (by kernel_rfl)
            clear ho hfr hdep hst; go_wp2_with fail; exact ⟨rfl, _, rfl, br, rfl⟩
           ·intro o ho a' w' hfr hdep hst; obtain rfl := oj ho
            have hb : Below wr.heap.size wr w' := by obtain ⟨j, _, _, hG⟩ := hst; exact hG.bel
            have g75 : a'.tmps[75]?.getD undef = .slice a n c := by simpa using hdep 1 _ rfl (by kernel_rfl)
            have g79 : a'.tmps[79]?.getD undef = .int .i64 (x : Int) := by simpa using hdep 5 _ rfl (by kernel_rfl)
            have g80 : a'.tmps[80]?.getD undef = .int .i64 (z : Int) := by simpa using hdep 6 _ rfl (by kernel_rfl)
            clear ho hfr hdep hst; refine cut_sl 81 31 _ _ _ 88 Try.underlying31 2 size_sym a n c _ (by show a'.tmps.getD 75 undef = _; simpa using g75) (HSr.below hb) .i64 .i64 _ _ x z (by show a'.tmps.getD 79 undef = _; simpa using g79) (by show a'.tmps.getD 80 undef = _; simpa using g80) rfl rfl hxz' hzn' ?_
            intro a9 hs9 hr9
            rw [flat_drop sc_len, flat_take sc_len, hLP.out] at hs9
            exact ⟨rfl, _, rfl, br, a9, rfl, hs9.back hb (fun p hp h0 => by
             obtain ⟨q, h1, h2⟩ := hr9 p hp
             rw [← h2]
             exact hlr q h1)⟩
           ·intro o ho a' w' hfr hdep hst; obtain rfl := oj ho
            have hb : Below wr.heap.size wr w' := by obtain ⟨j, _, _, hG⟩ := hst; exact hG.bel
            have g74 : a'.tmps[74]?.getD undef = H.v := by simpa using hdep 0 _ rfl (by kernel_rfl)
            obtain ⟨a81, g81, s81⟩ := hdep 7 _ rfl (by kernel_rfl)
            simp at g81
            clear ho hfr hdep hst; have htr := hide (tr_at H t LP a81 (z - x) (c - x) w' (HTr.below hb) (s81.below hb) hX.out hC.out hK.out hA.out)
            go_wp2_with (go_at_call 13; refine htr.out.mono ?_; rintro e w3 ⟨⟨v, rfl, hce⟩, h3⟩)
            exact ⟨rfl, _, rfl, h3, _, rfl, hce⟩
           ·intro o ho a' w' hfr hdep hst; obtain rfl := oj ho
            obtain ⟨v82, g82, c82⟩ := hdep 8 _ rfl (by kernel_rfl)
            simp at g82
            clear ho hfr hdep hst; go_wp2_with fail; exact ⟨rfl, _, rfl, br, _, rfl, c82⟩
           ·intro o ho a' w' hfr hdep hst; obtain rfl := oj ho
            obtain ⟨v73, g73, c73⟩ := hdep 9 _ rfl (by kernel_rfl)
            simp at g73
            clear ho hfr hdep hst; go_wp2_with fail; exact ⟨rfl, _, rfl, br, _, rfl, c73⟩
           ·intro o ho a' w' hfr hdep hst; obtain rfl := oj ho
            obtain ⟨v73, g73, c73⟩ := hdep 9 _ rfl (by kernel_rfl)
            simp at g73
            clear ho hfr hdep hst; go_wp2_with fail; exact ⟨rfl, _, rfl, br, rfl⟩
          ·intro g w9 hG hp
           obtain ⟨b9, e9, hlo9, s1, s2, s3, hx9, hc9, hb9⟩ := hG
           have p9 := hp 11 _ rfl
           replace e9 : g 15 = .pointer (some ⟨b9, 0, none⟩) := e9
           clear hp
           replace p9 : g 84 = .int .i64 TX := by simpa using p9
           simp only [List.drop_succ_cons, List.drop_zero, List.map_cons, List.map_nil, putAll, Act.put, List.setIfInBounds_toArray, List.set_cons_succ, List.set_cons_zero, List.set_nil, List.cons_append, List.nil_append, e9, p9]
           clear e9 p9
           have HO9 := hO.under hb9
           have HR9 := hR.below hb9
           have hkg9 := hkg.step (grown_of hb9) (by rw [hS.out]; exact Nat.le_refl _) (fun k hk => by cases hk)
           have hbk9 := hbk.trans (hb9.mono (by omega))
           clear hEr HXr HTr HSr cx hlr hbk hbk' hR hO hkg
           by_cases htx : TX = 0
           ·subst htx
            obtain ⟨a1, n1, c1, a2, n2, c2, a3, n3, c3, hs3, rfl, rfl, rfl, hC1, -, -⟩ := hc9.parts
            have hn1 : n1 = TC.length := hC1.n_eq
            have hv1 : Hid ((n1 : Int) = numV t LP) := hide (by
             have h1 := hC.out
             unfold trC at h1
             rw [if_pos hX.out] at h1
             have h2 := piece_num hFE.out x (z - x) (by rw [hLP.out]; exact hX.out)
             rw [hLP.out, h1] at h2
             rw [hn1]
             exact h2)
            have hr1 : Hid (rowW t l x ((E.map Int.toNat).drop (i + 1)) = (rowW t l x ((E.map Int.toNat).drop (i + 1 + (k + 1)))).map ((R ++ [(n1 : Int)]) ++ ·)) := hide (by
             rw [HRW.out, HDZ.out, rowW_ok (by rw [hLP.out]; exact hX.out), hLP.out, ← hv1.out, Option.map_map]
             congr 1
             funext y
             simp)
            have cO : w9.cell? ⟨bO, i, none⟩ = some (.slice ra rn rc) := HO9.at_ (by rw [List.getElem?_append_right (by rw [List.length_map, HSL.out]; exact Nat.le_refl _), List.length_map, HSL.out, Nat.sub_self]; rfl)
            have cC : w9.cell? ⟨b9, 0, none⟩ = some (.slice a1 n1 c1) := hx9.at_ rfl
            have hS9 : S ≤ w9.heap.size := Nat.le_trans hSw hb9.size
            clear hc9 hC1 hn1 HRW HDZ
            go_wp2_with fail
            refine wp_region_mid 11 (fun w' => w'.cell? ⟨bO, i, none⟩ = some (.slice ra rn rc) ∧ w'.cell? ⟨b9, 0, none⟩ = some (.slice a1 n1 c1)) (fun w' => Box w' bO 22 (hs.map hdv ++ .slice ra rn rc :: List.replicate q (.slice none 0 0)) ∧ Box w' b9 39 [.slice a1 n1 c1, .slice a2 n2 c2, .slice a3 n3 c3] ∧ Kg bO S wi w') ⟨10, 98, [98], fun vs w => ∃ a c, vs = [.slice a (rn + 1) c] ∧ Go.Dx.Own w S 3 1 a (rn + 1) c ((R ++ [(n1 : Int)]).map I64)⟩ [⟨9, 97, [97], HdL w9.heap.size (.int .i64 (n1 : Int))⟩] [⟨0, 88, [88], fun vs _ => vs = [.slice (some ⟨bO, 0, none⟩) m m]⟩, ⟨1, 89, [89], fun vs _ => vs = [.int .i64 (i : Int)]⟩, ⟨2, 90, [90], fun vs _ => vs = [.slice (some ⟨bO, 0, none⟩) m m]⟩, ⟨3, 91, [91], fun vs _ => vs = [.int .i64 (i : Int)]⟩, ⟨4, 92, [92], fun vs _ => vs = [.pointer (some ⟨bO, i, none⟩)]⟩, ⟨5, 93, [93], fun vs _ => vs = [.slice ra rn rc]⟩, ⟨6, 94, [94], fun vs _ => vs = [.pointer (some ⟨b9, 0, none⟩)]⟩, ⟨7, 95, [95], fun vs _ => vs = [.slice a1 n1 c1]⟩, ⟨8, 96, [96], fun vs _ => vs = [.int .i64 (n1 : Int)]⟩] (by kernel_rfl) (by kernel_rfl) ?_ ?_ ?_ ?_ ?_ ?_ ?_
            ·exact fun w' h => ⟨cell_below cO h, cell_below cC h⟩
            ·exact fun w' h => ⟨h.1.at_ (by rw [List.getElem?_append_right (by rw [List.length_map, HSL.out]; exact Nat.le_refl _), List.length_map, HSL.out, Nat.sub_self]; rfl), h.2.1.at_ rfl⟩
            ·simp only [All, List.cons_append, List.nil_append]
             refine ⟨?_, fun _ _ _ _ h => h, fun _ _ _ _ h => h, fun _ _ _ _ h => h, fun _ _ _ _ h => h, fun _ _ _ _ h => h, fun _ _ _ _ h => h, fun _ _ _ _ h => h, fun _ _ _ _ h => h, fun _ _ _ _ h => h, trivial⟩
             ·exact fun vs w1 w2 hb h => h.below hb
            ·intro o ho a' w' hb hfr hdep; obtain rfl := oj ho
             have g93 : a'.tmps[93]?.getD undef = .slice ra rn rc := by simpa using hdep 7 _ rfl (by kernel_rfl)
             obtain ⟨q97, g97, l97, s97⟩ := hdep 1 _ rfl (by kernel_rfl)
             simp at g97
             clear ho hfr hdep; have hR' := HR9.below hb
             have hS' := Nat.le_trans hS9 hb.size
             refine app_is rfl _ _ rfl w' S ra rn rc _ (by show a'.tmps.getD 93 undef = _; simpa using g93) hR' (some ⟨q97, 0, none⟩) 1 1 [(n1 : Int)] (by show a'.tmps.getD 97 undef = _; simpa using g97) s97 (by omega) hS' (Below.refl _ _) ?_
             intro a98 c98 w98 hO98 gb98 hb98
             refine ⟨rfl, _, rfl, ⟨a98, c98, rfl, by rw [List.map_append]; exact hO98⟩, ⟨(HO9.under hb).grown gb98 (own_lt hR' (by omega)), (hx9.under hb).grown gb98 (own_box hR' (hx9.under hb) (by decide)), (hkg9.step (grown_of hb) (by rw [hS.out]; exact Nat.le_refl _) (fun k hk => by cases hk)).step gb98 (by rw [hS.out]; exact Nat.le_refl _) (fun k hk => .inr (own_ge hR' k hk))⟩, ?_⟩
             simp only [All, List.cons_append, List.nil_append]
             exact ⟨fun vs ⟨q, h1, h2, h3⟩ => ⟨q, h1, h2, h3.grown gb98 (fun p hp e => by
              cases hp
              exact own_new HR9 h2 e)⟩, fun _ h => h, fun _ h => h, fun _ h => h, fun _ h => h, fun _ h => h, fun _ h => h, fun _ h => h, fun _ h => h, fun _ h => h, trivial⟩
            ·simp only [All]
             refine ⟨?_, trivial⟩
             ·intro o ho a' w' hb hfr hdep; obtain rfl := oj ho
              have g96 : a'.tmps[96]?.getD undef = .int .i64 (n1 : Int) := by simpa using hdep 10 _ rfl (by kernel_rfl)
              clear ho hfr hdep; go_wp2_with fail
              exact ⟨rfl, _, rfl, blo _ _, _, rfl, hb.size, Sl.fresh w' 3 1 1 [.int .i64 (n1 : Int)] rfl (by decide)⟩
            ·simp only [All]
             refine ⟨?_, ?_, ?_, ?_, ?_, ?_, ?_, ?_, ?_, trivial⟩
             ·intro o ho a' w' hb hfr hdep; obtain rfl := oj ho
              have g11 : a'.tmps[11]?.getD undef = .slice (some ⟨bO, 0, none⟩) m m := by simpa using hfr 11 (by kernel_rfl)
              clear ho hfr hdep; go_wp2_with fail
              exact ⟨rfl, _, rfl, rfl, rfl⟩
             ·intro o ho a' w' hb hfr hdep; obtain rfl := oj ho
              have g12 : a'.tmps[12]?.getD undef = .int .i64 (i : Int) := by simpa using hfr 12 (by kernel_rfl)
              clear ho hfr hdep; go_wp2_with fail
              exact ⟨rfl, _, rfl, rfl, rfl⟩
             ·intro o ho a' w' hb hfr hdep; obtain rfl := oj ho
              have g11 : a'.tmps[11]?.getD undef = .slice (some ⟨bO, 0, none⟩) m m := by simpa using hfr 11 (by kernel_rfl)
              clear ho hfr hdep; go_wp2_with fail
              exact ⟨rfl, _, rfl, rfl, rfl⟩
             ·intro o ho a' w' hb hfr hdep; obtain rfl := oj ho
              have g12 : a'.tmps[12]?.getD undef = .int .i64 (i : Int) := by simpa using hfr 12 (by kernel_rfl)
              clear ho hfr hdep; go_wp2_with fail
              exact ⟨rfl, _, rfl, rfl, rfl⟩
             ·intro o ho a' w' hb hfr hdep; obtain rfl := oj ho
              have g90 : a'.tmps[90]?.getD undef = .slice (some ⟨bO, 0, none⟩) m m := by simpa using hdep 4 _ rfl (by kernel_rfl)
              have g91 : a'.tmps[91]?.getD undef = .int .i64 (i : Int) := by simpa using hdep 5 _ rfl (by kernel_rfl)
              clear ho hfr hdep; refine index_known 92 37 _ _ 22 Try.underlying37 size_hd bO m m (by show a'.tmps.getD 90 undef = _; simpa using g90) _ _ i (by show a'.tmps.getD 91 undef = _; simpa using g91) rfl him ?_
              exact ⟨rfl, _, rfl, rfl, rfl⟩
             ·intro o ho a' w' hb hfr hdep; obtain rfl := oj ho
              have g92 : a'.tmps[92]?.getD undef = .pointer (some ⟨bO, i, none⟩) := by simpa using hdep 6 _ rfl (by kernel_rfl)
              clear ho hfr hdep; have hcl := hb.1
              go_wp2_with fail
              exact ⟨rfl, _, rfl, rfl, rfl⟩
             ·intro o ho a' w' hb hfr hdep; obtain rfl := oj ho
              have g15 : a'.tmps[15]?.getD undef = .pointer (some ⟨b9, 0, none⟩) := by simpa using hfr 15 (by kernel_rfl)
              clear ho hfr hdep; go_wp2_with fail
              exact ⟨rfl, _, rfl, rfl, rfl⟩
             ·intro o ho a' w' hb hfr hdep; obtain rfl := oj ho
              have g94 : a'.tmps[94]?.getD undef = .pointer (some ⟨b9, 0, none⟩) := by simpa using hdep 8 _ rfl (by kernel_rfl)
              clear ho hfr hdep; have hcl := hb.2
              go_wp2_with fail
              exact ⟨rfl, _, rfl, rfl, rfl⟩
             ·intro o ho a' w' hb hfr hdep; obtain rfl := oj ho
              have g95 : a'.tmps[95]?.getD undef = .slice a1 n1 c1 := by simpa using hdep 9 _ rfl (by kernel_rfl)
              clear ho hfr hdep; go_wp2_with fail
              exact ⟨rfl, _, rfl, rfl, rfl⟩
            ·intro gg w11 hG hp'
             obtain ⟨hO11, hx11, hkg11⟩ := hG
             obtain ⟨a98, c98, e98, hR11⟩ := hp' 0 _ rfl
             have p88 := hp' 2 _ rfl
             have p89 := hp' 3 _ rfl
             clear hp'
             simp at e98 p88 p89
             simp only [List.drop_succ_cons, List.drop_zero, List.map_cons, List.map_nil, putAll, Act.put, List.setIfInBounds_toArray, List.set_cons_succ, List.set_cons_zero, List.cons_append, List.nil_append, e98, p88, p89]
             clear e98 p88 p89 HO9 HR9 hkg9 cO cC hx9 hx11 hS9 hbk9
             have hS11 : S ≤ w11.heap.size := by rw [← hS.out]; exact hkg11.size
             go_wp2_with (first
              | (with_reducible refine index_known 99 37 _ _ 22 Try.underlying37 size_hd bO m m rfl _ _ i rfl rfl him ?_)
              | (with_reducible refine hold_store ?_))
             refine hide ?_
             refine store_cell 22 _ _ 22 bO i _ (.slice a98 (rn + 1) c98) size_hd hO11 rfl rfl rfl rfl (by rw [List.length_append, List.length_map, HSL.out]; simp) ?_; intro w12 hO12 gb12 zb12
             rw [set_midw (by rw [List.length_map]; exact HSL.out)] at hO12
             have hR12 := hR11.keptK gb12 (by omega)
             have hkg12 := hkg11.step gb12 (by rw [hS.out]; exact Nat.le_refl _) (fun k hk => by cases hk; exact .inl rfl)
             clear hO11 hR11 hkg11 gb12 zb12
             go_wp2_with fail
             go_roundg (m - i - (k + 1))
             case measure => omega
             case rel => exact ⟨k + 1, R ++ [(n1 : Int)], a98, rn + 1, c98, by omega, rfl, by go_num, by have := HRN.out; omega, hR12, hO12, hkg12, hr1.out⟩
           ·have d7 : (TX == 0) = false := by simp [htx]
            have hTX : TX = 6 := by
             have := piece_err hFE.out x (z - x) (by rw [hLP.out, hX.out]; exact htx)
             rw [hLP.out, hX.out] at this
             exact this
            have e1 : rowW t l x ((E.map Int.toNat).drop (i + 1)) = none := by
             rw [HRW.out, HDZ.out, rowW_bad (by rw [hLP.out, hX.out]; exact htx)]
             rfl
            have e2 : widW t l (E.map Int.toNat) = none := by
             rw [HWD.out, HDR.out, widW_none HDN.out e1]
             rfl
            have he : (ER, RW) = (6, []) := by rw [← hWE.out]; exact wdR_none hFE.out HNZ.out (by rw [← HNL.out]; exact hE.out) (inc_of HI.out) e2
            obtain ⟨rfl, rfl⟩ := Prod.mk.inj he
            subst hTX
            clear e1 e2 he htx d7
            go_wp2_with fail
            go_ret2
            exact ⟨⟨none, 0, 0, [], rfl, Ng.nil _⟩, hbl8.trans (hbk9.mono hgwO)⟩
         ·obtain rfl : k = m - i := by omega
          have d6 : decide (((m - i : Nat) : Int) < ((m - i : Nat) : Int)) = false := decide_eq_false (by omega)
          have e1 := HRW.out
          have e0 : (E.map Int.toNat).drop (i + 1 + (m - i)) = [] := List.drop_eq_nil_of_le (by rw [hEl.out]; omega)
          rw [e0] at e1
          simp only [rowW, Option.map_some, List.append_nil] at e1
          have e2 := widW_some HDN.out e1
          have HE2 : Hid (widW t l (E.map Int.toNat) = (widW t l ((E.map Int.toNat).drop (i + 1))).map ((X ++ [R]) ++ ·)) := hide (by
           rw [HWD.out, HDR.out, e2, Option.map_map]
           congr 1
           funext y
           simp)
          have hWr := (hW.kept (hkg.grown hS.out) (Nat.lt_succ_self _)).push (x := (ra, rn, rc)) (r := R) (hR.mono hbOS)
          have hOr : Box wr bO 22 ((hs ++ [(ra, rn, rc)]).map hdv ++ List.replicate (m - (i + 1)) (.slice none 0 0)) := by
           rw [show m - (i + 1) = q by omega, List.map_append, List.append_assoc]
           exact hO
          have hB2 : bO + 1 ≤ wr.heap.size := by omega
          have hsl2 : (hs ++ [(ra, rn, rc)]).length = i + 1 := by rw [List.length_append, HSL.out]; rfl
          have HSL2 := hide hsl2
          clear e1 e2 hW hO hR hkg HRW hsl2 hbk' hSw
          go_wp2_with fail
          go_roundg (m - (i + 1))
          case measure => omega
          case rel => exact ⟨i + 1, hs ++ [(ra, rn, rc)], X ++ [R], by omega, rfl, by go_num, HSL2.out, hWr, hOr, hbk, hB2, HE2.out⟩
       ·obtain rfl : i = m := by omega
        have d5 : decide ((i : Int) < (i : Int)) = false := decide_eq_false (by omega)
        have e1 := HWD.out
        have e2 : ∃ y, (E.map Int.toNat).drop i = [y] := by
         rw [List.drop_eq_getElem_cons (by rw [hEl.out]; omega), List.drop_eq_nil_of_le (by rw [hEl.out]; exact Nat.le_refl _)]
         exact ⟨_, rfl⟩
        obtain ⟨y, e2⟩ := e2
        rw [e2, widW_last] at e1
        simp only [Option.map_some, List.append_nil] at e1
        have he : (ER, RW) = (0, X) := by rw [← hWE.out]; exact wdR_some hFE.out HNZ.out (by rw [← HNL.out]; exact hE.out) (inc_of HI.out) e1
        obtain ⟨rfl, rfl⟩ := Prod.mk.inj he
        rw [Nat.sub_self, List.replicate_zero, List.append_nil] at hO
        have hng := hW.ng HSL.out hO (by omega)
        clear e1 e2 he hO hW
        go_wp2_with fail
        go_ret2
        exact ⟨⟨_, _, _, hs, rfl, hng⟩, hbl8.trans (hb.mono hgwO)⟩
 ·have d1 : (FE == 0) = false := by simp [hfe]
  have he : (ER, RW) = (FE, []) := by rw [← hWE.out, ← hFE.out]; exact wdR_fits (by rw [hFE.out]; exact hfe)
  obtain ⟨rfl, rfl⟩ := Prod.mk.inj he
  clear he
  go_wp2_with fail
  go_ret2
  exact ⟨⟨none, 0, 0, [], rfl, Ng.nil _⟩, hbl2⟩
end Go.Proofs.Ytlpkicjijlcbfaa
end

section
/- Chapter 08: the reference's Numbers. -/
namespace Go.Dx
open Go.RowKit
theorem rowc_set (r : List Int) (k : Nat) (v : Int) : (rowc r).set k (I64 v) = rowc (r.set k v) := by unfold rowc; rw [List.map_set]
end Go.Dx
namespace Go.Proofs.Ytlpkicjijlcbfaa
open Go.RowKit Go.Dx Go.Al
structure RwM (W : World) (tt ti : TypeId) (B : Nat) (bs : List Nat) (A : Nums) (a3 : Option Addr) (c3 : Nat) : Prop where
 top : Go.Dx.Own W B tt 1 a3 bs.length c3 (bs.map hdB)
 len : bs.length = A.length
 row : ∀ (i b : Nat) (r : List Int), bs[i]? = some b → A[i]? = some r → Box W b ti (rowc r)
 fresh : ∀ b ∈ bs, B ≤ b
 nodup : bs.Nodup
theorem RwM.nil (W : World) (tt ti : TypeId) (B : Nat) : RwM W tt ti B [] [] none 0 := ⟨Go.Dx.Own.nil _ _ _ _, rfl, fun i b r h => by simp at h, fun b h => (by cases h), List.nodup_nil⟩
theorem RwM.below {W W' : World} {tt ti : TypeId} {B : Nat} {bs : List Nat} {A : Nums} {a3 : Option Addr} {c3 : Nat} (h : RwM W tt ti B bs A a3 c3) (hb : Below W.heap.size W W') : RwM W' tt ti B bs A a3 c3 :=
 ⟨h.top.below hb, h.len, fun i b r hi hr => (h.row i b r hi hr).under hb, h.fresh, h.nodup⟩
theorem RwM.lt {W : World} {tt ti : TypeId} {B : Nat} {bs : List Nat} {A : Nums} {a3 : Option Addr} {c3 : Nat} (h : RwM W tt ti B bs A a3 c3) {b : Nat} (hb : b ∈ bs) : b < W.heap.size := by
 obtain ⟨i, hi, e⟩ := List.getElem_of_mem hb
 exact (h.row i b (A[i]'(by rw [← h.len]; exact hi)) (by rw [List.getElem?_eq_getElem hi, e]) (List.getElem?_eq_getElem _)).lt
theorem RwM.push {W W' : World} {tt ti : TypeId} {B : Nat} {bs : List Nat} {A : Nums} {a3 a3' : Option Addr} {c3 c3' : Nat} {b : Nat} {r : List Int} (h : RwM W tt ti B bs A a3 c3) (hne : tt ≠ ti) (hx : Box W b ti (rowc r)) (hB : B ≤ b) (hnew : b ∉ bs)
  (ht : Go.Dx.Own W' B tt 1 a3' (bs.length + 1) c3' (bs.map hdB ++ [hdB b])) (hg : W.grownBy W' (a3.map (·.block))) : RwM W' tt ti B (bs ++ [b]) (A ++ [r]) a3' c3' := by
 refine ⟨by rw [List.length_append, List.map_append]; exact ht, by simp [h.len], fun i y q hi hq => ?_, fun y hy => ?_, ?_⟩
 ·rcases Nat.lt_or_ge i bs.length with hlt | hge
  ·rw [List.getElem?_append_left hlt] at hi
   rw [List.getElem?_append_left (by rw [← h.len]; exact hlt)] at hq
   have h1 := h.row i y q hi hq
   exact h1.grown hg (own_box h.top h1 hne)
  ·have e : i = bs.length := by
    have := (List.getElem?_eq_some_iff.1 hi).1
    rw [List.length_append, List.length_singleton] at this
    omega
   subst e
   rw [List.getElem?_append_right (Nat.le_refl _), Nat.sub_self] at hi
   rw [h.len, List.getElem?_append_right (Nat.le_refl _), Nat.sub_self] at hq
   injection hi with hi
   injection hq with hq
   subst hi; subst hq
   exact hx.grown hg (own_box h.top hx hne)
 ·rcases List.mem_append.1 hy with hy | hy
  ·exact h.fresh y hy
  ·rw [List.mem_singleton] at hy; subst hy; exact hB
 ·rw [List.nodup_append]
  exact ⟨h.nodup, by simp, fun z hz y hy e => by rw [List.mem_singleton] at hy; rw [hy] at e; rw [e] at hz; exact hnew hz⟩
theorem RwM.ng {W : World} {tt ti : TypeId} {B : Nat} {bs : List Nat} {A : Nums} {a3 : Option Addr} {c3 : Nat} (h : RwM W tt ti B bs A a3 c3) (h8 : R8 A) : Ng W a3 bs.length c3 (bs.map fun b => ((some ⟨b, 0, none⟩ : Option Addr), 8, 8)) A := by
 refine ⟨?_, by rw [List.length_map, h.len], fun i x r hx hr => ?_⟩
 ·have h1 := h.top.sl
  rw [List.map_map]
  exact h1
 ·rw [List.getElem?_map] at hx
  cases hb : bs[i]? with
  | none => rw [hb] at hx; cases hx
  | some b =>
   rw [hb] at hx
   injection hx with hx
   subst hx
   have h1 := h.row i b r hb hr
   have h2 := h8 r (List.mem_of_getElem? hr)
   exact ⟨by simp [h2], Nat.le_refl _, by unfold maxLen; show 8 ≤ _; decide, fun e => (by cases e), fun p hp j u hj => by
    injection hp with hp
    subst hp
    rw [Addr.add_lit, Nat.zero_add]
    exact h1.at_ hj⟩
theorem RwM.set {W W' : World} {tt ti : TypeId} {B : Nat} {bs : List Nat} {A : Nums} {a3 : Option Addr} {c3 : Nat} (h : RwM W tt ti B bs A a3 c3) (hne : tt ≠ ti) {j b : Nat} {r q : List Int} (hj : bs[j]? = some b) (hr : A[j]? = some r)
  (hx : Box W' b ti (rowc q)) (hg : W.grownBy W' (some b)) : RwM W' tt ti B bs (A.set j q) a3 c3 := by
 have hbx := h.row j b r hj hr
 refine ⟨h.top.kept hg (fun p hp e => ?_), by simp [h.len], fun i y s hi hs => ?_, h.fresh, h.nodup⟩
 ·have h1 := own_box h.top hbx hne
  rw [hp] at h1
  exact h1 e.symm
 ·by_cases hij : i = j
  ·subst hij
   rw [hj] at hi
   injection hi with hi
   subst hi
   rw [List.getElem?_set_self (List.getElem?_eq_some_iff.1 hr).1] at hs
   injection hs with hs
   subst hs
   exact hx
  ·rw [List.getElem?_set_ne (fun e => hij e.symm)] at hs
   refine (h.row i y s hi hs).grown hg (fun e => ?_)
   injection e with e
   subst e
   exact hij ((List.getElem?_inj (List.getElem?_eq_some_iff.1 hi).1 h.nodup).1 (hi.trans hj.symm))
section
variable {w : World} {ops : Array Oper} {rest : List Oper} {o : Oper} {act : Act} {Q : Exit → Act → World → Prop}
theorem app_row (hg : o.guard = none) (s x : Operand) (hop : o.op = Op.call { callee := Callee.builtin Builtin.append, args := #[s, x], argTypes := #[37, 37] })
  (w0 : World) (B : Nat) (a : Option Addr) (n c : Nat) (xs : List Value) (hs : act.eval s = .slice a n c) (hown : Go.Dx.Own w B 22 1 a n c xs)
  (u : Value) (hu : u.oneCell' = true) (a2 : Option Addr) (c2 : Nat) (hx : act.eval x = .slice a2 1 c2) (hy : Sl w 1 a2 1 c2 [u])
  (hn : n ≤ 1000000) (hB : B ≤ w.heap.size) (hbel : Below B w0 w)
  (hK : ∀ a' c' w', Go.Dx.Own w' B 22 1 a' (n + 1) c' (xs ++ [u]) → w.grownBy w' (a.map (·.block)) → Below B w0 w' → wpList Try.prog ops Q rest (act.put o.dst (.slice a' (n + 1) c')) w') :
  wpList Try.prog ops Q (o :: rest) act w :=
 append_own hg s x 37 hop 22 (.slice none 0 0) 1 24 Try.underlying37 info_hdw rfl w0 B a n c xs hs hown a2 1 c2 [u] hx hy (by simpa using hu) (by omega) (by unfold maxLen; omega) hB hbel hK
end
theorem int0_at : ∀ i, i < (Value.int .i64 0).cells.size → (Value.int .i64 0).cells[i]? = some (.int .i64 0) := by
 intro i hi
 have h : i < 1 := hi
 obtain rfl : i = 0 := by omega
 rfl
set_option maxRecDepth 100000 in
set_option maxHeartbeats 16000000 in
theorem ref8_Numbers (H : TH) (t : Ta) (l : List Sy) (a : Option Addr) (n c : Nat) (w : World) (hT : TaIs w H t) (hs : Sl w 2 a n c (l.flatMap sc)) (hv : validE t = 0) (hg : goodS l = true) (h2048 : l.length ≤ 2048) :
  Calls Try.prog 42 #[H.v, .slice a n c] w fun e w' => ∃ bs aA cA, e = .returned (.slice aA (n + 1) cA) ∧ RwM w' 22 3 w.heap.size bs (numT t l) aA cA ∧ Below w.heap.size w w' := by
 have hnl : Hid (n = l.length) := hide (hs.nf sc_len (by decide))
 have hn2 : n ≤ 2048 := by rw [hnl.out]; exact h2048
 have h2048' := h2048
 have HV := hide hv
 have HG := hide hg
 clear hv hg h2048
 have Hm := hide hT
 have Hs := hide hs
 clear hT hs
 obtain ⟨⟨a0, n0, c0⟩, ⟨a1, n1, c1⟩, ps0, ps1, ⟨ad, nd, cd⟩, ⟨ac, nc, cc⟩, ⟨an, nn, cn⟩, ⟨af, nf, cf⟩, ⟨aw, nw, cw⟩⟩ := H
 unfold TH.v
 simp only [hdv]
 have Y1 := Box.new w 29 #[.slice a0 n0 c0, .slice a1 n1 c1, .slice ad nd cd, .slice ac nc cc, .slice an nn cn, .slice af nf cf, .slice aw nw cw]
 have hba := blo w (.cells #[.slice a0 n0 c0, .slice a1 n1 c1, .slice ad nd cd, .slice ac nc cc, .slice an nn cn, .slice af nf cf, .slice aw nw cw] 29)
 go_enter Try.func42, Try.ntmps42
 go_wp2_with fail
 generalize w.alloc (.cells _ 29) = w1 at *
 obtain ⟨H, hH⟩ : ∃ H : TH, H = ⟨(a0, n0, c0), (a1, n1, c1), ps0, ps1, (ad, nd, cd), (ac, nc, cc), (an, nn, cn), (af, nf, cf), (aw, nw, cw)⟩ := ⟨_, rfl⟩
 have HX1 : Box w1 w.heap.size 29 (tcells H) := by rw [hH]; exact Y1
 have HT1 : TaIs w1 H t := by rw [hH]; exact Hm.out.below hba
 have HS1 := Hs.out.below hba
 clear hH Hm Hs Y1
 obtain ⟨gT, hgT⟩ : ∃ gT, Hid (w.heap.size = gT) := ⟨_, hide rfl⟩
 rw [hgT.out] at HX1 hba ⊢
 obtain ⟨S, hS⟩ : ∃ S, Hid (w1.heap.size = S) := ⟨_, hide rfl⟩
 have hgS : gT < S := by rw [← hS.out]; exact HX1.lt
 go_loopg [5, 6] n (fun gh v5 v6 w' => ∃ (i : Nat) (bs : List Nat) (a3 : Option Addr) (c3 : Nat), i ≤ n ∧ gh = n - i ∧ v6 = .int .i64 (i : Int) ∧ v5 = .slice a3 i c3 ∧ bs.length = i ∧ RwM w' 22 3 S bs (List.replicate i minus) a3 c3 ∧ Below S w1 w' ∧ S ≤ w'.heap.size)
 case atStart => exact ⟨0, [], none, 0, Nat.zero_le _, rfl, rfl, rfl, rfl, RwM.nil _ _ _ _, Below.refl _ _, by rw [hS.out]; exact Nat.le_refl _⟩
 case round =>
  obtain ⟨i, bs, a3, c3, hi, rfl, rfl, rfl, hbs, hM, hb, hSw⟩ := hrel
  have HBS := hide hbs
  clear hbs
  by_cases hin : i < n
  ·have d0 : decide ((i : Int) < (n : Int)) = true := decide_eq_true (by omega)
   have hx9 := Box.new wr 3 (rowc minus).toArray
   have hb9 := blo wr (.cells (rowc minus).toArray 3)
   have hM9 := hM.below hb9
   have hs9 : (wr.alloc (.cells (rowc minus).toArray 3)).heap.size = wr.heap.size + 1 := by simp
   obtain ⟨w9, hw9⟩ : ∃ w9, Hid (w9 = wr.alloc (.cells (rowc minus).toArray 3)) := ⟨_, hide rfl⟩
   rw [← hw9.out] at hx9 hb9 hM9 hs9
   have hx10 := hx9.alloc (.cells #[hdB wr.heap.size] 22)
   have hb10 := hb9.trans ((blo w9 (.cells #[hdB wr.heap.size] 22)).mono hb9.size)
   have hM10 := hM9.below (blo w9 (.cells #[hdB wr.heap.size] 22))
   have hl10 : Sl (w9.alloc (.cells #[hdB wr.heap.size] 22)) 1 (some ⟨wr.heap.size + 1, 0, none⟩) 1 1 [hdB wr.heap.size] := by rw [← hs9]; exact Sl.fresh w9 22 1 1 [hdB wr.heap.size] rfl (by decide)
   have hnew : wr.heap.size ∉ bs := fun h => Nat.lt_irrefl _ (hM.lt h)
   obtain ⟨w10, hw10⟩ : ∃ w10, Hid (w10 = w9.alloc (.cells #[hdB wr.heap.size] 22)) := ⟨_, hide rfl⟩
   rw [← hw10.out] at hx10 hb10 hM10 hl10
   have hww : Hid (w10 = (wr.alloc (.cells (rowc minus).toArray 3)).alloc (.cells #[hdB wr.heap.size] 22)) := hide (by rw [hw10.out, hw9.out])
   have htop := hM10.top
   rw [HBS.out] at htop
   have hb110 := hb.trans (hb10.mono hSw)
   have hS10 : S ≤ w10.heap.size := Nat.le_trans hSw hb10.size
   have HWB := hide (show S ≤ wr.heap.size from hSw)
   clear hx9 hb9 hM9 hs9 hw9 hM hb hb10 hw10 hSw
   go_wp2_with (at_builtin; rw [show (wr.alloc (.cells #[.int .i64 (-1), .int .i64 (-1), .int .i64 (-1), .int .i64 (-1), .int .i64 (-1), .int .i64 (-1), .int .i64 (-1), .int .i64 (-1)] 3)).alloc (.cells #[.slice (some ⟨wr.heap.size, 0, none⟩) 8 8] 22) = w10 from hww.out.symm]; refine app_row rfl _ _ rfl w10 S a3 i c3 _ rfl htop (hdB wr.heap.size) rfl (some ⟨wr.heap.size + 1, 0, none⟩) 1 rfl hl10 (by omega) hS10 (Below.refl _ _) ?_; intro a4 c4 w11 hO11 gb11 hb11; refine hold ?_)
   refine hide ?_
   have hM11 := hM10.push (b := wr.heap.size) (r := minus) (by decide) hx10 HWB.out hnew (by rw [HBS.out]; exact hO11) gb11
   rw [← List.replicate_succ'] at hM11
   have hb111 := hb110.grown gb11 hS10 (fun q hq => own_ge htop q hq)
   have hS11 : S ≤ w11.heap.size := Nat.le_trans hS10 gb11.size
   have hbs2 : (bs ++ [wr.heap.size]).length = i + 1 := by rw [List.length_append, HBS.out]; rfl
   have HB2 := hide hbs2
   clear hx10 hM10 hl10 hnew hww htop hb110 hS10 hO11 gb11 hb11 hbs2
   go_wp2_with fail
   go_roundg (n - (i + 1))
   case measure => omega
   case rel => exact ⟨i + 1, bs ++ [wr.heap.size], a4, c4, by omega, rfl, by go_num, rfl, HB2.out, hM11, hb111, hS11⟩
  ·obtain rfl : i = n := by omega
   have d0 : decide ((i : Int) < (i : Int)) = false := decide_eq_false (by omega)
   have hx9 := Box.new wr 3 (List.replicate 8 (.int .i64 0)).toArray
   go_upto_region 6 with fail
   have htop := hM.top
   rw [HBS.out] at htop
   have hnew : wr.heap.size ∉ bs := fun h => Nat.lt_irrefl _ (hM.lt h)
   clear hx9
   go_wp2_with (first
    | (with_reducible refine make_wide 24 22 _ _ 3 (.int .i64 0) (.int .i64 0) 1 8 Try.underlying22 info_int rfl (by decide) int0_at .i64 .i64 _ _ 8 rfl rfl rfl rfl (by decide) (by decide) ?_; intro w9 hx9 hb9; refine hold ?_))
   refine hide ?_
   have hM9 := hM.below hb9
   have hx10 := hx9.alloc (.cells #[hdB wr.heap.size] 22)
   have hb10 := hb9.trans ((blo w9 (.cells #[hdB wr.heap.size] 22)).mono hb9.size)
   have hM10 := hM9.below (blo w9 (.cells #[hdB wr.heap.size] 22))
   have hl10 : Sl (w9.alloc (.cells #[hdB wr.heap.size] 22)) 1 (some ⟨w9.heap.size, 0, none⟩) 1 1 [hdB wr.heap.size] := Sl.fresh w9 22 1 1 [hdB wr.heap.size] rfl (by decide)
   obtain ⟨w10, hw10⟩ : ∃ w10, Hid (w10 = w9.alloc (.cells #[hdB wr.heap.size] 22)) := ⟨_, hide rfl⟩
   rw [← hw10.out] at hx10 hb10 hM10 hl10
   have htop := hM10.top
   rw [HBS.out] at htop
   have hb110 := hb.trans (hb10.mono hSw)
   have hS10 : S ≤ w10.heap.size := Nat.le_trans hSw hb10.size
   have HWB := hide (show S ≤ wr.heap.size from hSw)
   have hx10 : Box w10 wr.heap.size 3 (rowc zeros) := hx10
   clear hx9 hb9 hM9 hM hb hb10 hSw
   go_wp2_with (at_builtin; rw [show w9.alloc (.cells #[.slice (some ⟨wr.heap.size, 0, none⟩) 8 8] 22) = w10 from hw10.out.symm]; refine app_row rfl _ _ rfl w10 S a3 i c3 _ rfl htop (hdB wr.heap.size) rfl (some ⟨w9.heap.size, 0, none⟩) 1 rfl hl10 (by omega) hS10 (Below.refl _ _) ?_; intro a4 c4 w11 hO11 gb11 hb11; refine hold ?_)
   refine hide ?_
   have hM11 := hM10.push (b := wr.heap.size) (r := zeros) (by decide) hx10 HWB.out hnew (by rw [HBS.out]; exact hO11) gb11
   have hb111 := hb110.grown gb11 hS10 (fun q hq => own_ge htop q hq)
   have hS11 : S ≤ w11.heap.size := Nat.le_trans hS10 gb11.size
   have hbs2 : (bs ++ [wr.heap.size]).length = i + 1 := by rw [List.length_append, HBS.out]; rfl
   obtain ⟨bs2, hb2⟩ : ∃ z, bs ++ [wr.heap.size] = z := ⟨_, rfl⟩
   rw [hb2] at hM11 hbs2
   clear HBS
   have HBS := hide hbs2
   clear hx10 hM10 hl10 hnew htop hb110 hS10 hO11 gb11 hb11 hbs2 hb2 hw10 HWB
   obtain ⟨bs, rfl⟩ : ∃ z : List Nat, z = bs2 := ⟨_, rfl⟩
   go_wp2_with fail
   go_loopg [7] i (fun gh v w' => ∃ q : Nat, q ≤ i ∧ q = gh ∧ v = .int .i64 ((q : Int) - 1) ∧ RwM w' 22 3 S bs (List.replicate q minus ++ sufT t l (i - q)) a4 c4 ∧ Below S w1 w' ∧ S ≤ w'.heap.size)
   case atStart => exact ⟨i, Nat.le_refl _, rfl, rfl, by rw [Nat.sub_self]; exact hM11, hb111, hS11⟩
   case round =>
    clear hM11 hb111 hS11
    obtain ⟨q, hq, rfl, rfl, hM, hb, hSw⟩ := hrel
    obtain ⟨n, rfl⟩ : ∃ z : Nat, z = i := ⟨_, rfl⟩
    cases q with
    | zero =>
     have e : sufT t l (n - 0) = numT t l := by unfold numT; rw [Nat.sub_zero, hnl.out]
     rw [List.replicate_zero, List.nil_append, e] at hM
     have hbw := hba.trans (hb.mono (by omega))
     have hM' : RwM wr 22 3 gT bs (numT t l) a4 c4 := ⟨hM.top.mono (by omega), hM.len, hM.row, fun b h => by have := hM.fresh b h; omega, hM.nodup⟩
     go_wp2_with fail
     go_ret
     exact ⟨bs, a4, c4, rfl, by rw [hgT.out]; exact hM', by rw [hgT.out]; exact hbw⟩
    | succ j =>
     have hjn : j < n := by omega
     have hji : ((j + 1 : Nat) : Int) - 1 = (j : Int) := by omega
     rw [hji]
     have d1 : decide ((j : Int) ≥ 0) = true := decide_eq_true (by omega)
     have d1' : decide (0 ≤ (j : Int)) = true := decide_eq_true (by omega)
     obtain ⟨P, hP⟩ : ∃ P, Hid (List.replicate j minus = P) := ⟨_, hide rfl⟩
     obtain ⟨R, hR⟩ : ∃ R, Hid (sufT t l (n - (j + 1)) = R) := ⟨_, hide rfl⟩
     have hQ8 : R8 P := fun r hr => by rw [← hP.out] at hr; rw [List.eq_of_mem_replicate hr]; rfl
     have hQb : BdN P 1000000 := fun r hr v hv => by
      rw [← hP.out] at hr
      rw [List.eq_of_mem_replicate hr] at hv
      simp [minus] at hv
      omega
     rw [List.replicate_succ', hP.out, hR.out, List.append_assoc] at hM
     obtain ⟨⟨xl, xc⟩, HX⟩ : ∃ x, Hid (l[j]? = some x) := ⟨l[j]'(by rw [← hnl.out]; exact hjn), hide (by simp)⟩
     obtain ⟨g, hg⟩ : ∃ g, Hid (langAt l j = g) := ⟨_, hide rfl⟩
     have hxg : Hid (xl = g) := hide (by rw [← hg.out, langAt_eq HX.out])
     obtain ⟨A0, hA0⟩ : ∃ A0, Hid (P ++ minus :: R = A0) := ⟨_, hide rfl⟩
     have hPj : P.length = j := by rw [← hP.out, List.length_replicate]
     have hR' : R = sufT t l (l.length - (P.length + 1)) := by rw [← hR.out, hPj, hnl.out]
     have hR0 : Hid (∀ k, k ≤ 8 → RdT l (turnU t l j g 0 k A0)) := hide (fun k hk => by
      have := turn0_ok HV.out HG.out h2048' (P := P) (R := R) (by rw [hPj, ← hnl.out]; exact hjn) hQ8 hQb hR' k hk
      rw [hPj, hg.out, hA0.out] at this
      exact this)
     have hR1 : Hid (∀ k, k ≤ 8 → RdT l (turnU t l j g 1 k (turnU t l j g 0 8 A0))) := hide (fun k hk => by
      have := turn1_ok HV.out HG.out h2048' (P := P) (R := R) (by rw [hPj, ← hnl.out]; exact hjn) hQ8 hQb hR' k hk
      rw [hPj, hg.out, hA0.out] at this
      exact this)
     have hsuf : Hid (P ++ sufT t l (n - j) = stgT t l j g A0 2) := hide (by
      have h1 := place_row (here_at HV.out HG.out (i := P.length) (by rw [hPj, ← hnl.out]; exact hjn)) R
      rw [hPj, hg.out, hA0.out] at h1
      show _ = turnU t l j g 1 8 (turnU t l j g 0 8 A0)
      rw [h1, show n - j = (n - (j + 1)) + 1 by omega]
      simp only [sufT]
      rw [hR.out, show l.length - (n - (j + 1) + 1) = j by rw [← hnl.out]; omega, hg.out])
     have hM0 : RwM wr 22 3 S bs A0 a4 c4 := by rw [← hA0.out]; exact hM
     clear hR' hM hQ8 hQb
     go_wp2_with fail
     go_loopg [8] 2 (fun gh v w' => ∃ τ : Nat, τ ≤ 2 ∧ gh = 2 - τ ∧ v = .int .i64 (τ : Int) ∧ RwM w' 22 3 S bs (stgT t l j g A0 τ) a4 c4 ∧ Below S w1 w' ∧ S ≤ w'.heap.size)
     case atStart => exact ⟨0, by omega, rfl, rfl, hM0, hb, hSw⟩
     case round =>
      clear hM0 hb hSw
      obtain ⟨τ, hτ, rfl, rfl, hM, hb, hSw⟩ := hrel
      by_cases hτ2 : τ < 2
      ·have hRdA : Hid (∀ k, k ≤ 8 → RdT l (turnU t l j g τ k (stgT t l j g A0 τ))) := hide (by
        have h3 : τ = 0 ∨ τ = 1 := by omega
        rcases h3 with rfl | rfl
        ·intro k hk
         exact hR0.out k hk
        ·intro k hk
         exact hR1.out k hk)
       have dτ : decide ((τ : Int) < 2) = true := decide_eq_true (by omega)
       have dτ' : decide (τ < 2) = true := decide_eq_true hτ2
       go_wp2_with fail
       go_loopg [9] 8 (fun gh v w' => ∃ k : Nat, k ≤ 8 ∧ gh = 8 - k ∧ v = .int .i64 (k : Int) ∧ RwM w' 22 3 S bs (turnU t l j g τ k (stgT t l j g A0 τ)) a4 c4 ∧ Below S w1 w' ∧ S ≤ w'.heap.size)
       case atStart => exact ⟨0, by omega, rfl, rfl, hM, hb, hSw⟩
       case round =>
        clear hM hb hSw
        obtain ⟨k, hk, rfl, rfl, hM, hb, hSw⟩ := hrel
        by_cases hk8 : k < 8
        ·have d8 : decide ((k : Int) < 8) = true := decide_eq_true (by omega)
         obtain ⟨A, hAe⟩ : ∃ A, Hid (turnU t l j g τ k (stgT t l j g A0 τ) = A) := ⟨_, hide rfl⟩
         rw [hAe.out] at hM
         have hRd := hide (hRdA.out k (by omega))
         rw [hAe.out] at hRd
         obtain ⟨s8, hs8⟩ : ∃ S, Hid (stN k = S) := ⟨_, hide rfl⟩
         have hsta := hide (r8_State k hk8 wr)
         rw [hs8.out] at hsta
         go_wp2_with (go_at_call 70; refine hsta.out.mono ?_; rintro e w4 ⟨rfl, hb4⟩; refine hold ?_)
         refine hide ?_
         unfold sv
         have hM4 := hM.below hb4
         have hb14 := hb.trans (hb4.mono hSw)
         have hS4 : S ≤ w4.heap.size := Nat.le_trans hSw hb4.size
         have HSB := Box.new w4 70 (scells s8).toArray
         have hbS := blo w4 (.cells (scells s8).toArray 70)
         unfold scells at HSB hbS
         go_upto_region 17 with fail
         have HM5 := hM4.below hbS
         have hb5 := hb14.trans (hbS.mono hS4)
         have hS5 : S ≤ (w4.alloc (.cells #[.int .i64 s8.lang, .bool s8.num, .bool s8.wrd] 70)).heap.size := Nat.le_trans hS4 hbS.size
         generalize w4.alloc (.cells #[.int .i64 s8.lang, .bool s8.num, .bool s8.wrd] 70) = w5 at *
         obtain ⟨gS, hgS2⟩ : ∃ gS, Hid (w4.heap.size = gS) := ⟨_, hide rfl⟩
         rw [hgS2.out] at HSB ⊢
         have HXT5 : Box w5 gT 29 (tcells H) := HX1.below hb5 hgS
         have hb5' : Below w1.heap.size w1 w5 := by rw [hS.out]; exact hb5
         have HTT5 := HT1.below hb5'
         have HSl5 := HS1.below hb5'
         obtain ⟨bx, ox, hab, hbx, ex0, ex1⟩ := sy_cells HSl5 HX.out
         subst hab
         simp only at ex0
         obtain ⟨qx, hqx⟩ : ∃ q, Hid (ox + j * 2 = q) := ⟨_, hide rfl⟩
         rw [hqx.out] at ex0
         have cx := ex0
         obtain ⟨sl, hsl⟩ : ∃ sl, s8.lang = sl := ⟨_, rfl⟩
         obtain ⟨B1, hB1⟩ : ∃ B1, (sl == xl) = B1 := ⟨_, rfl⟩
         obtain ⟨B2, hB2⟩ : ∃ B2, ((τ : Int) == 0) = B2 := ⟨_, rfl⟩
         obtain ⟨BB, hBB⟩ : ∃ BB, (B1 == B2) = BB := ⟨_, rfl⟩
         have hcond : Hid ((decide ((stN k).lang = g) == decide (τ = 0)) = BB) := hide (by
          rw [← hBB, ← hB1, ← hB2, ← hsl, hs8.out, ← hxg.out]
          have e1 : (s8.lang == xl) = decide (s8.lang = xl) := by by_cases h : s8.lang = xl <;> simp [h]
          have e2 : ((τ : Int) == 0) = decide (τ = 0) := by by_cases h : τ = 0 <;> simp [h]
          rw [e1, e2])
         have HSB : Box w5 gS 70 (scells s8) := HSB
         have HSB1 : Box w5 gS 70 [.int .i64 sl, .bool s8.num, .bool s8.wrd] := by rw [← hsl]; exact HSB
         clear hM4 hb14 hS4 hbS hb4 hM hb hSw ex0 ex1 hsl hb5' hsta
         refine wp_region_free 10 [⟨0, 44, [44], fun vs _ => vs = [.pointer (some ⟨gS, 0, none⟩)]⟩, ⟨1, 45, [45], fun vs _ => vs = [.int .i64 sl]⟩, ⟨2, 46, [46], fun vs _ => vs = [.slice (some ⟨bx, ox, none⟩) n c]⟩, ⟨3, 47, [47], fun vs _ => vs = [.int .i64 (j : Int)]⟩, ⟨4, 48, [48], fun vs _ => vs = [.pointer (some ⟨bx, qx, none⟩)]⟩, ⟨5, 49, [49], fun vs _ => vs = [.pointer (some ⟨bx, qx, none⟩)]⟩, ⟨6, 50, [50], fun vs _ => vs = [.int .i64 xl]⟩, ⟨7, 51, [51], fun vs _ => vs = [.bool B1]⟩, ⟨8, 52, [52], fun vs _ => vs = [.int .i64 (τ : Int)]⟩, ⟨9, 53, [53], fun vs _ => vs = [.bool B2]⟩] (by kernel_rfl) (by kernel_rfl) ?_ ?_ ?_
         ·simp only [All]
          refine ⟨fun _ _ _ _ h => h, fun _ _ _ _ h => h, fun _ _ _ _ h => h, fun _ _ _ _ h => h, fun _ _ _ _ h => h, fun _ _ _ _ h => h, fun _ _ _ _ h => h, fun _ _ _ _ h => h, fun _ _ _ _ h => h, fun _ _ _ _ h => h, trivial⟩
         ·simp only [All]
          refine ⟨?_, ?_, ?_, ?_, ?_, ?_, ?_, ?_, ?_, ?_, trivial⟩
          ·intro o ho a' w' hb hfr hdep; obtain rfl := oj ho
           have g10 : a'.tmps[10]?.getD undef = .pointer (some ⟨gS, 0, none⟩) := by simpa using hfr 10 (by kernel_rfl)
           clear ho hfr hdep; go_wp2_with fail; exact ⟨rfl, _, rfl, br, rfl⟩
          ·intro o ho a' w' hb hfr hdep; obtain rfl := oj ho
           have g44 : a'.tmps[44]?.getD undef = .pointer (some ⟨gS, 0, none⟩) := by simpa using hdep 0 _ rfl (by kernel_rfl)
           clear ho hfr hdep; have hcl := (HSB1.under hb).at_ (j := 0) rfl
           go_wp2_with fail; exact ⟨rfl, _, rfl, br, rfl⟩
          ·intro o ho a' w' hb hfr hdep; obtain rfl := oj ho
           have g1 : a'.tmps[1]?.getD undef = .slice (some ⟨bx, ox, none⟩) n c := by simpa using hfr 1 (by kernel_rfl)
           clear ho hfr hdep; go_wp2_with fail; exact ⟨rfl, _, rfl, br, rfl⟩
          ·intro o ho a' w' hb hfr hdep; obtain rfl := oj ho
           have g7 : a'.tmps[7]?.getD undef = .int .i64 (j : Int) := by simpa using hfr 7 (by kernel_rfl)
           clear ho hfr hdep; go_wp2_with fail; exact ⟨rfl, _, rfl, br, rfl⟩
          ·intro o ho a' w' hb hfr hdep; obtain rfl := oj ho
           have g46 : a'.tmps[46]?.getD undef = .slice (some ⟨bx, ox, none⟩) n c := by simpa using hdep 2 _ rfl (by kernel_rfl)
           have g47 : a'.tmps[47]?.getD undef = .int .i64 (j : Int) := by simpa using hdep 3 _ rfl (by kernel_rfl)
           clear ho hfr hdep; refine index_rowk 48 31 _ _ 88 Try.underlying31 2 size_sym bx ox n c (by show a'.tmps.getD 46 undef = _; simpa using g46) _ _ j (by show a'.tmps.getD 47 undef = _; simpa using g47) rfl hjn ?_
           rw [hqx.out]
           exact ⟨rfl, _, rfl, br, rfl⟩
          ·intro o ho a' w' hb hfr hdep; obtain rfl := oj ho
           have g48 : a'.tmps[48]?.getD undef = .pointer (some ⟨bx, qx, none⟩) := by simpa using hdep 4 _ rfl (by kernel_rfl)
           clear ho hfr hdep; go_wp2_with fail; exact ⟨rfl, _, rfl, br, rfl⟩
          ·intro o ho a' w' hb hfr hdep; obtain rfl := oj ho
           have g49 : a'.tmps[49]?.getD undef = .pointer (some ⟨bx, qx, none⟩) := by simpa using hdep 5 _ rfl (by kernel_rfl)
           clear ho hfr hdep; have hcl := cell_below cx hb
           go_wp2_with fail; exact ⟨rfl, _, rfl, br, rfl⟩
          ·intro o ho a' w' hb hfr hdep; obtain rfl := oj ho
           have g45 : a'.tmps[45]?.getD undef = .int .i64 sl := by simpa using hdep 1 _ rfl (by kernel_rfl)
           have g50 : a'.tmps[50]?.getD undef = .int .i64 xl := by simpa using hdep 6 _ rfl (by kernel_rfl)
           clear ho hfr hdep; go_wp2_with fail; exact ⟨rfl, _, rfl, br, rfl⟩
          ·intro o ho a' w' hb hfr hdep; obtain rfl := oj ho
           have g8 : a'.tmps[8]?.getD undef = .int .i64 (τ : Int) := by simpa using hfr 8 (by kernel_rfl)
           clear ho hfr hdep; go_wp2_with fail; exact ⟨rfl, _, rfl, br, rfl⟩
          ·intro o ho a' w' hb hfr hdep; obtain rfl := oj ho
           have g52 : a'.tmps[52]?.getD undef = .int .i64 (τ : Int) := by simpa using hdep 8 _ rfl (by kernel_rfl)
           clear ho hfr hdep; go_wp2_with fail; exact ⟨rfl, _, rfl, br, rfl⟩
         ·intro gg w6 hbl hp'
          have p51 := hp' 7 _ rfl
          have p53 := hp' 9 _ rfl
          clear hp'
          simp at p51 p53
          simp only [List.drop_succ_cons, List.drop_zero, List.map_cons, List.map_nil, putAll, Act.put, List.setIfInBounds_toArray, List.set_cons_succ, List.set_cons_zero, List.cons_append, List.nil_append, p51, p53]
          clear p51 p53
          have HM6 := HM5.below hbl
          have HSB6 := HSB.under hbl
          have HXT6 := HXT5.under hbl
          have HTT6 := HTT5.below hbl
          have HSl6 := HSl5.below hbl
          have hb6 := hb5.trans (hbl.mono (by omega))
          have hS6 : S ≤ w6.heap.size := Nat.le_trans hS5 hbl.size
          clear HM5 HSB HSB1 HXT5 HTT5 HSl5 hb5 hS5 hbl cx
          cases BB with
          | true =>
           have hng := HM6.ng hRd.out.r8
           rw [HBS.out] at hng
           have hbest := hide (ref8_best H t l (some ⟨bx, ox, none⟩) n c s8 A _ a4 (n + 1) c4 j w6 HTT6 HSl6 hng (by rw [← hnl.out]; exact hjn) HV.out HG.out h2048' (by rw [← hs8.out]; exact stN_lang k hk8) (by rw [hRd.out.len]) hRd.out.r8 hRd.out.bd)
           obtain ⟨⟨LI, LV⟩, hLI⟩ : ∃ q : Int × Int, Hid (leastF (lookA A j) (stepsL t s8 l j) = q) := ⟨_, hide rfl⟩
           rw [hLI.out] at hbest
           go_upto_region 19 with (first
            | (with_reducible refine load_struct 56 29 _ 7 size_tables _ Try.underlying29 ⟨gT, 0, none⟩ rfl (tcells H) rfl (fun j u hj => by rw [Addr.add_lit, Nat.zero_add]; exact HXT6.at_ hj) ?_)
            | (with_reducible refine load_struct 59 70 _ 3 size_rst _ Try.underlying70 ⟨gS, 0, none⟩ rfl (scells s8) rfl (fun j u hj => by rw [Addr.add_lit, Nat.zero_add]; exact HSB6.at_ hj) ?_)
            | (go_at_call 43; refine hbest.out.mono ?_; rintro e w7 ⟨rfl, hb7⟩))
           have HM7 := HM6.below hb7
           have hb17 := hb6.trans (hb7.mono hS6)
           have hS7 : S ≤ w7.heap.size := Nat.le_trans hS6 hb7.size
           clear HM6 HSB6 HXT6 HTT6 HSl6 hb6 hS6 hb7 hbest hng
           obtain ⟨b8, hb8⟩ : ∃ b, bs[j]? = some b := ⟨_, List.getElem?_eq_getElem (by rw [HBS.out]; omega)⟩
           have hAl : A.length = n + 1 := by rw [hRd.out.len, ← hnl.out]
           obtain ⟨r, hr⟩ : ∃ r, A[j]? = some r := ⟨_, List.getElem?_eq_getElem (by omega)⟩
           have hr8 := hRd.out.r8 r (List.mem_of_getElem? hr)
           have hbox := HM7.row j b8 r hb8 hr
           have hhd : (bs.map hdB)[j]? = some (.slice (some ⟨b8, 0, none⟩) 8 8) := by rw [List.getElem?_map, hb8]; rfl
           have htop := HM7.top.sl
           rw [HBS.out] at htop
           have hrl : k < (rowc r).length := by unfold rowc; rw [List.length_map, hr8]; exact hk8
           have HRJ := hide hr
           have HBJ := hide hb8
           clear hr hb8 hr8 hAl
           go_wp2_with (first
            | (with_reducible refine idx_ii 66 _ _ a4 (n + 1) c4 _ rfl htop _ _ j rfl rfl _ hhd ?_; intro bI oI hcI hbI)
            | (with_reducible refine index_known 70 22 _ _ 3 Try.underlying22 size_int b8 8 8 rfl _ _ k rfl rfl hk8 ?_)
            | (with_reducible refine hold_store ?_))
           refine hide ?_
           refine store_cell 3 _ _ 3 b8 k _ (.int .i64 LV) size_int hbox rfl rfl rfl rfl hrl ?_; intro w8 HB8 gb8 zb8
           have HB8' : Box w8 b8 3 (rowc (r.set k LV)) := by rw [← rowc_set]; exact HB8
           have HM8 := HM7.set (by decide) HBJ.out HRJ.out HB8' gb8
           rw [cell_upd (t := t) (l := l) hRd.out.r8 HRJ.out LV (by rw [hs8.out, hLI.out])] at HM8
           have HM9 : Hid (RwM w8 22 3 S bs (turnU t l j g τ (k + 1) (stgT t l j g A0 τ)) a4 c4) := hide (by
            simp only [turnU]
            rw [if_pos (by rw [hcond.out]), hAe.out]
            exact HM8)
           have hbS : S ≤ b8 := HM7.fresh b8 (List.mem_of_getElem? HBJ.out)
           have hb18 := hb17.grown gb8 hS7 (fun q hq => by cases hq; exact hbS)
           have hS8 : S ≤ w8.heap.size := Nat.le_trans hS7 gb8.size
           clear HM7 hbox hhd htop hrl HB8 HB8' HM8 gb8 zb8 hb17 hS7
           go_wp2_with fail
           go_roundg (8 - (k + 1))
           case measure => omega
           case rel => exact ⟨k + 1, by omega, rfl, by go_num, HM9.out, hb18, hS8⟩
          | false =>
           go_wp2_with fail
           go_roundg (8 - (k + 1))
           case measure => omega
           case rel => exact ⟨k + 1, by omega, rfl, by go_num, by
            simp only [turnU]
            rw [if_neg (by rw [hcond.out]; simp), hAe.out]
            exact HM6, hb6, hS6⟩
        ·obtain rfl : k = 8 := by omega
         go_wp2_with fail
         go_roundg (2 - (τ + 1))
         case measure => omega
         case rel => exact ⟨τ + 1, by omega, rfl, by go_num, hM, hb, hSw⟩
      ·obtain rfl : τ = 2 := by omega
       go_wp2_with fail
       go_roundg j
       case measure => omega
       case rel => exact ⟨j, by omega, rfl, rfl, by rw [hP.out, hsuf.out]; exact hM, hb, hSw⟩
end Go.Proofs.Ytlpkicjijlcbfaa
end
