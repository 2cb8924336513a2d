/- The contracts of the functions that the law reaches, joined into one text. -/
import Derived.Test.YtfagjaabladgpaaDoorBaseBG
import Derived.Great.BuildSlice
set_option linter.unusedVariables false
set_option linter.unusedSimpArgs false

section
/- Chapter 06: plain and SameSteps (steps of the reference). -/
namespace Go.Proofs.YtfagjaabladgpaaDoor
open Go.RowKit Go.Dx
theorem size_rst : (Tryd.prog.info? 84).map (·.size) = some 3 := by kernel_rfl
theorem size_r3 (x y z : Value) : (Tryd.prog.info? 84).map (·.size) = some ([x, y, z] : List Value).length := by rw [size_rst]; rfl
theorem same_at {x y : List UInt8} {a1 a2 : Option Addr} {n1 n2 c1 c2 : Nat} {w : World} (hxy : x = y) (h1 : Sl w 1 a1 n1 c1 (x.map B8)) (h2 : Sl w 1 a2 n2 c2 (y.map B8)) :
  Calls Tryd.prog 7 #[.slice a1 n1 c1, .slice a2 n2 c2] w fun e w' => e = .returned (.bool true) ∧ Below w.heap.size w w' := by
 refine (ref_Same x y a1 a2 n1 n2 c1 c2 w ⟨h1.len, h1.le, h1.cap, h1.nil, h1.cell⟩ ⟨h2.len, h2.le, h2.cap, h2.nil, h2.cell⟩).mono ?_
 rintro e w' ⟨rfl, m, hm⟩
 exact ⟨by rw [decide_eq_true hxy], hm ▸ Still.below m⟩
section
variable {w : World} {ops : Array Oper} {rest : List Oper} {o : Oper} {act : Act} {Q : Exit → Act → World → Prop}
theorem app_rst3 (hg : o.guard = none) (s x : Operand) (hop : o.op = Op.call { callee := Callee.builtin Builtin.append, args := #[s, x], argTypes := #[49, 49] })
  (w0 : World) (B : Nat) (a : Option Addr) (n c : Nat) (cs : List Value) (hs : act.eval s = .slice a n c) (hown : Own w B 86 6 a n c cs)
  (p : SH) (a2 : Option Addr) (c2 : Nat) (hx : act.eval x = .slice a2 1 c2) (hy : Sl w 6 a2 1 c2 (stc p))
  (hn : n ≤ 1000000) (hB : B ≤ w.heap.size) (hbel : Below B w0 w)
  (hK : ∀ a' c' w', Own w' B 86 6 a' (n + 1) c' (cs ++ stc p) → Below B w0 w' → wpList Tryd.prog ops Q rest (act.put o.dst (.slice a' (n + 1) c')) w') :
  wpList Tryd.prog ops Q (o :: rest) act w := by
 refine append_own hg s x 49 hop 86 zeroStep 6 56 Tryd.underlying49 info_rstep rfl w0 B a _ c _ hs hown a2 1 c2 (stc p) hx hy (stc_one p) (by omega) (by unfold maxLen; omega) hB hbel ?_
 intro a' c' w' ho hgr hb
 exact hK a' c' w' ho hb
end
set_option maxRecDepth 100000 in
set_option maxHeartbeats 4000000 in
theorem law_plain (L : List Stp) (ps : List SH) (a : Option Addr) (n c : Nat) (hn : n ≤ 1000) (w : World) (hS : Stl w a n c ps L) :
  Calls Tryd.prog 18 #[.slice a n c] w (StepsR L w) := by
 have hpl : n = ps.length := hS.top.nf stc_len (by decide)
 have HPL := hide hpl
 clear hpl
 go_enter Tryd.func18, Tryd.ntmps18
 go_wp2_with fail
 go_loopg [3, 4] n (fun gh ov v w' => ∃ (k : Nat) (ao : Option Addr) (co : Nat), k ≤ n ∧ gh = n - k ∧ ov = .slice ao k co ∧ v = .int .i64 (k : Int) ∧ Hid (Own w' w.heap.size 86 6 ao k co ((ps.take k).flatMap stc)) ∧ Below w.heap.size w w')
 case atStart => exact ⟨0, none, 0, by omega, by omega, rfl, rfl, hide (Own.nil _ _ _ _), Below.refl _ _⟩
 case round =>
  obtain ⟨k, ao, co, hk, hgk, rfl, rfl, HO, hb⟩ := hrel
  have HG := hide hgk
  clear hgk
  by_cases hkl : k < n
  ·obtain ⟨p, hp⟩ : ∃ p, ps[k]? = some p := ⟨_, List.getElem?_eq_getElem (by have := HPL.out; omega)⟩
   have HT : Hid ((ps.take (k + 1)).flatMap stc = (ps.take k).flatMap stc ++ stc p) := hide (by rw [List.take_add_one, hp, List.flatMap_append]; simp)
   have hSr := hS.below hb
   have hO := HO.out
   obtain ⟨b1, o1, hab, hb1, x0, x1, x2, x3, x4, x5⟩ := st_cells hSr hp
   subst hab
   clear hp hSr
   have e1 : decide (k < n) = true := decide_eq_true hkl
   have e1' : decide ((k : Int) < (n : Int)) = true := decide_eq_true (by omega)
   go_wp2_with fail
   refine wp_region_free 20 [⟨0, 12, [12], fun vs _ => vs = [.slice (some ⟨b1, o1, none⟩) n c]⟩, ⟨1, 13, [13], fun vs _ => vs = [.int .i64 (k : Int)]⟩, ⟨2, 14, [14], fun vs _ => vs = [.pointer (some ⟨b1, o1 + k * 6, none⟩)]⟩, ⟨3, 15, [15], fun vs _ => vs = [.pointer (some ⟨b1, o1 + k * 6, none⟩)]⟩, ⟨4, 16, [16], fun vs _ => vs = [.pointer (some ⟨b1, o1 + k * 6, none⟩)]⟩, ⟨5, 17, [17], fun vs _ => vs = [.int .i64 p.1.dst.lang]⟩, ⟨6, 18, [18], fun vs _ => vs = [.slice (some ⟨b1, o1, none⟩) n c]⟩, ⟨7, 19, [19], fun vs _ => vs = [.int .i64 (k : Int)]⟩, ⟨8, 20, [20], fun vs _ => vs = [.pointer (some ⟨b1, o1 + k * 6, none⟩)]⟩, ⟨9, 21, [21], fun vs _ => vs = [.pointer (some ⟨b1, o1 + k * 6, none⟩)]⟩, ⟨10, 22, [22], fun vs _ => vs = [.pointer (some ⟨b1, o1 + k * 6 + 1, none⟩)]⟩, ⟨11, 23, [23], fun vs _ => vs = [.bool p.1.dst.num]⟩, ⟨12, 24, [24], fun vs _ => vs = [.slice (some ⟨b1, o1, none⟩) n c]⟩, ⟨13, 25, [25], fun vs _ => vs = [.int .i64 (k : Int)]⟩, ⟨14, 26, [26], fun vs _ => vs = [.pointer (some ⟨b1, o1 + k * 6, none⟩)]⟩, ⟨15, 27, [27], fun vs _ => vs = [.pointer (some ⟨b1, o1 + k * 6, none⟩)]⟩, ⟨16, 28, [28], fun vs _ => vs = [.pointer (some ⟨b1, o1 + k * 6 + 2, none⟩)]⟩, ⟨17, 29, [29], fun vs _ => vs = [.bool p.1.dst.wrd]⟩, ⟨18, 30, [30], fun vs _ => vs = [.agg #[.int .i64 p.1.dst.lang, .bool p.1.dst.num, .bool p.1.dst.wrd]]⟩, ⟨19, 5, [5], fun vs w' => ∃ b, vs = [.pointer (some ⟨b, 0, none⟩)] ∧ wr.heap.size ≤ b ∧ Box w' b 84 [.int .i64 0, .bool false, .bool false]⟩] (by kernel_rfl) (by kernel_rfl) ?_ ?_ ?_
   ·simp only [All]
    refine ⟨fun _ _ _ _ h => h, fun _ _ _ _ h => h, fun _ _ _ _ h => h, fun _ _ _ _ h => h, fun _ _ _ _ h => h, fun _ _ _ _ h => h, fun _ _ _ _ h => h, fun _ _ _ _ h => h, fun _ _ _ _ h => h, fun _ _ _ _ h => h, fun _ _ _ _ h => h, fun _ _ _ _ h => h, fun _ _ _ _ h => h, fun _ _ _ _ h => h, fun _ _ _ _ h => h, fun _ _ _ _ h => h, fun _ _ _ _ h => h, fun _ _ _ _ h => h, fun _ _ _ _ h => h, ?_, trivial⟩
    ·rintro vs w2 w3 hb ⟨b, h1, h2, h3⟩
     exact ⟨b, h1, h2, h3.under hb⟩
   ·simp only [All]
    refine ⟨?_, ?_, ?_, ?_, ?_, ?_, ?_, ?_, ?_, ?_, ?_, ?_, ?_, ?_, ?_, ?_, ?_, ?_, ?_, ?_, trivial⟩
    ·intro o ho a' w' hb hfr hdep; obtain rfl := oj ho
     have g0 : a'.tmps[0]?.getD undef = .slice (some ⟨b1, o1, none⟩) n c := by simpa using hfr 0 (by kernel_rfl)
     clear ho hfr hdep; go_wp2_with fail; exact ⟨rfl, _, rfl, br, rfl⟩
    ·intro o ho a' w' hb hfr hdep; obtain rfl := oj ho
     have g4 : a'.tmps[4]?.getD undef = .int .i64 (k : Int) := by simpa using hfr 4 (by kernel_rfl)
     clear ho hfr hdep; go_wp2_with fail; exact ⟨rfl, _, rfl, br, rfl⟩
    ·intro o ho a' w' hb hfr hdep; obtain rfl := oj ho
     have g12 : a'.tmps[12]?.getD undef = .slice (some ⟨b1, o1, none⟩) n c := by simpa using hdep 0 _ rfl (by kernel_rfl)
     have g13 : a'.tmps[13]?.getD undef = .int .i64 (k : Int) := by simpa using hdep 1 _ rfl (by kernel_rfl)
     clear ho hfr hdep; go_wp2_with fail; exact ⟨rfl, _, rfl, br, rfl⟩
    ·intro o ho a' w' hb hfr hdep; obtain rfl := oj ho
     have g14 : a'.tmps[14]?.getD undef = .pointer (some ⟨b1, o1 + k * 6, none⟩) := by simpa using hdep 2 _ rfl (by kernel_rfl)
     clear ho hfr hdep; go_wp2_with fail; exact ⟨rfl, _, rfl, br, rfl⟩
    ·intro o ho a' w' hb hfr hdep; obtain rfl := oj ho
     have g15 : a'.tmps[15]?.getD undef = .pointer (some ⟨b1, o1 + k * 6, none⟩) := by simpa using hdep 3 _ rfl (by kernel_rfl)
     clear ho hfr hdep; go_wp2_with fail; exact ⟨rfl, _, rfl, br, rfl⟩
    ·intro o ho a' w' hb hfr hdep; obtain rfl := oj ho
     have g16 : a'.tmps[16]?.getD undef = .pointer (some ⟨b1, o1 + k * 6, none⟩) := by simpa using hdep 4 _ rfl (by kernel_rfl)
     clear ho hfr hdep; have hcl := cell_below x0 hb
     go_wp2_with fail; exact ⟨rfl, _, rfl, br, rfl⟩
    ·intro o ho a' w' hb hfr hdep; obtain rfl := oj ho
     have g0 : a'.tmps[0]?.getD undef = .slice (some ⟨b1, o1, none⟩) n c := by simpa using hfr 0 (by kernel_rfl)
     clear ho hfr hdep; go_wp2_with fail; exact ⟨rfl, _, rfl, br, rfl⟩
    ·intro o ho a' w' hb hfr hdep; obtain rfl := oj ho
     have g4 : a'.tmps[4]?.getD undef = .int .i64 (k : Int) := by simpa using hfr 4 (by kernel_rfl)
     clear ho hfr hdep; go_wp2_with fail; exact ⟨rfl, _, rfl, br, rfl⟩
    ·intro o ho a' w' hb hfr hdep; obtain rfl := oj ho
     have g18 : a'.tmps[18]?.getD undef = .slice (some ⟨b1, o1, none⟩) n c := by simpa using hdep 6 _ rfl (by kernel_rfl)
     have g19 : a'.tmps[19]?.getD undef = .int .i64 (k : Int) := by simpa using hdep 7 _ rfl (by kernel_rfl)
     clear ho hfr hdep; go_wp2_with fail; exact ⟨rfl, _, rfl, br, rfl⟩
    ·intro o ho a' w' hb hfr hdep; obtain rfl := oj ho
     have g20 : a'.tmps[20]?.getD undef = .pointer (some ⟨b1, o1 + k * 6, none⟩) := by simpa using hdep 8 _ rfl (by kernel_rfl)
     clear ho hfr hdep; go_wp2_with fail; exact ⟨rfl, _, rfl, br, rfl⟩
    ·intro o ho a' w' hb hfr hdep; obtain rfl := oj ho
     have g21 : a'.tmps[21]?.getD undef = .pointer (some ⟨b1, o1 + k * 6, none⟩) := by simpa using hdep 9 _ rfl (by kernel_rfl)
     clear ho hfr hdep; go_wp2_with fail; exact ⟨rfl, _, rfl, br, rfl⟩
    ·intro o ho a' w' hb hfr hdep; obtain rfl := oj ho
     have g22 : a'.tmps[22]?.getD undef = .pointer (some ⟨b1, o1 + k * 6 + 1, none⟩) := by simpa using hdep 10 _ rfl (by kernel_rfl)
     clear ho hfr hdep; have hcl := cell_below x1 hb
     go_wp2_with fail; exact ⟨rfl, _, rfl, br, rfl⟩
    ·intro o ho a' w' hb hfr hdep; obtain rfl := oj ho
     have g0 : a'.tmps[0]?.getD undef = .slice (some ⟨b1, o1, none⟩) n c := by simpa using hfr 0 (by kernel_rfl)
     clear ho hfr hdep; go_wp2_with fail; exact ⟨rfl, _, rfl, br, rfl⟩
    ·intro o ho a' w' hb hfr hdep; obtain rfl := oj ho
     have g4 : a'.tmps[4]?.getD undef = .int .i64 (k : Int) := by simpa using hfr 4 (by kernel_rfl)
     clear ho hfr hdep; go_wp2_with fail; exact ⟨rfl, _, rfl, br, rfl⟩
    ·intro o ho a' w' hb hfr hdep; obtain rfl := oj ho
     have g24 : a'.tmps[24]?.getD undef = .slice (some ⟨b1, o1, none⟩) n c := by simpa using hdep 12 _ rfl (by kernel_rfl)
     have g25 : a'.tmps[25]?.getD undef = .int .i64 (k : Int) := by simpa using hdep 13 _ rfl (by kernel_rfl)
     clear ho hfr hdep; go_wp2_with fail; exact ⟨rfl, _, rfl, br, rfl⟩
    ·intro o ho a' w' hb hfr hdep; obtain rfl := oj ho
     have g26 : a'.tmps[26]?.getD undef = .pointer (some ⟨b1, o1 + k * 6, none⟩) := by simpa using hdep 14 _ rfl (by kernel_rfl)
     clear ho hfr hdep; go_wp2_with fail; exact ⟨rfl, _, rfl, br, rfl⟩
    ·intro o ho a' w' hb hfr hdep; obtain rfl := oj ho
     have g27 : a'.tmps[27]?.getD undef = .pointer (some ⟨b1, o1 + k * 6, none⟩) := by simpa using hdep 15 _ rfl (by kernel_rfl)
     clear ho hfr hdep; go_wp2_with fail; exact ⟨rfl, _, rfl, br, rfl⟩
    ·intro o ho a' w' hb hfr hdep; obtain rfl := oj ho
     have g28 : a'.tmps[28]?.getD undef = .pointer (some ⟨b1, o1 + k * 6 + 2, none⟩) := by simpa using hdep 16 _ rfl (by kernel_rfl)
     clear ho hfr hdep; have hcl := cell_below x2 hb
     go_wp2_with fail; exact ⟨rfl, _, rfl, br, rfl⟩
    ·intro o ho a' w' hb hfr hdep; obtain rfl := oj ho
     have g17 : a'.tmps[17]?.getD undef = .int .i64 p.1.dst.lang := by simpa using hdep 5 _ rfl (by kernel_rfl)
     have g23 : a'.tmps[23]?.getD undef = .bool p.1.dst.num := by simpa using hdep 11 _ rfl (by kernel_rfl)
     have g29 : a'.tmps[29]?.getD undef = .bool p.1.dst.wrd := by simpa using hdep 17 _ rfl (by kernel_rfl)
     clear ho hfr hdep; go_wp2_with fail; exact ⟨rfl, _, rfl, br, rfl⟩
    ·intro o ho a' w' hb hfr hdep; obtain rfl := oj ho
     clear ho hfr hdep; have hxn := Box.new w' 84 #[.int .i64 0, .bool false, .bool false]
     have hsz := hb.size
     go_wp2_with fail
     exact ⟨rfl, _, rfl, blo _ _, _, rfl, hsz, hxn⟩
   ·intro g w3 hb3 hp3
    have p30 := hp3 18 _ rfl
    obtain ⟨g5, p5, hg5, hx5⟩ := hp3 19 _ rfl
    clear hp3
    simp at p30 p5
    simp only [List.drop_succ_cons, List.drop_zero, List.map_cons, List.map_nil, putAll, Act.put, List.setIfInBounds_toArray, List.set_cons_succ, List.set_cons_zero, List.cons_append, List.nil_append, p30, p5]
    clear p30 p5
    refine store_all 84 _ _ 84 g5 [.int .i64 0, .bool false, .bool false] [.int .i64 p.1.dst.lang, .bool p.1.dst.num, .bool p.1.dst.wrd] (.agg #[.int .i64 p.1.dst.lang, .bool p.1.dst.num, .bool p.1.dst.wrd]) (size_r3 _ _ _) hx5 rfl rfl rfl (Eq.refl 3) (by simp [Value.oneCell']) ?_; intro w4 hY hgr4 hs4
    have hb4 := hb3.grown hgr4 hb3.size (fun q hq => by cases hq; exact hg5)
    clear hx5 hgr4 hs4
    go_wp2_with fail
    refine wp_region_free 19 [⟨0, 31, [31], fun vs _ => vs = [.slice ao k co]⟩, ⟨1, 32, [32], fun vs _ => vs = [.agg #[.int .i64 p.1.dst.lang, .bool p.1.dst.num, .bool p.1.dst.wrd]]⟩, ⟨2, 33, [33], fun vs _ => vs = [.slice (some ⟨b1, o1, none⟩) n c]⟩, ⟨3, 34, [34], fun vs _ => vs = [.int .i64 (k : Int)]⟩, ⟨4, 35, [35], fun vs _ => vs = [.pointer (some ⟨b1, o1 + k * 6, none⟩)]⟩, ⟨5, 36, [36], fun vs _ => vs = [.pointer (some ⟨b1, o1 + k * 6 + 3, none⟩)]⟩, ⟨6, 37, [37], fun vs _ => vs = [.int .i64 p.1.len]⟩, ⟨7, 38, [38], fun vs _ => vs = [.slice (some ⟨b1, o1, none⟩) n c]⟩, ⟨8, 39, [39], fun vs _ => vs = [.int .i64 (k : Int)]⟩, ⟨9, 40, [40], fun vs _ => vs = [.pointer (some ⟨b1, o1 + k * 6, none⟩)]⟩, ⟨10, 41, [41], fun vs _ => vs = [.pointer (some ⟨b1, o1 + k * 6 + 4, none⟩)]⟩, ⟨11, 42, [42], fun vs _ => vs = [.slice p.2.1 p.2.2.1 p.2.2.2]⟩, ⟨12, 43, [43], fun vs _ => vs = [.slice (some ⟨b1, o1, none⟩) n c]⟩, ⟨13, 44, [44], fun vs _ => vs = [.int .i64 (k : Int)]⟩, ⟨14, 45, [45], fun vs _ => vs = [.pointer (some ⟨b1, o1 + k * 6, none⟩)]⟩, ⟨15, 46, [46], fun vs _ => vs = [.pointer (some ⟨b1, o1 + k * 6 + 5, none⟩)]⟩, ⟨16, 47, [47], fun vs _ => vs = [.int .i64 p.1.rule]⟩, ⟨17, 48, [48], fun vs _ => vs = [.agg #[.int .i64 p.1.dst.lang, .bool p.1.dst.num, .bool p.1.dst.wrd, .int .i64 p.1.len, .slice p.2.1 p.2.2.1 p.2.2.2, .int .i64 p.1.rule]]⟩, ⟨18, 49, [49], fun vs w' => ∃ b, vs = [.slice (some ⟨b, 0, none⟩) 1 1] ∧ Sl w' 6 (some ⟨b, 0, none⟩) 1 1 (stc p)⟩] (by kernel_rfl) (by kernel_rfl) ?_ ?_ ?_
    ·simp only [All]
     refine ⟨fun _ _ _ _ h => h, fun _ _ _ _ h => h, fun _ _ _ _ h => h, fun _ _ _ _ h => h, fun _ _ _ _ h => h, fun _ _ _ _ h => h, fun _ _ _ _ h => h, fun _ _ _ _ h => h, fun _ _ _ _ h => h, fun _ _ _ _ h => h, fun _ _ _ _ h => h, fun _ _ _ _ h => h, fun _ _ _ _ h => h, fun _ _ _ _ h => h, fun _ _ _ _ h => h, fun _ _ _ _ h => h, fun _ _ _ _ h => h, fun _ _ _ _ h => h, ?_, trivial⟩
     ·rintro vs w w' hb ⟨b, h1, h2⟩
      exact ⟨b, h1, h2.below hb⟩
    ·simp only [All]
     refine ⟨?_, ?_, ?_, ?_, ?_, ?_, ?_, ?_, ?_, ?_, ?_, ?_, ?_, ?_, ?_, ?_, ?_, ?_, ?_, trivial⟩
     ·intro o ho a' w' hb hfr hdep; obtain rfl := oj ho
      have g3 : a'.tmps[3]?.getD undef = .slice ao k co := by simpa using hfr 3 (by kernel_rfl)
      clear ho hfr hdep; go_wp2_with fail; exact ⟨rfl, _, rfl, br, rfl⟩
     ·intro o ho a' w' hb hfr hdep; obtain rfl := oj ho
      have g5' : a'.tmps[5]?.getD undef = .pointer (some ⟨g5, 0, none⟩) := by simpa using hfr 5 (by kernel_rfl)
      clear ho hfr hdep; refine load_struct 32 84 _ 3 size_rst _ Tryd.underlying84 ⟨g5, 0, none⟩ (by show a'.tmps.getD 5 undef = _; simpa using g5') [.int .i64 p.1.dst.lang, .bool p.1.dst.num, .bool p.1.dst.wrd] rfl (fun j u hj => by rw [Addr.add_lit, Nat.zero_add]; exact (hY.under hb).at_ hj) ?_
      exact ⟨rfl, _, rfl, br, rfl⟩
     ·intro o ho a' w' hb hfr hdep; obtain rfl := oj ho
      have g0 : a'.tmps[0]?.getD undef = .slice (some ⟨b1, o1, none⟩) n c := by simpa using hfr 0 (by kernel_rfl)
      clear ho hfr hdep; go_wp2_with fail; exact ⟨rfl, _, rfl, br, rfl⟩
     ·intro o ho a' w' hb hfr hdep; obtain rfl := oj ho
      have g4 : a'.tmps[4]?.getD undef = .int .i64 (k : Int) := by simpa using hfr 4 (by kernel_rfl)
      clear ho hfr hdep; go_wp2_with fail; exact ⟨rfl, _, rfl, br, rfl⟩
     ·intro o ho a' w' hb hfr hdep; obtain rfl := oj ho
      have g33 : a'.tmps[33]?.getD undef = .slice (some ⟨b1, o1, none⟩) n c := by simpa using hdep 2 _ rfl (by kernel_rfl)
      have g34 : a'.tmps[34]?.getD undef = .int .i64 (k : Int) := by simpa using hdep 3 _ rfl (by kernel_rfl)
      clear ho hfr hdep; go_wp2_with fail; exact ⟨rfl, _, rfl, br, rfl⟩
     ·intro o ho a' w' hb hfr hdep; obtain rfl := oj ho
      have g35 : a'.tmps[35]?.getD undef = .pointer (some ⟨b1, o1 + k * 6, none⟩) := by simpa using hdep 4 _ rfl (by kernel_rfl)
      clear ho hfr hdep; go_wp2_with fail; exact ⟨rfl, _, rfl, br, rfl⟩
     ·intro o ho a' w' hb hfr hdep; obtain rfl := oj ho
      have g36 : a'.tmps[36]?.getD undef = .pointer (some ⟨b1, o1 + k * 6 + 3, none⟩) := by simpa using hdep 5 _ rfl (by kernel_rfl)
      clear ho hfr hdep; have hcl := cell_below x3 (hb4.trans (hb.mono hb4.size))
      go_wp2_with fail; exact ⟨rfl, _, rfl, br, rfl⟩
     ·intro o ho a' w' hb hfr hdep; obtain rfl := oj ho
      have g0 : a'.tmps[0]?.getD undef = .slice (some ⟨b1, o1, none⟩) n c := by simpa using hfr 0 (by kernel_rfl)
      clear ho hfr hdep; go_wp2_with fail; exact ⟨rfl, _, rfl, br, rfl⟩
     ·intro o ho a' w' hb hfr hdep; obtain rfl := oj ho
      have g4 : a'.tmps[4]?.getD undef = .int .i64 (k : Int) := by simpa using hfr 4 (by kernel_rfl)
      clear ho hfr hdep; go_wp2_with fail; exact ⟨rfl, _, rfl, br, rfl⟩
     ·intro o ho a' w' hb hfr hdep; obtain rfl := oj ho
      have g38 : a'.tmps[38]?.getD undef = .slice (some ⟨b1, o1, none⟩) n c := by simpa using hdep 7 _ rfl (by kernel_rfl)
      have g39 : a'.tmps[39]?.getD undef = .int .i64 (k : Int) := by simpa using hdep 8 _ rfl (by kernel_rfl)
      clear ho hfr hdep; go_wp2_with fail; exact ⟨rfl, _, rfl, br, rfl⟩
     ·intro o ho a' w' hb hfr hdep; obtain rfl := oj ho
      have g40 : a'.tmps[40]?.getD undef = .pointer (some ⟨b1, o1 + k * 6, none⟩) := by simpa using hdep 9 _ rfl (by kernel_rfl)
      clear ho hfr hdep; go_wp2_with fail; exact ⟨rfl, _, rfl, br, rfl⟩
     ·intro o ho a' w' hb hfr hdep; obtain rfl := oj ho
      have g41 : a'.tmps[41]?.getD undef = .pointer (some ⟨b1, o1 + k * 6 + 4, none⟩) := by simpa using hdep 10 _ rfl (by kernel_rfl)
      clear ho hfr hdep; have hcl := cell_below x4 (hb4.trans (hb.mono hb4.size))
      go_wp2_with fail; exact ⟨rfl, _, rfl, br, rfl⟩
     ·intro o ho a' w' hb hfr hdep; obtain rfl := oj ho
      have g0 : a'.tmps[0]?.getD undef = .slice (some ⟨b1, o1, none⟩) n c := by simpa using hfr 0 (by kernel_rfl)
      clear ho hfr hdep; go_wp2_with fail; exact ⟨rfl, _, rfl, br, rfl⟩
     ·intro o ho a' w' hb hfr hdep; obtain rfl := oj ho
      have g4 : a'.tmps[4]?.getD undef = .int .i64 (k : Int) := by simpa using hfr 4 (by kernel_rfl)
      clear ho hfr hdep; go_wp2_with fail; exact ⟨rfl, _, rfl, br, rfl⟩
     ·intro o ho a' w' hb hfr hdep; obtain rfl := oj ho
      have g43 : a'.tmps[43]?.getD undef = .slice (some ⟨b1, o1, none⟩) n c := by simpa using hdep 12 _ rfl (by kernel_rfl)
      have g44 : a'.tmps[44]?.getD undef = .int .i64 (k : Int) := by simpa using hdep 13 _ rfl (by kernel_rfl)
      clear ho hfr hdep; go_wp2_with fail; exact ⟨rfl, _, rfl, br, rfl⟩
     ·intro o ho a' w' hb hfr hdep; obtain rfl := oj ho
      have g45 : a'.tmps[45]?.getD undef = .pointer (some ⟨b1, o1 + k * 6, none⟩) := by simpa using hdep 14 _ rfl (by kernel_rfl)
      clear ho hfr hdep; go_wp2_with fail; exact ⟨rfl, _, rfl, br, rfl⟩
     ·intro o ho a' w' hb hfr hdep; obtain rfl := oj ho
      have g46 : a'.tmps[46]?.getD undef = .pointer (some ⟨b1, o1 + k * 6 + 5, none⟩) := by simpa using hdep 15 _ rfl (by kernel_rfl)
      clear ho hfr hdep; have hcl := cell_below x5 (hb4.trans (hb.mono hb4.size))
      go_wp2_with fail; exact ⟨rfl, _, rfl, br, rfl⟩
     ·intro o ho a' w' hb hfr hdep; obtain rfl := oj ho
      have g32 : a'.tmps[32]?.getD undef = .agg #[.int .i64 p.1.dst.lang, .bool p.1.dst.num, .bool p.1.dst.wrd] := by simpa using hdep 1 _ rfl (by kernel_rfl)
      have g37 : a'.tmps[37]?.getD undef = .int .i64 p.1.len := by simpa using hdep 6 _ rfl (by kernel_rfl)
      have g42 : a'.tmps[42]?.getD undef = .slice p.2.1 p.2.2.1 p.2.2.2 := by simpa using hdep 11 _ rfl (by kernel_rfl)
      have g47 : a'.tmps[47]?.getD undef = .int .i64 p.1.rule := by simpa using hdep 16 _ rfl (by kernel_rfl)
      clear ho hfr hdep; go_wp2_with fail; exact ⟨rfl, _, rfl, br, rfl⟩
     ·intro o ho a' w' hb hfr hdep; obtain rfl := oj ho
      have g48 : a'.tmps[48]?.getD undef = .agg #[.int .i64 p.1.dst.lang, .bool p.1.dst.num, .bool p.1.dst.wrd, .int .i64 p.1.len, .slice p.2.1 p.2.2.1 p.2.2.2, .int .i64 p.1.rule] := by simpa using hdep 17 _ rfl (by kernel_rfl)
      clear ho hfr hdep; go_wp2_with fail
      exact ⟨rfl, _, rfl, blo _ _, _, rfl, Sl.fresh _ _ 6 1 (stc p) rfl (by decide)⟩
    ·intro g w5 hb5 hp5
     have p31 := hp5 0 _ rfl
     obtain ⟨b9, p49, hs9⟩ := hp5 18 _ rfl
     clear hp5
     simp at p31 p49
     simp only [List.drop_succ_cons, List.drop_zero, List.map_cons, List.map_nil, putAll, Act.put, List.setIfInBounds_toArray, List.set_cons_succ, List.set_cons_zero, List.cons_append, List.nil_append, p31, p49]
     clear p31 p49
     have hb45 := hb4.trans (hb5.mono hb4.size)
     have hbW := hb.trans (hb45.mono hb.size)
     have hO5 := hO.below hb45
     go_wp2_with (at_builtin; refine app_rst3 rfl _ _ rfl w w.heap.size ao k co _ rfl hO5 p _ _ rfl hs9 (by omega) hbW.size hbW ?_; intro a7 c7 w7 ho7 hb7)
     go_roundg (n - (k + 1))
     case measure => have := HG.out; omega
     case rel => exact ⟨k + 1, a7, c7, by omega, rfl, rfl, by go_num, hide (by rw [HT.out]; exact ho7), hb7⟩
  ·obtain rfl : k = n := by omega
   have hSr := hS.below hb
   have hO := HO.out
   go_wp2_with fail
   go_ret
   have hpl := HPL.out
   have hnL := hS.n_eq
   rw [List.take_of_length_le (by omega)] at hO
   exact ⟨ao, co, ps, by rw [← hnL]; rfl, by rw [← hnL]; exact ⟨hO.sl, hSr.row, hSr.eq⟩, hb⟩

set_option maxRecDepth 100000 in
set_option maxHeartbeats 4000000 in
theorem ref_SameSteps (L : List Stp) (ps qs : List SH) (a a2 : Option Addr) (n c c2 : Nat) (hn : n ≤ 1000) (w : World) (hS : Stl w a n c ps L) (hS2 : Stl w a2 n c2 qs L) :
  Calls Tryd.prog 17 #[.slice a n c, .slice a2 n c2] w fun e w' => e = .returned (.bool true) ∧ Below w.heap.size w w' := by
 have HN := hide hS.n_eq
 go_enter Tryd.func17, Tryd.ntmps17
 go_wp2_with fail
 go_loopg [5] n (fun gh v w' => ∃ k : Nat, k ≤ n ∧ gh = n - k ∧ v = .int .i64 (k : Int) ∧ Below w.heap.size w w')
 case atStart => exact ⟨0, by omega, by omega, rfl, Below.refl _ _⟩
 case round =>
  obtain ⟨k, hk, hgk, rfl, hb⟩ := hrel
  have HG := hide hgk
  clear hgk
  by_cases hkl : k < n
  ·obtain ⟨st, hst⟩ : ∃ st, L[k]? = some st := ⟨_, List.getElem?_eq_getElem (by have := HN.out; omega)⟩
   have hSr := hS.below hb
   have hSr2 := hS2.below hb
   obtain ⟨p, hp, hpst⟩ := st_get hSr.eq hst
   obtain ⟨q, hq, hqst⟩ := st_get hSr2.eq hst
   obtain ⟨b1, o1, hab, hb1, x0, x1, x2, x3, x4, x5⟩ := st_cells hSr hp
   obtain ⟨b2, o2, hab2, hb2, y0, y1, y2, y3, y4, y5⟩ := st_cells hSr2 hq
   have hp1 := hSr.row p (List.mem_of_getElem? hp)
   have hp2 := hSr2.row q (List.mem_of_getElem? hq)
   subst hab; subst hab2
   have hqp : q.1 = p.1 := by rw [hqst, hpst]
   rw [hqp] at y0 y1 y2 y3 y5
   have hc1 : p.1.cells = q.1.cells := by rw [hqp]
   have HD1 : Hid (∀ (j : Nat) (u : Value), ([.int .i64 p.1.dst.lang, .bool p.1.dst.num, .bool p.1.dst.wrd] : List Value)[j]? = some u → wr.cell? ⟨b1, o1 + k * 6 + j, none⟩ = some u) := hide (by
    intro j u hj
    rcases j with _ | _ | _ | j
    ·cases hj; exact x0
    ·cases hj; exact x1
    ·cases hj; exact x2
    ·cases hj)
   have HD2 : Hid (∀ (j : Nat) (u : Value), ([.int .i64 p.1.dst.lang, .bool p.1.dst.num, .bool p.1.dst.wrd] : List Value)[j]? = some u → wr.cell? ⟨b2, o2 + k * 6 + j, none⟩ = some u) := hide (by
    intro j u hj
    rcases j with _ | _ | _ | j
    ·cases hj; exact y0
    ·cases hj; exact y1
    ·cases hj; exact y2
    ·cases hj)
   have v1 : (p.1.dst.lang != p.1.dst.lang) = false := by simp
   have v2 : (p.1.dst.num != p.1.dst.num) = false := by simp
   have v3 : (p.1.dst.wrd != p.1.dst.wrd) = false := by simp
   have v4 : (p.1.len != p.1.len) = false := by simp
   have v5 : (p.1.rule != p.1.rule) = false := by simp
   clear hp hq hpst hqst hst hqp hSr hSr2 x0 x1 x2 y0 y1 y2
   have e1 : decide (k < n) = true := decide_eq_true hkl
   have e1' : decide ((k : Int) < (n : Int)) = true := decide_eq_true (by omega)
   go_wp2_with fail
   refine wp_region_free 50 [⟨0, 17, [17], fun vs _ => vs = [.slice (some ⟨b1, o1, none⟩) n c]⟩, ⟨1, 18, [18], fun vs _ => vs = [.int .i64 (k : Int)]⟩, ⟨2, 19, [19], fun vs _ => vs = [.pointer (some ⟨b1, o1 + k * 6, none⟩)]⟩, ⟨3, 20, [20], fun vs _ => vs = [.pointer (some ⟨b1, o1 + k * 6, none⟩)]⟩, ⟨4, 21, [21], fun vs _ => vs = [.agg #[.int .i64 p.1.dst.lang, .bool p.1.dst.num, .bool p.1.dst.wrd]]⟩, ⟨5, 22, [22], fun vs _ => vs = [.slice (some ⟨b2, o2, none⟩) n c2]⟩, ⟨6, 23, [23], fun vs _ => vs = [.int .i64 (k : Int)]⟩, ⟨7, 24, [24], fun vs _ => vs = [.pointer (some ⟨b2, o2 + k * 6, none⟩)]⟩, ⟨8, 25, [25], fun vs _ => vs = [.pointer (some ⟨b2, o2 + k * 6, none⟩)]⟩, ⟨9, 26, [26], fun vs _ => vs = [.agg #[.int .i64 p.1.dst.lang, .bool p.1.dst.num, .bool p.1.dst.wrd]]⟩, ⟨10, 27, [27], fun vs _ => vs = [.bool false]⟩, ⟨11, 28, [28], fun vs _ => vs = [.bool false]⟩, ⟨12, 29, [29], fun vs _ => vs = [.slice (some ⟨b1, o1, none⟩) n c]⟩, ⟨13, 30, [30], fun vs _ => vs = [.int .i64 (k : Int)]⟩, ⟨14, 31, [31], fun vs _ => vs = [.pointer (some ⟨b1, o1 + k * 6, none⟩)]⟩, ⟨15, 32, [32], fun vs _ => vs = [.pointer (some ⟨b1, o1 + k * 6 + 3, none⟩)]⟩, ⟨16, 33, [33], fun vs _ => vs = [.int .i64 p.1.len]⟩, ⟨17, 34, [34], fun vs _ => vs = [.slice (some ⟨b2, o2, none⟩) n c2]⟩, ⟨18, 35, [35], fun vs _ => vs = [.int .i64 (k : Int)]⟩, ⟨19, 36, [36], fun vs _ => vs = [.pointer (some ⟨b2, o2 + k * 6, none⟩)]⟩, ⟨20, 37, [37], fun vs _ => vs = [.pointer (some ⟨b2, o2 + k * 6 + 3, none⟩)]⟩, ⟨21, 38, [38], fun vs _ => vs = [.int .i64 p.1.len]⟩, ⟨22, 39, [39], fun vs _ => vs = [.bool false]⟩, ⟨23, 40, [40], fun vs _ => vs = [.bool false]⟩, ⟨24, 41, [41], fun vs _ => vs = [.bool false]⟩, ⟨25, 42, [42], fun vs _ => vs = [.slice (some ⟨b1, o1, none⟩) n c]⟩, ⟨26, 43, [43], fun vs _ => vs = [.int .i64 (k : Int)]⟩, ⟨27, 44, [44], fun vs _ => vs = [.pointer (some ⟨b1, o1 + k * 6, none⟩)]⟩, ⟨28, 45, [45], fun vs _ => vs = [.pointer (some ⟨b1, o1 + k * 6 + 5, none⟩)]⟩, ⟨29, 46, [46], fun vs _ => vs = [.int .i64 p.1.rule]⟩, ⟨30, 47, [47], fun vs _ => vs = [.slice (some ⟨b2, o2, none⟩) n c2]⟩, ⟨31, 48, [48], fun vs _ => vs = [.int .i64 (k : Int)]⟩, ⟨32, 49, [49], fun vs _ => vs = [.pointer (some ⟨b2, o2 + k * 6, none⟩)]⟩, ⟨33, 50, [50], fun vs _ => vs = [.pointer (some ⟨b2, o2 + k * 6 + 5, none⟩)]⟩, ⟨34, 51, [51], fun vs _ => vs = [.int .i64 p.1.rule]⟩, ⟨35, 52, [52], fun vs _ => vs = [.bool false]⟩, ⟨36, 53, [53], fun vs _ => vs = [.bool false]⟩, ⟨37, 54, [54], fun vs _ => vs = [.bool false]⟩, ⟨38, 55, [55], fun vs _ => vs = [.slice (some ⟨b1, o1, none⟩) n c]⟩, ⟨39, 56, [56], fun vs _ => vs = [.int .i64 (k : Int)]⟩, ⟨40, 57, [57], fun vs _ => vs = [.pointer (some ⟨b1, o1 + k * 6, none⟩)]⟩, ⟨41, 58, [58], fun vs _ => vs = [.pointer (some ⟨b1, o1 + k * 6 + 4, none⟩)]⟩, ⟨42, 59, [59], fun vs _ => vs = [.slice p.2.1 p.2.2.1 p.2.2.2]⟩, ⟨43, 60, [60], fun vs _ => vs = [.slice (some ⟨b2, o2, none⟩) n c2]⟩, ⟨44, 61, [61], fun vs _ => vs = [.int .i64 (k : Int)]⟩, ⟨45, 62, [62], fun vs _ => vs = [.pointer (some ⟨b2, o2 + k * 6, none⟩)]⟩, ⟨46, 63, [63], fun vs _ => vs = [.pointer (some ⟨b2, o2 + k * 6 + 4, none⟩)]⟩, ⟨47, 64, [64], fun vs _ => vs = [.slice q.2.1 q.2.2.1 q.2.2.2]⟩, ⟨48, 65, [65], fun vs _ => vs = [.bool true]⟩, ⟨49, 66, [66], fun vs _ => vs = [.bool false]⟩] (by kernel_rfl) (by kernel_rfl) ?_ ?_ ?_
   ·simp only [All]
    refine ⟨fun _ _ _ _ h => h, fun _ _ _ _ h => h, fun _ _ _ _ h => h, fun _ _ _ _ h => h, fun _ _ _ _ h => h, fun _ _ _ _ h => h, fun _ _ _ _ h => h, fun _ _ _ _ h => h, fun _ _ _ _ h => h, fun _ _ _ _ h => h, fun _ _ _ _ h => h, fun _ _ _ _ h => h, fun _ _ _ _ h => h, fun _ _ _ _ h => h, fun _ _ _ _ h => h, fun _ _ _ _ h => h, fun _ _ _ _ h => h, fun _ _ _ _ h => h, fun _ _ _ _ h => h, fun _ _ _ _ h => h, fun _ _ _ _ h => h, fun _ _ _ _ h => h, fun _ _ _ _ h => h, fun _ _ _ _ h => h, fun _ _ _ _ h => h, fun _ _ _ _ h => h, fun _ _ _ _ h => h, fun _ _ _ _ h => h, fun _ _ _ _ h => h, fun _ _ _ _ h => h, fun _ _ _ _ h => h, fun _ _ _ _ h => h, fun _ _ _ _ h => h, fun _ _ _ _ h => h, fun _ _ _ _ h => h, fun _ _ _ _ h => h, fun _ _ _ _ h => h, fun _ _ _ _ h => h, fun _ _ _ _ h => h, fun _ _ _ _ h => h, fun _ _ _ _ h => h, fun _ _ _ _ h => h, fun _ _ _ _ h => h, fun _ _ _ _ h => h, fun _ _ _ _ h => h, fun _ _ _ _ h => h, fun _ _ _ _ h => h, fun _ _ _ _ h => h, fun _ _ _ _ h => h, fun _ _ _ _ h => h, trivial⟩
   ·simp only [All]
    refine ⟨?_, ?_, ?_, ?_, ?_, ?_, ?_, ?_, ?_, ?_, ?_, ?_, ?_, ?_, ?_, ?_, ?_, ?_, ?_, ?_, ?_, ?_, ?_, ?_, ?_, ?_, ?_, ?_, ?_, ?_, ?_, ?_, ?_, ?_, ?_, ?_, ?_, ?_, ?_, ?_, ?_, ?_, ?_, ?_, ?_, ?_, ?_, ?_, ?_, ?_, trivial⟩
    ·intro o ho a' w' hb hfr hdep; obtain rfl := oj ho
     have g0 : a'.tmps[0]?.getD undef = .slice (some ⟨b1, o1, none⟩) n c := by simpa using hfr 0 (by kernel_rfl)
     clear ho hfr hdep; go_wp2_with fail; exact ⟨rfl, _, rfl, br, rfl⟩
    ·intro o ho a' w' hb hfr hdep; obtain rfl := oj ho
     have g5 : a'.tmps[5]?.getD undef = .int .i64 (k : Int) := by simpa using hfr 5 (by kernel_rfl)
     clear ho hfr hdep; go_wp2_with fail; exact ⟨rfl, _, rfl, br, rfl⟩
    ·intro o ho a' w' hb hfr hdep; obtain rfl := oj ho
     have g17 : a'.tmps[17]?.getD undef = .slice (some ⟨b1, o1, none⟩) n c := by simpa using hdep 0 _ rfl (by kernel_rfl)
     have g18 : a'.tmps[18]?.getD undef = .int .i64 (k : Int) := by simpa using hdep 1 _ rfl (by kernel_rfl)
     clear ho hfr hdep; go_wp2_with fail; exact ⟨rfl, _, rfl, br, rfl⟩
    ·intro o ho a' w' hb hfr hdep; obtain rfl := oj ho
     have g19 : a'.tmps[19]?.getD undef = .pointer (some ⟨b1, o1 + k * 6, none⟩) := by simpa using hdep 2 _ rfl (by kernel_rfl)
     clear ho hfr hdep; go_wp2_with fail; exact ⟨rfl, _, rfl, br, rfl⟩
    ·intro o ho a' w' hb hfr hdep; obtain rfl := oj ho
     have g20 : a'.tmps[20]?.getD undef = .pointer (some ⟨b1, o1 + k * 6, none⟩) := by simpa using hdep 3 _ rfl (by kernel_rfl)
     clear ho hfr hdep; refine load_struct 21 84 _ 3 size_rst _ Tryd.underlying84 ⟨b1, o1 + k * 6, none⟩ (by show a'.tmps.getD 20 undef = _; simpa using g20) [.int .i64 p.1.dst.lang, .bool p.1.dst.num, .bool p.1.dst.wrd] rfl (fun j u hj => by rw [Addr.add_lit]; exact cell_below (HD1.out j u hj) hb) ?_
     exact ⟨rfl, _, rfl, br, rfl⟩
    ·intro o ho a' w' hb hfr hdep; obtain rfl := oj ho
     have g1 : a'.tmps[1]?.getD undef = .slice (some ⟨b2, o2, none⟩) n c2 := by simpa using hfr 1 (by kernel_rfl)
     clear ho hfr hdep; go_wp2_with fail; exact ⟨rfl, _, rfl, br, rfl⟩
    ·intro o ho a' w' hb hfr hdep; obtain rfl := oj ho
     have g5 : a'.tmps[5]?.getD undef = .int .i64 (k : Int) := by simpa using hfr 5 (by kernel_rfl)
     clear ho hfr hdep; go_wp2_with fail; exact ⟨rfl, _, rfl, br, rfl⟩
    ·intro o ho a' w' hb hfr hdep; obtain rfl := oj ho
     have g22 : a'.tmps[22]?.getD undef = .slice (some ⟨b2, o2, none⟩) n c2 := by simpa using hdep 5 _ rfl (by kernel_rfl)
     have g23 : a'.tmps[23]?.getD undef = .int .i64 (k : Int) := by simpa using hdep 6 _ rfl (by kernel_rfl)
     clear ho hfr hdep; go_wp2_with fail; exact ⟨rfl, _, rfl, br, rfl⟩
    ·intro o ho a' w' hb hfr hdep; obtain rfl := oj ho
     have g24 : a'.tmps[24]?.getD undef = .pointer (some ⟨b2, o2 + k * 6, none⟩) := by simpa using hdep 7 _ rfl (by kernel_rfl)
     clear ho hfr hdep; go_wp2_with fail; exact ⟨rfl, _, rfl, br, rfl⟩
    ·intro o ho a' w' hb hfr hdep; obtain rfl := oj ho
     have g25 : a'.tmps[25]?.getD undef = .pointer (some ⟨b2, o2 + k * 6, none⟩) := by simpa using hdep 8 _ rfl (by kernel_rfl)
     clear ho hfr hdep; refine load_struct 26 84 _ 3 size_rst _ Tryd.underlying84 ⟨b2, o2 + k * 6, none⟩ (by show a'.tmps.getD 25 undef = _; simpa using g25) [.int .i64 p.1.dst.lang, .bool p.1.dst.num, .bool p.1.dst.wrd] rfl (fun j u hj => by rw [Addr.add_lit]; exact cell_below (HD2.out j u hj) hb) ?_
     exact ⟨rfl, _, rfl, br, rfl⟩
    ·intro o ho a' w' hb hfr hdep; obtain rfl := oj ho
     have g21 : a'.tmps[21]?.getD undef = .agg #[.int .i64 p.1.dst.lang, .bool p.1.dst.num, .bool p.1.dst.wrd] := by simpa using hdep 4 _ rfl (by kernel_rfl)
     have g26 : a'.tmps[26]?.getD undef = .agg #[.int .i64 p.1.dst.lang, .bool p.1.dst.num, .bool p.1.dst.wrd] := by simpa using hdep 9 _ rfl (by kernel_rfl)
     clear ho hfr hdep; go_wp2_with fail; exact ⟨rfl, _, rfl, br, rfl⟩
    ·intro o ho a' w' hb hfr hdep; obtain rfl := oj ho
     have g27 : a'.tmps[27]?.getD undef = .bool false := by simpa using hdep 10 _ rfl (by kernel_rfl)
     clear ho hfr hdep; go_wp2_with fail; exact ⟨rfl, _, rfl, br, rfl⟩
    ·intro o ho a' w' hb hfr hdep; obtain rfl := oj ho
     have g0 : a'.tmps[0]?.getD undef = .slice (some ⟨b1, o1, none⟩) n c := by simpa using hfr 0 (by kernel_rfl)
     have g28 : a'.tmps[28]?.getD undef = .bool false := by simpa using hdep 11 _ rfl (by kernel_rfl)
     have q28 := opt_bool g28
     clear ho hfr hdep; refine unguard_any (by simp [Region.wanted, yielded, q28]) ?_
     go_wp2_with fail; exact ⟨rfl, _, rfl, br, rfl⟩
    ·intro o ho a' w' hb hfr hdep; obtain rfl := oj ho
     have g5 : a'.tmps[5]?.getD undef = .int .i64 (k : Int) := by simpa using hfr 5 (by kernel_rfl)
     have g28 : a'.tmps[28]?.getD undef = .bool false := by simpa using hdep 11 _ rfl (by kernel_rfl)
     have q28 := opt_bool g28
     clear ho hfr hdep; refine unguard_any (by simp [Region.wanted, yielded, q28]) ?_
     go_wp2_with fail; exact ⟨rfl, _, rfl, br, rfl⟩
    ·intro o ho a' w' hb hfr hdep; obtain rfl := oj ho
     have g29 : a'.tmps[29]?.getD undef = .slice (some ⟨b1, o1, none⟩) n c := by simpa using hdep 12 _ rfl (by kernel_rfl)
     have g30 : a'.tmps[30]?.getD undef = .int .i64 (k : Int) := by simpa using hdep 13 _ rfl (by kernel_rfl)
     have g28 : a'.tmps[28]?.getD undef = .bool false := by simpa using hdep 11 _ rfl (by kernel_rfl)
     have q28 := opt_bool g28
     clear ho hfr hdep; refine unguard_any (by simp [Region.wanted, yielded, q28]) ?_
     go_wp2_with fail; exact ⟨rfl, _, rfl, br, rfl⟩
    ·intro o ho a' w' hb hfr hdep; obtain rfl := oj ho
     have g31 : a'.tmps[31]?.getD undef = .pointer (some ⟨b1, o1 + k * 6, none⟩) := by simpa using hdep 14 _ rfl (by kernel_rfl)
     have g28 : a'.tmps[28]?.getD undef = .bool false := by simpa using hdep 11 _ rfl (by kernel_rfl)
     have q28 := opt_bool g28
     clear ho hfr hdep; refine unguard_any (by simp [Region.wanted, yielded, q28]) ?_
     go_wp2_with fail; exact ⟨rfl, _, rfl, br, rfl⟩
    ·intro o ho a' w' hb hfr hdep; obtain rfl := oj ho
     have g32 : a'.tmps[32]?.getD undef = .pointer (some ⟨b1, o1 + k * 6 + 3, none⟩) := by simpa using hdep 15 _ rfl (by kernel_rfl)
     have g28 : a'.tmps[28]?.getD undef = .bool false := by simpa using hdep 11 _ rfl (by kernel_rfl)
     have q28 := opt_bool g28
     clear ho hfr hdep; refine unguard_any (by simp [Region.wanted, yielded, q28]) ?_
     have hcl := cell_below x3 hb
     go_wp2_with fail; exact ⟨rfl, _, rfl, br, rfl⟩
    ·intro o ho a' w' hb hfr hdep; obtain rfl := oj ho
     have g1 : a'.tmps[1]?.getD undef = .slice (some ⟨b2, o2, none⟩) n c2 := by simpa using hfr 1 (by kernel_rfl)
     have g28 : a'.tmps[28]?.getD undef = .bool false := by simpa using hdep 11 _ rfl (by kernel_rfl)
     have q28 := opt_bool g28
     clear ho hfr hdep; refine unguard_any (by simp [Region.wanted, yielded, q28]) ?_
     go_wp2_with fail; exact ⟨rfl, _, rfl, br, rfl⟩
    ·intro o ho a' w' hb hfr hdep; obtain rfl := oj ho
     have g5 : a'.tmps[5]?.getD undef = .int .i64 (k : Int) := by simpa using hfr 5 (by kernel_rfl)
     have g28 : a'.tmps[28]?.getD undef = .bool false := by simpa using hdep 11 _ rfl (by kernel_rfl)
     have q28 := opt_bool g28
     clear ho hfr hdep; refine unguard_any (by simp [Region.wanted, yielded, q28]) ?_
     go_wp2_with fail; exact ⟨rfl, _, rfl, br, rfl⟩
    ·intro o ho a' w' hb hfr hdep; obtain rfl := oj ho
     have g34 : a'.tmps[34]?.getD undef = .slice (some ⟨b2, o2, none⟩) n c2 := by simpa using hdep 17 _ rfl (by kernel_rfl)
     have g35 : a'.tmps[35]?.getD undef = .int .i64 (k : Int) := by simpa using hdep 18 _ rfl (by kernel_rfl)
     have g28 : a'.tmps[28]?.getD undef = .bool false := by simpa using hdep 11 _ rfl (by kernel_rfl)
     have q28 := opt_bool g28
     clear ho hfr hdep; refine unguard_any (by simp [Region.wanted, yielded, q28]) ?_
     go_wp2_with fail; exact ⟨rfl, _, rfl, br, rfl⟩
    ·intro o ho a' w' hb hfr hdep; obtain rfl := oj ho
     have g36 : a'.tmps[36]?.getD undef = .pointer (some ⟨b2, o2 + k * 6, none⟩) := by simpa using hdep 19 _ rfl (by kernel_rfl)
     have g28 : a'.tmps[28]?.getD undef = .bool false := by simpa using hdep 11 _ rfl (by kernel_rfl)
     have q28 := opt_bool g28
     clear ho hfr hdep; refine unguard_any (by simp [Region.wanted, yielded, q28]) ?_
     go_wp2_with fail; exact ⟨rfl, _, rfl, br, rfl⟩
    ·intro o ho a' w' hb hfr hdep; obtain rfl := oj ho
     have g37 : a'.tmps[37]?.getD undef = .pointer (some ⟨b2, o2 + k * 6 + 3, none⟩) := by simpa using hdep 20 _ rfl (by kernel_rfl)
     have g28 : a'.tmps[28]?.getD undef = .bool false := by simpa using hdep 11 _ rfl (by kernel_rfl)
     have q28 := opt_bool g28
     clear ho hfr hdep; refine unguard_any (by simp [Region.wanted, yielded, q28]) ?_
     have hcl := cell_below y3 hb
     go_wp2_with fail; exact ⟨rfl, _, rfl, br, rfl⟩
    ·intro o ho a' w' hb hfr hdep; obtain rfl := oj ho
     have g33 : a'.tmps[33]?.getD undef = .int .i64 p.1.len := by simpa using hdep 16 _ rfl (by kernel_rfl)
     have g38 : a'.tmps[38]?.getD undef = .int .i64 p.1.len := by simpa using hdep 21 _ rfl (by kernel_rfl)
     have g28 : a'.tmps[28]?.getD undef = .bool false := by simpa using hdep 11 _ rfl (by kernel_rfl)
     have q28 := opt_bool g28
     clear ho hfr hdep; refine unguard_any (by simp [Region.wanted, yielded, q28]) ?_
     go_wp2_with fail; exact ⟨rfl, _, rfl, br, rfl⟩
    ·intro o ho a' w' hb hfr hdep; obtain rfl := oj ho
     have g28 : a'.tmps[28]?.getD undef = .bool false := by simpa using hdep 11 _ rfl (by kernel_rfl)
     have g39 : a'.tmps[39]?.getD undef = .bool false := by simpa using hdep 22 _ rfl (by kernel_rfl)
     clear ho hfr hdep; go_wp2_with fail; exact ⟨rfl, _, rfl, br, rfl⟩
    ·intro o ho a' w' hb hfr hdep; obtain rfl := oj ho
     have g40 : a'.tmps[40]?.getD undef = .bool false := by simpa using hdep 23 _ rfl (by kernel_rfl)
     clear ho hfr hdep; go_wp2_with fail; exact ⟨rfl, _, rfl, br, rfl⟩
    ·intro o ho a' w' hb hfr hdep; obtain rfl := oj ho
     have g0 : a'.tmps[0]?.getD undef = .slice (some ⟨b1, o1, none⟩) n c := by simpa using hfr 0 (by kernel_rfl)
     have g41 : a'.tmps[41]?.getD undef = .bool false := by simpa using hdep 24 _ rfl (by kernel_rfl)
     have q41 := opt_bool g41
     clear ho hfr hdep; refine unguard_any (by simp [Region.wanted, yielded, q41]) ?_
     go_wp2_with fail; exact ⟨rfl, _, rfl, br, rfl⟩
    ·intro o ho a' w' hb hfr hdep; obtain rfl := oj ho
     have g5 : a'.tmps[5]?.getD undef = .int .i64 (k : Int) := by simpa using hfr 5 (by kernel_rfl)
     have g41 : a'.tmps[41]?.getD undef = .bool false := by simpa using hdep 24 _ rfl (by kernel_rfl)
     have q41 := opt_bool g41
     clear ho hfr hdep; refine unguard_any (by simp [Region.wanted, yielded, q41]) ?_
     go_wp2_with fail; exact ⟨rfl, _, rfl, br, rfl⟩
    ·intro o ho a' w' hb hfr hdep; obtain rfl := oj ho
     have g42 : a'.tmps[42]?.getD undef = .slice (some ⟨b1, o1, none⟩) n c := by simpa using hdep 25 _ rfl (by kernel_rfl)
     have g43 : a'.tmps[43]?.getD undef = .int .i64 (k : Int) := by simpa using hdep 26 _ rfl (by kernel_rfl)
     have g41 : a'.tmps[41]?.getD undef = .bool false := by simpa using hdep 24 _ rfl (by kernel_rfl)
     have q41 := opt_bool g41
     clear ho hfr hdep; refine unguard_any (by simp [Region.wanted, yielded, q41]) ?_
     go_wp2_with fail; exact ⟨rfl, _, rfl, br, rfl⟩
    ·intro o ho a' w' hb hfr hdep; obtain rfl := oj ho
     have g44 : a'.tmps[44]?.getD undef = .pointer (some ⟨b1, o1 + k * 6, none⟩) := by simpa using hdep 27 _ rfl (by kernel_rfl)
     have g41 : a'.tmps[41]?.getD undef = .bool false := by simpa using hdep 24 _ rfl (by kernel_rfl)
     have q41 := opt_bool g41
     clear ho hfr hdep; refine unguard_any (by simp [Region.wanted, yielded, q41]) ?_
     go_wp2_with fail; exact ⟨rfl, _, rfl, br, rfl⟩
    ·intro o ho a' w' hb hfr hdep; obtain rfl := oj ho
     have g45 : a'.tmps[45]?.getD undef = .pointer (some ⟨b1, o1 + k * 6 + 5, none⟩) := by simpa using hdep 28 _ rfl (by kernel_rfl)
     have g41 : a'.tmps[41]?.getD undef = .bool false := by simpa using hdep 24 _ rfl (by kernel_rfl)
     have q41 := opt_bool g41
     clear ho hfr hdep; refine unguard_any (by simp [Region.wanted, yielded, q41]) ?_
     have hcl := cell_below x5 hb
     go_wp2_with fail; exact ⟨rfl, _, rfl, br, rfl⟩
    ·intro o ho a' w' hb hfr hdep; obtain rfl := oj ho
     have g1 : a'.tmps[1]?.getD undef = .slice (some ⟨b2, o2, none⟩) n c2 := by simpa using hfr 1 (by kernel_rfl)
     have g41 : a'.tmps[41]?.getD undef = .bool false := by simpa using hdep 24 _ rfl (by kernel_rfl)
     have q41 := opt_bool g41
     clear ho hfr hdep; refine unguard_any (by simp [Region.wanted, yielded, q41]) ?_
     go_wp2_with fail; exact ⟨rfl, _, rfl, br, rfl⟩
    ·intro o ho a' w' hb hfr hdep; obtain rfl := oj ho
     have g5 : a'.tmps[5]?.getD undef = .int .i64 (k : Int) := by simpa using hfr 5 (by kernel_rfl)
     have g41 : a'.tmps[41]?.getD undef = .bool false := by simpa using hdep 24 _ rfl (by kernel_rfl)
     have q41 := opt_bool g41
     clear ho hfr hdep; refine unguard_any (by simp [Region.wanted, yielded, q41]) ?_
     go_wp2_with fail; exact ⟨rfl, _, rfl, br, rfl⟩
    ·intro o ho a' w' hb hfr hdep; obtain rfl := oj ho
     have g47 : a'.tmps[47]?.getD undef = .slice (some ⟨b2, o2, none⟩) n c2 := by simpa using hdep 30 _ rfl (by kernel_rfl)
     have g48 : a'.tmps[48]?.getD undef = .int .i64 (k : Int) := by simpa using hdep 31 _ rfl (by kernel_rfl)
     have g41 : a'.tmps[41]?.getD undef = .bool false := by simpa using hdep 24 _ rfl (by kernel_rfl)
     have q41 := opt_bool g41
     clear ho hfr hdep; refine unguard_any (by simp [Region.wanted, yielded, q41]) ?_
     go_wp2_with fail; exact ⟨rfl, _, rfl, br, rfl⟩
    ·intro o ho a' w' hb hfr hdep; obtain rfl := oj ho
     have g49 : a'.tmps[49]?.getD undef = .pointer (some ⟨b2, o2 + k * 6, none⟩) := by simpa using hdep 32 _ rfl (by kernel_rfl)
     have g41 : a'.tmps[41]?.getD undef = .bool false := by simpa using hdep 24 _ rfl (by kernel_rfl)
     have q41 := opt_bool g41
     clear ho hfr hdep; refine unguard_any (by simp [Region.wanted, yielded, q41]) ?_
     go_wp2_with fail; exact ⟨rfl, _, rfl, br, rfl⟩
    ·intro o ho a' w' hb hfr hdep; obtain rfl := oj ho
     have g50 : a'.tmps[50]?.getD undef = .pointer (some ⟨b2, o2 + k * 6 + 5, none⟩) := by simpa using hdep 33 _ rfl (by kernel_rfl)
     have g41 : a'.tmps[41]?.getD undef = .bool false := by simpa using hdep 24 _ rfl (by kernel_rfl)
     have q41 := opt_bool g41
     clear ho hfr hdep; refine unguard_any (by simp [Region.wanted, yielded, q41]) ?_
     have hcl := cell_below y5 hb
     go_wp2_with fail; exact ⟨rfl, _, rfl, br, rfl⟩
    ·intro o ho a' w' hb hfr hdep; obtain rfl := oj ho
     have g46 : a'.tmps[46]?.getD undef = .int .i64 p.1.rule := by simpa using hdep 29 _ rfl (by kernel_rfl)
     have g51 : a'.tmps[51]?.getD undef = .int .i64 p.1.rule := by simpa using hdep 34 _ rfl (by kernel_rfl)
     have g41 : a'.tmps[41]?.getD undef = .bool false := by simpa using hdep 24 _ rfl (by kernel_rfl)
     have q41 := opt_bool g41
     clear ho hfr hdep; refine unguard_any (by simp [Region.wanted, yielded, q41]) ?_
     go_wp2_with fail; exact ⟨rfl, _, rfl, br, rfl⟩
    ·intro o ho a' w' hb hfr hdep; obtain rfl := oj ho
     have g41 : a'.tmps[41]?.getD undef = .bool false := by simpa using hdep 24 _ rfl (by kernel_rfl)
     have g52 : a'.tmps[52]?.getD undef = .bool false := by simpa using hdep 35 _ rfl (by kernel_rfl)
     clear ho hfr hdep; go_wp2_with fail; exact ⟨rfl, _, rfl, br, rfl⟩
    ·intro o ho a' w' hb hfr hdep; obtain rfl := oj ho
     have g53 : a'.tmps[53]?.getD undef = .bool false := by simpa using hdep 36 _ rfl (by kernel_rfl)
     clear ho hfr hdep; go_wp2_with fail; exact ⟨rfl, _, rfl, br, rfl⟩
    ·intro o ho a' w' hb hfr hdep; obtain rfl := oj ho
     have g0 : a'.tmps[0]?.getD undef = .slice (some ⟨b1, o1, none⟩) n c := by simpa using hfr 0 (by kernel_rfl)
     have g54 : a'.tmps[54]?.getD undef = .bool false := by simpa using hdep 37 _ rfl (by kernel_rfl)
     have q54 := opt_bool g54
     clear ho hfr hdep; refine unguard_any (by simp [Region.wanted, yielded, q54]) ?_
     go_wp2_with fail; exact ⟨rfl, _, rfl, br, rfl⟩
    ·intro o ho a' w' hb hfr hdep; obtain rfl := oj ho
     have g5 : a'.tmps[5]?.getD undef = .int .i64 (k : Int) := by simpa using hfr 5 (by kernel_rfl)
     have g54 : a'.tmps[54]?.getD undef = .bool false := by simpa using hdep 37 _ rfl (by kernel_rfl)
     have q54 := opt_bool g54
     clear ho hfr hdep; refine unguard_any (by simp [Region.wanted, yielded, q54]) ?_
     go_wp2_with fail; exact ⟨rfl, _, rfl, br, rfl⟩
    ·intro o ho a' w' hb hfr hdep; obtain rfl := oj ho
     have g55 : a'.tmps[55]?.getD undef = .slice (some ⟨b1, o1, none⟩) n c := by simpa using hdep 38 _ rfl (by kernel_rfl)
     have g56 : a'.tmps[56]?.getD undef = .int .i64 (k : Int) := by simpa using hdep 39 _ rfl (by kernel_rfl)
     have g54 : a'.tmps[54]?.getD undef = .bool false := by simpa using hdep 37 _ rfl (by kernel_rfl)
     have q54 := opt_bool g54
     clear ho hfr hdep; refine unguard_any (by simp [Region.wanted, yielded, q54]) ?_
     go_wp2_with fail; exact ⟨rfl, _, rfl, br, rfl⟩
    ·intro o ho a' w' hb hfr hdep; obtain rfl := oj ho
     have g57 : a'.tmps[57]?.getD undef = .pointer (some ⟨b1, o1 + k * 6, none⟩) := by simpa using hdep 40 _ rfl (by kernel_rfl)
     have g54 : a'.tmps[54]?.getD undef = .bool false := by simpa using hdep 37 _ rfl (by kernel_rfl)
     have q54 := opt_bool g54
     clear ho hfr hdep; refine unguard_any (by simp [Region.wanted, yielded, q54]) ?_
     go_wp2_with fail; exact ⟨rfl, _, rfl, br, rfl⟩
    ·intro o ho a' w' hb hfr hdep; obtain rfl := oj ho
     have g58 : a'.tmps[58]?.getD undef = .pointer (some ⟨b1, o1 + k * 6 + 4, none⟩) := by simpa using hdep 41 _ rfl (by kernel_rfl)
     have g54 : a'.tmps[54]?.getD undef = .bool false := by simpa using hdep 37 _ rfl (by kernel_rfl)
     have q54 := opt_bool g54
     clear ho hfr hdep; refine unguard_any (by simp [Region.wanted, yielded, q54]) ?_
     have hcl := cell_below x4 hb
     go_wp2_with fail; exact ⟨rfl, _, rfl, br, rfl⟩
    ·intro o ho a' w' hb hfr hdep; obtain rfl := oj ho
     have g1 : a'.tmps[1]?.getD undef = .slice (some ⟨b2, o2, none⟩) n c2 := by simpa using hfr 1 (by kernel_rfl)
     have g54 : a'.tmps[54]?.getD undef = .bool false := by simpa using hdep 37 _ rfl (by kernel_rfl)
     have q54 := opt_bool g54
     clear ho hfr hdep; refine unguard_any (by simp [Region.wanted, yielded, q54]) ?_
     go_wp2_with fail; exact ⟨rfl, _, rfl, br, rfl⟩
    ·intro o ho a' w' hb hfr hdep; obtain rfl := oj ho
     have g5 : a'.tmps[5]?.getD undef = .int .i64 (k : Int) := by simpa using hfr 5 (by kernel_rfl)
     have g54 : a'.tmps[54]?.getD undef = .bool false := by simpa using hdep 37 _ rfl (by kernel_rfl)
     have q54 := opt_bool g54
     clear ho hfr hdep; refine unguard_any (by simp [Region.wanted, yielded, q54]) ?_
     go_wp2_with fail; exact ⟨rfl, _, rfl, br, rfl⟩
    ·intro o ho a' w' hb hfr hdep; obtain rfl := oj ho
     have g60 : a'.tmps[60]?.getD undef = .slice (some ⟨b2, o2, none⟩) n c2 := by simpa using hdep 43 _ rfl (by kernel_rfl)
     have g61 : a'.tmps[61]?.getD undef = .int .i64 (k : Int) := by simpa using hdep 44 _ rfl (by kernel_rfl)
     have g54 : a'.tmps[54]?.getD undef = .bool false := by simpa using hdep 37 _ rfl (by kernel_rfl)
     have q54 := opt_bool g54
     clear ho hfr hdep; refine unguard_any (by simp [Region.wanted, yielded, q54]) ?_
     go_wp2_with fail; exact ⟨rfl, _, rfl, br, rfl⟩
    ·intro o ho a' w' hb hfr hdep; obtain rfl := oj ho
     have g62 : a'.tmps[62]?.getD undef = .pointer (some ⟨b2, o2 + k * 6, none⟩) := by simpa using hdep 45 _ rfl (by kernel_rfl)
     have g54 : a'.tmps[54]?.getD undef = .bool false := by simpa using hdep 37 _ rfl (by kernel_rfl)
     have q54 := opt_bool g54
     clear ho hfr hdep; refine unguard_any (by simp [Region.wanted, yielded, q54]) ?_
     go_wp2_with fail; exact ⟨rfl, _, rfl, br, rfl⟩
    ·intro o ho a' w' hb hfr hdep; obtain rfl := oj ho
     have g63 : a'.tmps[63]?.getD undef = .pointer (some ⟨b2, o2 + k * 6 + 4, none⟩) := by simpa using hdep 46 _ rfl (by kernel_rfl)
     have g54 : a'.tmps[54]?.getD undef = .bool false := by simpa using hdep 37 _ rfl (by kernel_rfl)
     have q54 := opt_bool g54
     clear ho hfr hdep; refine unguard_any (by simp [Region.wanted, yielded, q54]) ?_
     have hcl := cell_below y4 hb
     go_wp2_with fail; exact ⟨rfl, _, rfl, br, rfl⟩
    ·intro o ho a' w' hb hfr hdep; obtain rfl := oj ho
     have g59 : a'.tmps[59]?.getD undef = .slice p.2.1 p.2.2.1 p.2.2.2 := by simpa using hdep 42 _ rfl (by kernel_rfl)
     have g64 : a'.tmps[64]?.getD undef = .slice q.2.1 q.2.2.1 q.2.2.2 := by simpa using hdep 47 _ rfl (by kernel_rfl)
     have g54 : a'.tmps[54]?.getD undef = .bool false := by simpa using hdep 37 _ rfl (by kernel_rfl)
     have q54 := opt_bool g54
     clear ho hfr hdep; refine unguard_any (by simp [Region.wanted, yielded, q54]) ?_
     go_wp2_with fail
     refine (same_at hc1 (hp1.below hb) (hp2.below hb)).mono ?_
     rintro e w2 ⟨rfl, h2⟩
     go_wp2_with fail
     exact ⟨rfl, _, rfl, h2, rfl⟩
    ·intro o ho a' w' hb hfr hdep; obtain rfl := oj ho
     have g65 : a'.tmps[65]?.getD undef = .bool true := by simpa using hdep 48 _ rfl (by kernel_rfl)
     have g54 : a'.tmps[54]?.getD undef = .bool false := by simpa using hdep 37 _ rfl (by kernel_rfl)
     have q54 := opt_bool g54
     clear ho hfr hdep; refine unguard_any (by simp [Region.wanted, yielded, q54]) ?_
     go_wp2_with fail; exact ⟨rfl, _, rfl, br, rfl⟩
   ·intro g w3 hb3 hp3
    have p54 := hp3 37 _ rfl
    have p66 := hp3 49 _ rfl
    clear hp3
    simp at p54 p66
    simp only [List.drop_succ_cons, List.drop_zero, List.map_cons, List.map_nil, putAll, Act.put, List.setIfInBounds_toArray, List.set_cons_succ, List.set_cons_zero, List.cons_append, List.nil_append, p54, p66]
    clear p54 p66
    have hbz := hb.trans (hb3.mono hb.size)
    go_wp2_with fail
    go_roundg (n - (k + 1))
    case measure => have := HG.out; omega
    case rel => exact ⟨k + 1, by omega, rfl, by go_num, hbz⟩
  ·obtain rfl : k = n := by omega
   go_wp2_with fail
   go_ret
   exact ⟨rfl, hb⟩
end Go.Proofs.YtfagjaabladgpaaDoor
end

section
/- Chapter 06: what TableLocal compares, in plain Lean; appends of characters. -/
namespace Go.Dx
open Go.RowKit
theorem rule_few (t : Ta) (s : St) (x : Sy) (l : List Sy) (i : Nat) : ∀ (rs : List Ru) (k : Nat), (ruleSteps t s x l i k rs).length ≤ rs.length := by
 intro rs
 induction rs with
 | nil => intro k; exact Nat.le_refl _
 | cons r rs ih =>
  intro k
  have := ih (k + 1)
  unfold ruleSteps
  rw [List.length_append, List.length_cons]
  split <;> simp <;> omega
theorem steps_few (t : Ta) (s : St) (l : List Sy) (i : Int) : (stepsL t s l i).length ≤ 1000 := by
 unfold stepsL
 split
 ·rename_i h
  cases l[i.toNat]? with
  | none => simp
  | some x =>
   have key : (nextL t s l i.toNat x).length ≤ 1000 := by
    unfold nextL
    split
    ·simp
    split
    ·simp
    ·refine Nat.le_trans (rule_few _ _ _ _ _ _ _) ?_
     have h1 := (valid_parts h.1).1
     have h2 := (valid_parts h.1).2.1
     unfold langOf
     split <;> omega
   exact key
 ·simp
section
variable {P : Program} {w : World} {ops : Array Oper} {rest : List Oper} {act : Act} {Q : Exit → Act → World → Prop} {ty : TypeId} {pos : String} {after : Array Edge}
end
def GY (w0 : World) (B : Nat) (E : TypeId) (ao : Option Addr) (n co m : Nat) (xs bl ys : List Value) : Nat → List Value → World → Prop
 | 0, _, w => Own w B E 2 ao n co xs ∧ Below B w0 w ∧ B ≤ w.heap.size
 | 1, vs, w => (∃ b, vs.getD 0 undef = .slice b 1 1 ∧ Sl w 2 b 1 1 bl) ∧ Own w B E 2 ao n co xs ∧ Below B w0 w ∧ B ≤ w.heap.size
 | 2, vs, w => (∃ a c, vs.getD 1 undef = .slice a (n + 1) c ∧ Own w B E 2 a (n + 1) c (xs ++ bl)) ∧ Below B w0 w ∧ B ≤ w.heap.size
 | _ + 3, vs, w => (∃ a c, vs.getD 2 undef = .slice a (n + 1 + m) c ∧ Own w B E 2 a (n + 1 + m) c (xs ++ bl ++ ys)) ∧ Below B w0 w ∧ B ≤ w.heap.size
theorem GY.bel {w0 w : World} {B : Nat} {E : TypeId} {ao : Option Addr} {n co m : Nat} {xs bl ys : List Value} {vs : List Value} : ∀ {j}, GY w0 B E ao n co m xs bl ys j vs w → Below B w0 w ∧ B ≤ w.heap.size := by
 intro j h
 match j, h with
 | 0, h => exact h.2
 | 1, h => exact h.2.2
 | 2, h => exact h.2
 | _ + 3, h => exact h.2
theorem GY.mono {w0 : World} {B : Nat} {E : TypeId} {ao : Option Addr} {n co m : Nat} {xs bl ys : List Value} : ∀ j vs w w', Below w.heap.size w w' → GY w0 B E ao n co m xs bl ys j vs w → GY w0 B E ao n co m xs bl ys j vs w' := by
 intro j vs w w' hb h
 have hz := hb.size
 match j, h with
 | 0, ⟨h1, h2, h3⟩ => exact ⟨h1.below hb, h2.trans (hb.mono h3), Nat.le_trans h3 hz⟩
 | 1, ⟨⟨b, h1, h2⟩, h3, h4, h5⟩ => exact ⟨⟨b, h1, h2.below hb⟩, h3.below hb, h4.trans (hb.mono h5), Nat.le_trans h5 hz⟩
 | 2, ⟨⟨a, c, h1, h2⟩, h4, h5⟩ => exact ⟨⟨a, c, h1, h2.below hb⟩, h4.trans (hb.mono h5), Nat.le_trans h5 hz⟩
 | _ + 3, ⟨⟨a, c, h1, h2⟩, h4, h5⟩ => exact ⟨⟨a, c, h1, h2.below hb⟩, h4.trans (hb.mono h5), Nat.le_trans h5 hz⟩
end Go.Dx
namespace Go.Proofs.YtfagjaabladgpaaDoor
open Go.RowKit Go.Dx
section
variable {w : World} {ops : Array Oper} {rest : List Oper} {o : Oper} {act : Act} {Q : Exit → Act → World → Prop}
end
end Go.Proofs.YtfagjaabladgpaaDoor
end

section
/- Chapter 06: the reference's Bent: tables with something changed; what they are does not matter. -/
namespace Go.Proofs.YtfagjaabladgpaaDoor
open Go.RowKit Go.Dx
end Go.Proofs.YtfagjaabladgpaaDoor
end

section
/- A slice literal of structs, as a law of the walk. No program in sight. -/
namespace Go.Dx
open Go.RowKit
section
variable {P : Program} {w : World} {ops : Array Oper} {rest : List Oper} {act : Act} {Q : Exit → Act → World → Prop} {ty : TypeId} {pos : String} {after : Array Edge}
end
end Go.Dx
end

section
/- Chapter 06: the walk of TableValid. -/
namespace Go.Dx
theorem bsz_good {t : Ta} (h : GoodTa t) : BSz 900 t := by
 have hp := valid_parts h.ok
 have hd : t.dig.length = 10 := (good_parts hp.2.2.1).1
 exact ⟨by omega, by have := hp.1; omega, by have := hp.2.1; omega⟩
end Go.Dx
namespace Go.Proofs.YtfagjaabladgpaaDoor
open Go.RowKit Go.Dx
end Go.Proofs.YtfagjaabladgpaaDoor
end

section
/- The laws on append once more: the block that is handed back is the old one or a new one. No program in sight. -/
namespace Go.Dx
open Go.RowKit
section laws
variable {P : Program} {w : World} {ops : Array Oper} {rest : List Oper} {o : Oper} {act : Act} {Q : Exit → Act → World → Prop}
end laws
end Go.Dx
end

section
/- The law on 'append([]T{}, xs...)': what is handed back is the empty slice or lies in a new block. No program in sight. -/
namespace Go.Dx
open Go.RowKit
section ops
variable {P : Program} {w : World} {ops : Array Oper} {rest : List Oper} {o : Oper} {act : Act} {Q : Exit → Act → World → Prop}
end ops
end Go.Dx
end
