/- SHA-256 in plain words: the schedule, the rounds, the blocks. No Go. -/
import Derived.Test.YtalicdpocgomkaaDoorHash1
namespace Go.Dx

/-- four bytes as a word -/
def be4 (a b c d : UInt8) : UInt32 := UInt32.ofNat (((a.toNat * 256 + b.toNat) * 256 + c.toNat) * 256 + d.toNat)
def sig0 (x : UInt32) : UInt32 := ror x 7 ^^^ ror x 18 ^^^ shr x 3
def sig1 (x : UInt32) : UInt32 := ror x 17 ^^^ ror x 19 ^^^ shr x 10
def wnext (b : List UInt8) (ws : List UInt32) (t : Nat) : UInt32 :=
  if t < 16 then be4 (b.getD (4 * t) 0) (b.getD (4 * t + 1) 0) (b.getD (4 * t + 2) 0) (b.getD (4 * t + 3) 0)
  else ws.getD (t - 16) 0 + sig0 (ws.getD (t - 15) 0) + ws.getD (t - 7) 0 + sig1 (ws.getD (t - 2) 0)
def wl (b : List UInt8) : Nat → List UInt32
  | 0 => []
  | t + 1 => wl b t ++ [wnext b (wl b t) t]
theorem wl_length (b : List UInt8) : ∀ t, (wl b t).length = t
  | 0 => rfl
  | t + 1 => by rw [wl, List.length_append, wl_length b t]; rfl
/-- the array of 64 words behind t steps -/
def warr (b : List UInt8) (t : Nat) : List UInt32 := wl b t ++ List.replicate (64 - t) 0
theorem warr_length (b : List UInt8) {t : Nat} (h : t ≤ 64) : (warr b t).length = 64 := by unfold warr; rw [List.length_append, wl_length, List.length_replicate]; omega
theorem warr_get (b : List UInt8) {t i : Nat} (h : i < t) : (warr b t)[i]? = some ((wl b t).getD i 0) := by
  have hl := wl_length b t
  unfold warr
  rw [List.getElem?_append_left (by omega), List.getD_eq_getElem?_getD, List.getElem?_eq_getElem (by omega)]
  rfl
theorem warr_at (b : List UInt8) {t : Nat} (h : t < 64) : (warr b t)[t]? = some 0 := by
  have hl := wl_length b t
  unfold warr
  rw [List.getElem?_append_right (by omega), hl, Nat.sub_self, List.getElem?_replicate, if_pos (by omega)]
theorem warr_set (b : List UInt8) {t : Nat} (h : t < 64) (v : UInt32) : (warr b t).set t v = wl b t ++ [v] ++ List.replicate (64 - (t + 1)) 0 := by
  have hl := wl_length b t
  unfold warr
  rw [List.set_append_right _ _ (by omega), hl, Nat.sub_self]
  obtain ⟨n, hn⟩ : ∃ n, 64 - t = n + 1 := ⟨63 - t, by omega⟩
  rw [hn, List.replicate_succ, List.set_cons_zero, show 64 - (t + 1) = n by omega]
  simp
theorem warr_next (b : List UInt8) {t : Nat} (h : t < 64) : (warr b t).set t (wnext b (wl b t) t) = warr b (t + 1) := by
  rw [warr_set b h]; rfl
theorem warr_all (b : List UInt8) : warr b 64 = wl b 64 := by unfold warr; simp

structure St where
  (a b c d e f g h : UInt32)
def rnd (s : St) (k w : UInt32) : St :=
  let x := s.h + mix3 s.e 6 11 25 + ((s.e &&& s.f) ^^^ ((s.e ^^^ (-1)) &&& s.g)) + k + w
  let y := mix3 s.a 2 13 22 + ((s.a &&& s.b) ^^^ (s.a &&& s.c) ^^^ (s.b &&& s.c))
  ⟨x + y, s.a, s.b, s.c, s.d + x, s.e, s.f, s.g⟩
def rnds (ks ws : List UInt32) (s : St) : Nat → St
  | 0 => s
  | t + 1 => rnd (rnds ks ws s t) (ks.getD t 0) (ws.getD t 0)
def St.add (s r : St) : St := ⟨s.a + r.a, s.b + r.b, s.c + r.c, s.d + r.d, s.e + r.e, s.f + r.f, s.g + r.g, s.h + r.h⟩
def St.list (s : St) : List UInt32 := [s.a, s.b, s.c, s.d, s.e, s.f, s.g, s.h]
def K256 : List UInt32 := [0x428a2f98, 0x71374491, 0xb5c0fbcf, 0xe9b5dba5, 0x3956c25b, 0x59f111f1, 0x923f82a4, 0xab1c5ed5,
  0xd807aa98, 0x12835b01, 0x243185be, 0x550c7dc3, 0x72be5d74, 0x80deb1fe, 0x9bdc06a7, 0xc19bf174,
  0xe49b69c1, 0xefbe4786, 0x0fc19dc6, 0x240ca1cc, 0x2de92c6f, 0x4a7484aa, 0x5cb0a9dc, 0x76f988da,
  0x983e5152, 0xa831c66d, 0xb00327c8, 0xbf597fc7, 0xc6e00bf3, 0xd5a79147, 0x06ca6351, 0x14292967,
  0x27b70a85, 0x2e1b2138, 0x4d2c6dfc, 0x53380d13, 0x650a7354, 0x766a0abb, 0x81c2c92e, 0x92722c85,
  0xa2bfe8a1, 0xa81a664b, 0xc24b8b70, 0xc76c51a3, 0xd192e819, 0xd6990624, 0xf40e3585, 0x106aa070,
  0x19a4c116, 0x1e376c08, 0x2748774c, 0x34b0bcb5, 0x391c0cb3, 0x4ed8aa4a, 0x5b9cca4f, 0x682e6ff3,
  0x748f82ee, 0x78a5636f, 0x84c87814, 0x8cc70208, 0x90befffa, 0xa4506ceb, 0xbef9a3f7, 0xc67178f2]
/-- one block of 64 bytes -/
def comp (s : St) (b : List UInt8) : St := s.add (rnds K256 (wl b 64) s 64)
def H0 : St := ⟨0x6a09e667, 0xbb67ae85, 0x3c6ef372, 0xa54ff53a, 0x510e527f, 0x9b05688c, 0x1f83d9ab, 0x5be0cd19⟩
theorem mix3_lists (s : St) : s.list.length = 8 := rfl

theorem sh8 (x : UInt32) (c : UInt8) (h : x.toNat < 16777216) : bits .or .u32 ((x.toNat : Int) * 256 % 4294967296) (c.toNat : Int) = ((UInt32.ofNat (x.toNat * 256 + c.toNat)).toNat : Int) := by
  have hc := UInt8.toNat_lt c
  have e : ((x.toNat : Int) * 256 % 4294967296) = ((x.toNat * 256 : Nat) : Int) := by omega
  rw [e, u32_or_nat _ _ (by omega) (by omega), nat_join 8 _ _ (by omega) (by omega), UInt32.toNat_ofNat']
  congr 1
  omega
theorem u32_id (n : Nat) (h : n < 4294967296) : IntKind.u32.wrap (n : Int) = (n : Int) := by rw [IntKind.wrap_u32']; omega
theorem be4_or (a b c d : UInt8) : bits .or .u32 (bits .or .u32 (bits .or .u32 (IntKind.u32.wrap (IntKind.u32.wrap (a.toNat : Int) * 16777216)) (IntKind.u32.wrap (IntKind.u32.wrap (b.toNat : Int) * 65536))) (IntKind.u32.wrap (IntKind.u32.wrap (c.toNat : Int) * 256))) (IntKind.u32.wrap (d.toNat : Int)) = ((be4 a b c d).toNat : Int) := by
  have ha := UInt8.toNat_lt a
  have hb := UInt8.toNat_lt b
  have hc := UInt8.toNat_lt c
  have hd := UInt8.toNat_lt d
  rw [u32_id _ (by omega), u32_id _ (by omega), u32_id _ (by omega), u32_id _ (by omega)]
  have e1 : (a.toNat : Int) * 16777216 = ((a.toNat * 16777216 : Nat) : Int) := by omega
  have e2 : (b.toNat : Int) * 65536 = ((b.toNat * 65536 : Nat) : Int) := by omega
  have e3 : (c.toNat : Int) * 256 = ((c.toNat * 256 : Nat) : Int) := by omega
  rw [e1, e2, e3, u32_id _ (by omega), u32_id _ (by omega), u32_id _ (by omega)]
  rw [u32_or_nat _ _ (by omega) (by omega), nat_join 24 _ _ (by omega) (by omega), u32_or_nat _ _ (by omega) (by omega), nat_join 16 _ _ (by omega) (by omega), u32_or_nat _ _ (by omega) (by omega), nat_join 8 _ _ (by omega) (by omega)]
  unfold be4
  rw [UInt32.toNat_ofNat']
  congr 1
  omega
theorem be4_or' (a b c d : UInt8) : bits .or .u32 (bits .or .u32 (bits .or .u32 ((a.toNat : Int) % 4294967296 * 16777216 % 4294967296) ((b.toNat : Int) % 4294967296 * 65536 % 4294967296)) ((c.toNat : Int) % 4294967296 * 256 % 4294967296)) ((d.toNat : Int) % 4294967296) = ((be4 a b c d).toNat : Int) := by
  have h := be4_or a b c d
  simpa only [IntKind.wrap_u32'] using h
theorem sig0_raw (x : UInt32) : bits .xor .u32 (bits .xor .u32 ((ror x 7).toNat : Int) ((ror x 18).toNat : Int)) ((x.toNat : Int) / 8) = ((sig0 x).toNat : Int) := by
  rw [show (8 : Int) = 2 ^ 3 from rfl, w_shr, w_xor, w_xor]; rfl
theorem sig1_raw (x : UInt32) : bits .xor .u32 (bits .xor .u32 ((ror x 17).toNat : Int) ((ror x 19).toNat : Int)) ((x.toNat : Int) / 1024) = ((sig1 x).toNat : Int) := by
  rw [show (1024 : Int) = 2 ^ 10 from rfl, w_shr, w_xor, w_xor]; rfl
theorem w_add' (x y : UInt32) : ((x.toNat : Int) + (y.toNat : Int)) % 4294967296 = ((x + y).toNat : Int) := by rw [← w_add, IntKind.wrap_u32']
theorem w_add3 (a b c : UInt32) : ((a.toNat : Int) + (b.toNat : Int) + (c.toNat : Int)) % 4294967296 = ((a + b + c).toNat : Int) := by rw [← w_add', ← w_add']; omega
theorem w_add4 (a b c d : UInt32) : ((a.toNat : Int) + (b.toNat : Int) + (c.toNat : Int) + (d.toNat : Int)) % 4294967296 = ((a + b + c + d).toNat : Int) := by rw [← w_add', ← w_add3]; omega
theorem w_add5 (a b c d e : UInt32) : ((a.toNat : Int) + (b.toNat : Int) + (c.toNat : Int) + (d.toNat : Int) + (e.toNat : Int)) % 4294967296 = ((a + b + c + d + e).toNat : Int) := by rw [← w_add', ← w_add4]; omega
theorem sh8n (x : UInt32) (c : UInt8) (h : x.toNat < 16777216) : bits .or .u32 ((x.toNat : Int) * 256) (c.toNat : Int) = ((UInt32.ofNat (x.toNat * 256 + c.toNat)).toNat : Int) := by
  rw [← sh8 x c h]; congr 1; omega
theorem not_raw : (if IntKind.u32.signed = true then (-1 : Int) else IntKind.u32.max) = 4294967295 := by decide
theorem ch_raw (e f g : UInt32) : bits .xor .u32 (bits .and .u32 (e.toNat : Int) (f.toNat : Int)) (bits .and .u32 (bits .xor .u32 4294967295 (e.toNat : Int)) (g.toNat : Int)) = (((e &&& f) ^^^ ((e ^^^ (-1)) &&& g)).toNat : Int) := by
  rw [w_and, w_not, w_and, w_xor]
theorem ch_raw' (e f g : UInt32) : bits .xor .u32 (bits .and .u32 (e.toNat : Int) (f.toNat : Int)) (bits .and .u32 (bits .xor .u32 (e.toNat : Int) 4294967295) (g.toNat : Int)) = (((e &&& f) ^^^ ((e ^^^ (-1)) &&& g)).toNat : Int) := by
  rw [w_and, w_not', w_and, w_xor]
theorem maj_raw (a b c : UInt32) : bits .xor .u32 (bits .xor .u32 (bits .and .u32 (a.toNat : Int) (b.toNat : Int)) (bits .and .u32 (a.toNat : Int) (c.toNat : Int))) (bits .and .u32 (b.toNat : Int) (c.toNat : Int)) = (((a &&& b) ^^^ (a &&& c) ^^^ (b &&& c)).toNat : Int) := by
  rw [w_and, w_and, w_and, w_xor, w_xor]
theorem sum_x (h m c k w : UInt32) : (((h.toNat : Int) + (m.toNat : Int) + (c.toNat : Int) + (k.toNat : Int)) % 4294967296 + (w.toNat : Int)) % 4294967296 = ((h + m + c + k + w).toNat : Int) := by
  simp only [UInt32.toNat_add]
  omega
theorem box_at {α : Type} {f : α → Value} {l : List α} {i : Nat} {x : α} (h : l[i]? = some x) : (l.map f)[i]? = some (f x) := by rw [List.getElem?_map, h]; rfl
theorem box_set {α : Type} (f : α → Value) (l : List α) (i : Nat) (x : α) : (l.map f).set i (f x) = (l.set i x).map f := by rw [List.map_set]
end Go.Dx
