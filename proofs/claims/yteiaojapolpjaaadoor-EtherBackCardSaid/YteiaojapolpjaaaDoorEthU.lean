/- Ether, part 20: EtherBack, walked. -/
import Derived.Test.YteiaojapolpjaaaDoorEthS
namespace Go.Proofs.YteiaojapolpjaaaDoor
open Go.RowKit Go.WB

theorem eq31g (a0 a1 a2 a3 a4 a5 a6 a7 a8 a9 a10 a11 a12 : Int) (W : World) : (Op.equalIn 10000 31 (.agg #[.int .u8 a0, .int .u8 a1, .int .u8 a2, .int .u8 a3, .int .u8 a4, .int .u8 a5, .int .u8 a6, .int .u8 a7, .int .u8 a8, .int .u8 a9, .int .u8 a10, .int .u8 a11, .int .u16 a12]) (.agg #[.int .u8 a0, .int .u8 a1, .int .u8 a2, .int .u8 a3, .int .u8 a4, .int .u8 a5, .int .u8 a6, .int .u8 a7, .int .u8 a8, .int .u8 a9, .int .u8 a10, .int .u8 a11, .int .u16 a12])).run Tryd.prog W = .ok true W := by
  have hf : Tryd.prog.underlying 31 = some (.struct (Tryd.prog.fieldsOf 31)) := by kernel_rfl
  rw [run_equalIn_struct W 9999 31 _ _ hf (by kernel_rfl)]
  simp [go_sem, Op.eqFields, Tryd.underlying31, Tryd.underlying22, Tryd.underlying29, eq22_in]
theorem list14 (xs : List Int) (h : 14 ≤ xs.length) : xs = [xs.getD 0 0, xs.getD 1 0, xs.getD 2 0, xs.getD 3 0, xs.getD 4 0, xs.getD 5 0, xs.getD 6 0, xs.getD 7 0, xs.getD 8 0, xs.getD 9 0, xs.getD 10 0, xs.getD 11 0, xs.getD 12 0, xs.getD 13 0] ++ xs.drop 14 := by
  match xs, h with
  | a0 :: a1 :: a2 :: a3 :: a4 :: a5 :: a6 :: a7 :: a8 :: a9 :: a10 :: a11 :: a12 :: a13 :: r, _ => rfl
/-- What is written of what was read. -/
theorem wr_rd {xs : List Int} (h : fits xs) (hb : Bs xs) : wrP (rh xs 0) (rh xs 1) (rh xs 2) (rh xs 3) (rh xs 4) (rh xs 5) (rh xs 6) (rh xs 7) (rh xs 8) (rh xs 9) (rh xs 10) (rh xs 11) (rt xs) (rdP xs) = xs := by
  have hl : (rdP xs).length ≤ 1646 := by have := rdP_len xs; unfold fits at h; omega
  have e1 : rdP xs = xs.drop 14 := by unfold rdP; rw [if_pos h]
  have h12 := hb 12
  have h13 := hb 13
  unfold wrP
  rw [if_pos hl, e1]
  conv => rhs; rw [list14 xs h.1]
  simp only [hb14, rh, rt, if_pos h]
  rw [show (xs.getD 12 0 * 256 + xs.getD 13 0) / 256 = xs.getD 12 0 by omega, show (xs.getD 12 0 * 256 + xs.getD 13 0) % 256 = xs.getD 13 0 by omega]
theorem rd_wr (d0 d1 d2 d3 d4 d5 d6 d7 d8 d9 d10 d11 t : Int) (xs : List Int) (h : xs.length ≤ 1586) : rdV (hb14 d0 d1 d2 d3 d4 d5 d6 d7 d8 d9 d10 d11 t ++ xs) = .agg #[.int .u8 d0, .int .u8 d1, .int .u8 d2, .int .u8 d3, .int .u8 d4, .int .u8 d5, .int .u8 d6, .int .u8 d7, .int .u8 d8, .int .u8 d9, .int .u8 d10, .int .u8 d11, .int .u16 t] ∧ rdP (hb14 d0 d1 d2 d3 d4 d5 d6 d7 d8 d9 d10 d11 t ++ xs) = xs ∧ rdK (hb14 d0 d1 d2 d3 d4 d5 d6 d7 d8 d9 d10 d11 t ++ xs) = 0 := by
  have hl : (hb14 d0 d1 d2 d3 d4 d5 d6 d7 d8 d9 d10 d11 t ++ xs).length = 14 + xs.length := by simp [hb14]; omega
  have hf : fits (hb14 d0 d1 d2 d3 d4 d5 d6 d7 d8 d9 d10 d11 t ++ xs) := by unfold fits; omega
  refine ⟨?_, by unfold rdP; rw [if_pos hf]; rfl, by unfold rdK; rw [if_neg (by omega), if_neg (by omega)]⟩
  have ht : t / 256 * 256 + t % 256 = t := by omega
  simp only [rdV, rh, rt, if_pos hf]
  have e : rt (hb14 d0 d1 d2 d3 d4 d5 d6 d7 d8 d9 d10 d11 t ++ xs) = t := by unfold rt; rw [if_pos hf]; exact ht
  unfold rt at e
  rw [if_pos hf] at e
  rw [e]
  rfl
theorem rdK_no {xs : List Int} (h : ¬ fits xs) : (rdK xs == 0) = false := by
  unfold fits at h
  unfold rdK
  by_cases h1 : 1600 < xs.length
  · rw [if_pos h1]
    decide
  · rw [if_neg h1, if_pos (by omega)]
    decide
theorem Bs_wr (d0 d1 d2 d3 d4 d5 d6 d7 d8 d9 d10 d11 : Nat) (t : Int) (xs : List Int) (hd : d0 < 256 ∧ d1 < 256 ∧ d2 < 256 ∧ d3 < 256 ∧ d4 < 256 ∧ d5 < 256 ∧ d6 < 256 ∧ d7 < 256 ∧ d8 < 256 ∧ d9 < 256 ∧ d10 < 256 ∧ d11 < 256) (ht0 : 0 ≤ t) (ht1 : t ≤ 65535) (hb : Bs xs) : Bs (hb14 (d0 : Int) (d1 : Int) (d2 : Int) (d3 : Int) (d4 : Int) (d5 : Int) (d6 : Int) (d7 : Int) (d8 : Int) (d9 : Int) (d10 : Int) (d11 : Int) t ++ xs) := by
  obtain ⟨h0, h1, h2, h3, h4, h5, h6, h7, h8, h9, h10, h11⟩ := hd
  intro i
  have hl : (hb14 (d0 : Int) (d1 : Int) (d2 : Int) (d3 : Int) (d4 : Int) (d5 : Int) (d6 : Int) (d7 : Int) (d8 : Int) (d9 : Int) (d10 : Int) (d11 : Int) t).length = 14 := rfl
  rw [List.getD_eq_getElem?_getD]
  by_cases hi : i < 14
  · rw [List.getElem?_append_left (by omega)]
    match i, hi with
    | 0, _ =>
      show 0 ≤ (d0 : Int) ∧ (d0 : Int) ≤ 255
      omega
    | 1, _ =>
      show 0 ≤ (d1 : Int) ∧ (d1 : Int) ≤ 255
      omega
    | 2, _ =>
      show 0 ≤ (d2 : Int) ∧ (d2 : Int) ≤ 255
      omega
    | 3, _ =>
      show 0 ≤ (d3 : Int) ∧ (d3 : Int) ≤ 255
      omega
    | 4, _ =>
      show 0 ≤ (d4 : Int) ∧ (d4 : Int) ≤ 255
      omega
    | 5, _ =>
      show 0 ≤ (d5 : Int) ∧ (d5 : Int) ≤ 255
      omega
    | 6, _ =>
      show 0 ≤ (d6 : Int) ∧ (d6 : Int) ≤ 255
      omega
    | 7, _ =>
      show 0 ≤ (d7 : Int) ∧ (d7 : Int) ≤ 255
      omega
    | 8, _ =>
      show 0 ≤ (d8 : Int) ∧ (d8 : Int) ≤ 255
      omega
    | 9, _ =>
      show 0 ≤ (d9 : Int) ∧ (d9 : Int) ≤ 255
      omega
    | 10, _ =>
      show 0 ≤ (d10 : Int) ∧ (d10 : Int) ≤ 255
      omega
    | 11, _ =>
      show 0 ≤ (d11 : Int) ∧ (d11 : Int) ≤ 255
      omega
    | 12, _ =>
      show 0 ≤ t / 256 ∧ t / 256 ≤ 255
      omega
    | 13, _ =>
      show 0 ≤ t % 256 ∧ t % 256 ≤ 255
      omega
  · rw [List.getElem?_append_right (by omega)]
    have := hb (i - 14)
    rw [List.getD_eq_getElem?_getD] at this
    rw [hl]
    exact this

set_option maxHeartbeats 1000000 in
set_option maxRecDepth 100000 in
theorem back_long (d0 d1 d2 d3 d4 d5 d6 d7 d8 d9 d10 d11 t : Int) (o : Option Addr) (n c : Nat) (s : ByteArray) (w : World) (h : 4000 < n ∨ 100 < s.size) (hE : Env w) : Calls Tryd.prog 5 #[.agg #[.int .u8 d0, .int .u8 d1, .int .u8 d2, .int .u8 d3, .int .u8 d4, .int .u8 d5, .int .u8 d6, .int .u8 d7, .int .u8 d8, .int .u8 d9, .int .u8 d10, .int .u8 d11, .int .u16 t], .slice o n c, .string s] w fun e w' => e = .returned (.bool true) ∧ Below w.heap.size w w' := by
  have B0 : Below w.heap.size w (w.alloc (.cells #[.int .u8 d0, .int .u8 d1, .int .u8 d2, .int .u8 d3, .int .u8 d4, .int .u8 d5, .int .u8 d6, .int .u8 d7, .int .u8 d8, .int .u8 d9, .int .u8 d10, .int .u8 d11, .int .u16 t] 31)) := (Below.refl _ _).alloc (Nat.le_refl _) _
  have K : ∀ w', Below w.heap.size w w' → Calls Tryd.prog 6 #[] w' fun e w'' => e = .returned (.bool true) ∧ Below w.heap.size w w'' := fun w' hb => (known_any _ (hE.below hb)).mono fun e w'' ⟨he, h2⟩ => ⟨he, hb.trans (h2.mono hb.size)⟩
  have HK := Lib.hid (K _ B0)
  clear B0 K
  by_cases h1 : 4000 < n
  · have bs : (4000 : Int) < (n : Int) := by omega
    go_enter Tryd.func5, Tryd.ntmps5
    go_wp2_with fail
    refine HK.out.mono ?_
    rintro e w1 ⟨rfl, b1⟩
    clear HK
    go_wp2_with fail
    go_ret
    exact ⟨rfl, b1⟩
  · have bs : (n : Int) ≤ 4000 := by omega
    have b2 : (100 : Int) < (s.size : Int) := by omega
    go_enter Tryd.func5, Tryd.ntmps5
    go_wp2_with fail
    refine HK.out.mono ?_
    rintro e w1 ⟨rfl, b1⟩
    clear HK
    go_wp2_with fail
    go_ret
    exact ⟨rfl, b1⟩

set_option maxHeartbeats 2000000 in
set_option maxRecDepth 100000 in
theorem back_ANS (d0 d1 d2 d3 d4 d5 d6 d7 d8 d9 d10 d11 : Nat) (t : Int) (hd : d0 < 256 ∧ d1 < 256 ∧ d2 < 256 ∧ d3 < 256 ∧ d4 < 256 ∧ d5 < 256 ∧ d6 < 256 ∧ d7 < 256 ∧ d8 < 256 ∧ d9 < 256 ∧ d10 < 256 ∧ d11 < 256) (ht0 : 0 ≤ t) (ht1 : t ≤ 65535) (o : Option Addr) (n c : Nat) (xs : List Int) (s : ByteArray) (x : Six) (w : World) (hx : xs.length = n) (h1 : 1646 < n) (h1' : n ≤ 4000) (hf : ¬ fits xs) (hpv : pv s (some x)) (hs : s.size ≤ 100) (hp : Pay w o xs) (hb : Bs xs) (hn : o = none → c = 0) (hnc : n ≤ c) (hE : Env w) :
    Calls Tryd.prog 5 #[.agg #[.int .u8 (d0 : Int), .int .u8 (d1 : Int), .int .u8 (d2 : Int), .int .u8 (d3 : Int), .int .u8 (d4 : Int), .int .u8 (d5 : Int), .int .u8 (d6 : Int), .int .u8 (d7 : Int), .int .u8 (d8 : Int), .int .u8 (d9 : Int), .int .u8 (d10 : Int), .int .u8 (d11 : Int), .int .u16 t], .slice o n c, .string s] w fun e w' => e = .returned (.bool true) ∧ Below w.heap.size w w' := by
  have bs : (n : Int) ≤ 4000 := by omega
  have b2 : (s.size : Int) ≤ 100 := by omega
  have b3 : (1646 : Int) < (n : Int) := by omega
  have hK : wrK xs = 3 := by unfold wrK; rw [if_neg (by omega)]
  have HX := Lib.hid hx
  have HB := Lib.hid hb
  have HD := Lib.hid hd
  have HEn := Lib.hid hE
  have HPV := Lib.hid hpv
  have HL : Hid (∀ b, o = some b → 0 < xs.length → b.block < w.heap.size) := fun b hb h0 => by subst hb; exact At.lt hp h0
  have HS0 : Hid (WrS w (w.alloc (.cells #[.int .u8 (d0 : Int), .int .u8 (d1 : Int), .int .u8 (d2 : Int), .int .u8 (d3 : Int), .int .u8 (d4 : Int), .int .u8 (d5 : Int), .int .u8 (d6 : Int), .int .u8 (d7 : Int), .int .u8 (d8 : Int), .int .u8 (d9 : Int), .int .u8 (d10 : Int), .int .u8 (d11 : Int), .int .u16 t] 31)) w.heap.size #[.int .u8 (d0 : Int), .int .u8 (d1 : Int), .int .u8 (d2 : Int), .int .u8 (d3 : Int), .int .u8 (d4 : Int), .int .u8 (d5 : Int), .int .u8 (d6 : Int), .int .u8 (d7 : Int), .int .u8 (d8 : Int), .int .u8 (d9 : Int), .int .u8 (d10 : Int), .int .u8 (d11 : Int), .int .u16 t] o xs) := ⟨Blk.new w 31 _, hp.below ((Below.refl _ w).alloc (Nat.le_refl _) (.cells #[.int .u8 (d0 : Int), .int .u8 (d1 : Int), .int .u8 (d2 : Int), .int .u8 (d3 : Int), .int .u8 (d4 : Int), .int .u8 (d5 : Int), .int .u8 (d6 : Int), .int .u8 (d7 : Int), .int .u8 (d8 : Int), .int .u8 (d9 : Int), .int .u8 (d10 : Int), .int .u8 (d11 : Int), .int .u16 t] 31)) HL.out, (Below.refl _ _).alloc (Nat.le_refl _) _, rfl, HL.out⟩
  have heq := eq31g (d0 : Int) (d1 : Int) (d2 : Int) (d3 : Int) (d4 : Int) (d5 : Int) (d6 : Int) (d7 : Int) (d8 : Int) (d9 : Int) (d10 : Int) (d11 : Int) t
  have HK := Lib.hid hK
  clear hx hb hd hE hpv hp hK
  go_enter Tryd.func5, Tryd.ntmps5
  go_wp2_with fail
  have S0 := HS0.out
  clear HS0
  generalize (w.alloc (.cells #[.int .u8 (d0 : Int), .int .u8 (d1 : Int), .int .u8 (d2 : Int), .int .u8 (d3 : Int), .int .u8 (d4 : Int), .int .u8 (d5 : Int), .int .u8 (d6 : Int), .int .u8 (d7 : Int), .int .u8 (d8 : Int), .int .u8 (d9 : Int), .int .u8 (d10 : Int), .int .u8 (d11 : Int), .int .u16 t] 31)) = W0 at *
  refine (write_all (d0 : Int) (d1 : Int) (d2 : Int) (d3 : Int) (d4 : Int) (d5 : Int) (d6 : Int) (d7 : Int) (d8 : Int) (d9 : Int) (d10 : Int) (d11 : Int) t ht0 ht1 o n c xs _ HX.out S0.p hn).mono ?_
  rintro e W1 ⟨vu, rfl, ou, b1⟩
  have S1 := S0.below b1
  rw [HK.out]
  clear S0 b1
  clear ou
  go_wp2_with fail
  refine (read_all o n c xs _ HX.out S1.p HB.out hnc).mono ?_
  rintro e W3 ⟨vq, rfl, oq, b3'⟩
  have S3 := (S1.below b3').alloc (.cells #[.int .u8 (rh xs 0), .int .u8 (rh xs 1), .int .u8 (rh xs 2), .int .u8 (rh xs 3), .int .u8 (rh xs 4), .int .u8 (rh xs 5), .int .u8 (rh xs 6), .int .u8 (rh xs 7), .int .u8 (rh xs 8), .int .u8 (rh xs 9), .int .u8 (rh xs 10), .int .u8 (rh xs 11), .int .u16 (rt xs)] 31)
  unfold rdV
  obtain ⟨K, hKK⟩ : ∃ K, rdK xs = K := ⟨_, rfl⟩
  have hK0 : (K == 0) = false := by rw [← hKK]; exact rdK_no hf
  rw [hKK]
  have x0 : (W3.alloc (.cells #[.int .u8 (rh xs 0), .int .u8 (rh xs 1), .int .u8 (rh xs 2), .int .u8 (rh xs 3), .int .u8 (rh xs 4), .int .u8 (rh xs 5), .int .u8 (rh xs 6), .int .u8 (rh xs 7), .int .u8 (rh xs 8), .int .u8 (rh xs 9), .int .u8 (rh xs 10), .int .u8 (rh xs 11), .int .u16 (rt xs)] 31)).cell? ⟨w.heap.size, 6, none⟩ = some (.int .u8 (d6 : Int)) := S3.r.cell 6
  have x1 : (W3.alloc (.cells #[.int .u8 (rh xs 0), .int .u8 (rh xs 1), .int .u8 (rh xs 2), .int .u8 (rh xs 3), .int .u8 (rh xs 4), .int .u8 (rh xs 5), .int .u8 (rh xs 6), .int .u8 (rh xs 7), .int .u8 (rh xs 8), .int .u8 (rh xs 9), .int .u8 (rh xs 10), .int .u8 (rh xs 11), .int .u16 (rt xs)] 31)).cell? ⟨w.heap.size, 7, none⟩ = some (.int .u8 (d7 : Int)) := S3.r.cell 7
  have x2 : (W3.alloc (.cells #[.int .u8 (rh xs 0), .int .u8 (rh xs 1), .int .u8 (rh xs 2), .int .u8 (rh xs 3), .int .u8 (rh xs 4), .int .u8 (rh xs 5), .int .u8 (rh xs 6), .int .u8 (rh xs 7), .int .u8 (rh xs 8), .int .u8 (rh xs 9), .int .u8 (rh xs 10), .int .u8 (rh xs 11), .int .u16 (rt xs)] 31)).cell? ⟨w.heap.size, 8, none⟩ = some (.int .u8 (d8 : Int)) := S3.r.cell 8
  have x3 : (W3.alloc (.cells #[.int .u8 (rh xs 0), .int .u8 (rh xs 1), .int .u8 (rh xs 2), .int .u8 (rh xs 3), .int .u8 (rh xs 4), .int .u8 (rh xs 5), .int .u8 (rh xs 6), .int .u8 (rh xs 7), .int .u8 (rh xs 8), .int .u8 (rh xs 9), .int .u8 (rh xs 10), .int .u8 (rh xs 11), .int .u16 (rt xs)] 31)).cell? ⟨w.heap.size, 9, none⟩ = some (.int .u8 (d9 : Int)) := S3.r.cell 9
  have x4 : (W3.alloc (.cells #[.int .u8 (rh xs 0), .int .u8 (rh xs 1), .int .u8 (rh xs 2), .int .u8 (rh xs 3), .int .u8 (rh xs 4), .int .u8 (rh xs 5), .int .u8 (rh xs 6), .int .u8 (rh xs 7), .int .u8 (rh xs 8), .int .u8 (rh xs 9), .int .u8 (rh xs 10), .int .u8 (rh xs 11), .int .u16 (rt xs)] 31)).cell? ⟨w.heap.size, 10, none⟩ = some (.int .u8 (d10 : Int)) := S3.r.cell 10
  have x5 : (W3.alloc (.cells #[.int .u8 (rh xs 0), .int .u8 (rh xs 1), .int .u8 (rh xs 2), .int .u8 (rh xs 3), .int .u8 (rh xs 4), .int .u8 (rh xs 5), .int .u8 (rh xs 6), .int .u8 (rh xs 7), .int .u8 (rh xs 8), .int .u8 (rh xs 9), .int .u8 (rh xs 10), .int .u8 (rh xs 11), .int .u16 (rt xs)] 31)).cell? ⟨w.heap.size, 11, none⟩ = some (.int .u8 (d11 : Int)) := S3.r.cell 11
  have HS := Lib.hid S3
  clear S1 S3 oq b3' hKK
  go_wp2_with fail
  have S5 := HS.out
  clear HS x0 x1 x2 x3 x4 x5 hK0
  generalize W3.alloc (.cells #[.int .u8 (rh xs 0), .int .u8 (rh xs 1), .int .u8 (rh xs 2), .int .u8 (rh xs 3), .int .u8 (rh xs 4), .int .u8 (rh xs 5), .int .u8 (rh xs 6), .int .u8 (rh xs 7), .int .u8 (rh xs 8), .int .u8 (rh xs 9), .int .u8 (rh xs 10), .int .u8 (rh xs 11), .int .u16 (rt xs)] 31) = W6 at *
  obtain ⟨_, _, _, _, _, _, u6, u7, u8, u9, u10, u11⟩ := HD.out
  refine (text_any d6 d7 d8 d9 d10 d11 _ (HEn.out.below S5.b) u6 u7 u8 u9 u10 u11).mono ?_
  rintro e W7 ⟨rfl, b7⟩
  have S7 := S5.below b7
  clear S5 b7
  obtain ⟨TX, hTX⟩ : ∃ TX, txt ⟨d6, d7, d8, d9, d10, d11⟩ = TX := ⟨_, rfl⟩
  rw [hTX]
  have HTX := Lib.hid hTX
  clear hTX
  go_wp2_with fail
  refine (parse_pv TX (some ⟨d6, d7, d8, d9, d10, d11⟩) _ ⟨⟨u6, u7, u8, u9, u10, u11⟩, HTX.out.symm⟩ (by rw [← HTX.out]; show (txt _).size ≤ 1000; rw [txt_size]; decide) (HEn.out.below S7.b)).mono ?_
  rintro e W8 ⟨rfl, b8⟩
  have S8 := (S7.below b8).alloc (.cells #[.int .u8 (d6 : Int), .int .u8 (d7 : Int), .int .u8 (d8 : Int), .int .u8 (d9 : Int), .int .u8 (d10 : Int), .int .u8 (d11 : Int)] 22)
  have X8 : Blk (W8.alloc (.cells #[.int .u8 (d6 : Int), .int .u8 (d7 : Int), .int .u8 (d8 : Int), .int .u8 (d9 : Int), .int .u8 (d10 : Int), .int .u8 (d11 : Int)] 22)) W8.heap.size 22 #[.int .u8 (d6 : Int), .int .u8 (d7 : Int), .int .u8 (d8 : Int), .int .u8 (d9 : Int), .int .u8 (d10 : Int), .int .u8 (d11 : Int)] := Blk.new _ _ _
  have HS := Lib.hid (And.intro S8 X8)
  clear S7 S8 X8 b8
  unfold pr Six.vals
  go_wp2_with fail
  obtain ⟨S8, X8⟩ := HS.out
  clear HS
  generalize (W8.alloc (.cells #[.int .u8 (d6 : Int), .int .u8 (d7 : Int), .int .u8 (d8 : Int), .int .u8 (d9 : Int), .int .u8 (d10 : Int), .int .u8 (d11 : Int)] 22)) = W9 at *
  generalize W8.heap.size = N8 at *
  refine (parse_pv s (some x) _ HPV.out (by omega) (HEn.out.below S8.b)).mono ?_
  rintro e W10 ⟨rfl, b10⟩
  unfold pr Six.vals
  have S10 := (S8.below b10).alloc (.cells #[.int .u8 (x.a : Int), .int .u8 (x.b : Int), .int .u8 (x.c : Int), .int .u8 (x.d : Int), .int .u8 (x.e : Int), .int .u8 (x.f : Int)] 22)
  have X10 := (X8.below b10 X8.lt).alloc (.cells #[.int .u8 (x.a : Int), .int .u8 (x.b : Int), .int .u8 (x.c : Int), .int .u8 (x.d : Int), .int .u8 (x.e : Int), .int .u8 (x.f : Int)] 22)
  have x0 : (W10.alloc (.cells #[.int .u8 (x.a : Int), .int .u8 (x.b : Int), .int .u8 (x.c : Int), .int .u8 (x.d : Int), .int .u8 (x.e : Int), .int .u8 (x.f : Int)] 22)).cell? ⟨w.heap.size, 6, none⟩ = some (.int .u8 (d6 : Int)) := S10.r.cell 6
  have x1 : (W10.alloc (.cells #[.int .u8 (x.a : Int), .int .u8 (x.b : Int), .int .u8 (x.c : Int), .int .u8 (x.d : Int), .int .u8 (x.e : Int), .int .u8 (x.f : Int)] 22)).cell? ⟨w.heap.size, 7, none⟩ = some (.int .u8 (d7 : Int)) := S10.r.cell 7
  have x2 : (W10.alloc (.cells #[.int .u8 (x.a : Int), .int .u8 (x.b : Int), .int .u8 (x.c : Int), .int .u8 (x.d : Int), .int .u8 (x.e : Int), .int .u8 (x.f : Int)] 22)).cell? ⟨w.heap.size, 8, none⟩ = some (.int .u8 (d8 : Int)) := S10.r.cell 8
  have x3 : (W10.alloc (.cells #[.int .u8 (x.a : Int), .int .u8 (x.b : Int), .int .u8 (x.c : Int), .int .u8 (x.d : Int), .int .u8 (x.e : Int), .int .u8 (x.f : Int)] 22)).cell? ⟨w.heap.size, 9, none⟩ = some (.int .u8 (d9 : Int)) := S10.r.cell 9
  have x4 : (W10.alloc (.cells #[.int .u8 (x.a : Int), .int .u8 (x.b : Int), .int .u8 (x.c : Int), .int .u8 (x.d : Int), .int .u8 (x.e : Int), .int .u8 (x.f : Int)] 22)).cell? ⟨w.heap.size, 10, none⟩ = some (.int .u8 (d10 : Int)) := S10.r.cell 10
  have x5 : (W10.alloc (.cells #[.int .u8 (x.a : Int), .int .u8 (x.b : Int), .int .u8 (x.c : Int), .int .u8 (x.d : Int), .int .u8 (x.e : Int), .int .u8 (x.f : Int)] 22)).cell? ⟨w.heap.size, 11, none⟩ = some (.int .u8 (d11 : Int)) := S10.r.cell 11
  obtain ⟨y0, y1, y2, y3, y4, y5⟩ := SixBlk.cells X10
  have heq2 := eq22 d6 d7 d8 d9 d10 d11
  have HS := Lib.hid S10
  clear S8 X8 S10 X10 b10
  go_wp2_with fail
  have S10 := HS.out
  clear HS x0 x1 x2 x3 x4 x5 y0 y1 y2 y3 y4 y5 heq2
  generalize (W10.alloc (.cells #[.int .u8 (x.a : Int), .int .u8 (x.b : Int), .int .u8 (x.c : Int), .int .u8 (x.d : Int), .int .u8 (x.e : Int), .int .u8 (x.f : Int)] 22)) = W11 at *
  obtain ⟨⟨v0, v1, v2, v3, v4, v5⟩, hst⟩ := HPV.out
  refine (text_any x.a x.b x.c x.d x.e x.f _ (HEn.out.below S10.b) v0 v1 v2 v3 v4 v5).mono ?_
  rintro e W12 ⟨rfl, b12⟩
  have S12 := S10.below b12
  rw [show txt ⟨x.a, x.b, x.c, x.d, x.e, x.f⟩ = s from hst.symm]
  have s1 : (s.toList == s.toList) = true := by simp
  clear S10 b12
  go_wp2_with fail
  refine (known_any _ (HEn.out.below S12.b)).mono ?_
  rintro e w9 ⟨rfl, b9⟩
  have b10 := S12.b.trans (b9.mono S12.b.size)
  clear b9
  go_wp2_with fail
  go_ret
  exact ⟨rfl, b10⟩
set_option maxHeartbeats 2000000 in
set_option maxRecDepth 100000 in
theorem back_ANN (d0 d1 d2 d3 d4 d5 d6 d7 d8 d9 d10 d11 : Nat) (t : Int) (hd : d0 < 256 ∧ d1 < 256 ∧ d2 < 256 ∧ d3 < 256 ∧ d4 < 256 ∧ d5 < 256 ∧ d6 < 256 ∧ d7 < 256 ∧ d8 < 256 ∧ d9 < 256 ∧ d10 < 256 ∧ d11 < 256) (ht0 : 0 ≤ t) (ht1 : t ≤ 65535) (o : Option Addr) (n c : Nat) (xs : List Int) (s : ByteArray) (w : World) (hx : xs.length = n) (h1 : 1646 < n) (h1' : n ≤ 4000) (hf : ¬ fits xs) (hpv : pv s none) (hs : s.size ≤ 100) (hp : Pay w o xs) (hb : Bs xs) (hn : o = none → c = 0) (hnc : n ≤ c) (hE : Env w) :
    Calls Tryd.prog 5 #[.agg #[.int .u8 (d0 : Int), .int .u8 (d1 : Int), .int .u8 (d2 : Int), .int .u8 (d3 : Int), .int .u8 (d4 : Int), .int .u8 (d5 : Int), .int .u8 (d6 : Int), .int .u8 (d7 : Int), .int .u8 (d8 : Int), .int .u8 (d9 : Int), .int .u8 (d10 : Int), .int .u8 (d11 : Int), .int .u16 t], .slice o n c, .string s] w fun e w' => e = .returned (.bool true) ∧ Below w.heap.size w w' := by
  have bs : (n : Int) ≤ 4000 := by omega
  have b2 : (s.size : Int) ≤ 100 := by omega
  have b3 : (1646 : Int) < (n : Int) := by omega
  have hK : wrK xs = 3 := by unfold wrK; rw [if_neg (by omega)]
  have HX := Lib.hid hx
  have HB := Lib.hid hb
  have HD := Lib.hid hd
  have HEn := Lib.hid hE
  have HPV := Lib.hid hpv
  have HL : Hid (∀ b, o = some b → 0 < xs.length → b.block < w.heap.size) := fun b hb h0 => by subst hb; exact At.lt hp h0
  have HS0 : Hid (WrS w (w.alloc (.cells #[.int .u8 (d0 : Int), .int .u8 (d1 : Int), .int .u8 (d2 : Int), .int .u8 (d3 : Int), .int .u8 (d4 : Int), .int .u8 (d5 : Int), .int .u8 (d6 : Int), .int .u8 (d7 : Int), .int .u8 (d8 : Int), .int .u8 (d9 : Int), .int .u8 (d10 : Int), .int .u8 (d11 : Int), .int .u16 t] 31)) w.heap.size #[.int .u8 (d0 : Int), .int .u8 (d1 : Int), .int .u8 (d2 : Int), .int .u8 (d3 : Int), .int .u8 (d4 : Int), .int .u8 (d5 : Int), .int .u8 (d6 : Int), .int .u8 (d7 : Int), .int .u8 (d8 : Int), .int .u8 (d9 : Int), .int .u8 (d10 : Int), .int .u8 (d11 : Int), .int .u16 t] o xs) := ⟨Blk.new w 31 _, hp.below ((Below.refl _ w).alloc (Nat.le_refl _) (.cells #[.int .u8 (d0 : Int), .int .u8 (d1 : Int), .int .u8 (d2 : Int), .int .u8 (d3 : Int), .int .u8 (d4 : Int), .int .u8 (d5 : Int), .int .u8 (d6 : Int), .int .u8 (d7 : Int), .int .u8 (d8 : Int), .int .u8 (d9 : Int), .int .u8 (d10 : Int), .int .u8 (d11 : Int), .int .u16 t] 31)) HL.out, (Below.refl _ _).alloc (Nat.le_refl _) _, rfl, HL.out⟩
  have heq := eq31g (d0 : Int) (d1 : Int) (d2 : Int) (d3 : Int) (d4 : Int) (d5 : Int) (d6 : Int) (d7 : Int) (d8 : Int) (d9 : Int) (d10 : Int) (d11 : Int) t
  have HK := Lib.hid hK
  clear hx hb hd hE hpv hp hK
  go_enter Tryd.func5, Tryd.ntmps5
  go_wp2_with fail
  have S0 := HS0.out
  clear HS0
  generalize (w.alloc (.cells #[.int .u8 (d0 : Int), .int .u8 (d1 : Int), .int .u8 (d2 : Int), .int .u8 (d3 : Int), .int .u8 (d4 : Int), .int .u8 (d5 : Int), .int .u8 (d6 : Int), .int .u8 (d7 : Int), .int .u8 (d8 : Int), .int .u8 (d9 : Int), .int .u8 (d10 : Int), .int .u8 (d11 : Int), .int .u16 t] 31)) = W0 at *
  refine (write_all (d0 : Int) (d1 : Int) (d2 : Int) (d3 : Int) (d4 : Int) (d5 : Int) (d6 : Int) (d7 : Int) (d8 : Int) (d9 : Int) (d10 : Int) (d11 : Int) t ht0 ht1 o n c xs _ HX.out S0.p hn).mono ?_
  rintro e W1 ⟨vu, rfl, ou, b1⟩
  have S1 := S0.below b1
  rw [HK.out]
  clear S0 b1
  clear ou
  go_wp2_with fail
  refine (read_all o n c xs _ HX.out S1.p HB.out hnc).mono ?_
  rintro e W3 ⟨vq, rfl, oq, b3'⟩
  have S3 := (S1.below b3').alloc (.cells #[.int .u8 (rh xs 0), .int .u8 (rh xs 1), .int .u8 (rh xs 2), .int .u8 (rh xs 3), .int .u8 (rh xs 4), .int .u8 (rh xs 5), .int .u8 (rh xs 6), .int .u8 (rh xs 7), .int .u8 (rh xs 8), .int .u8 (rh xs 9), .int .u8 (rh xs 10), .int .u8 (rh xs 11), .int .u16 (rt xs)] 31)
  unfold rdV
  obtain ⟨K, hKK⟩ : ∃ K, rdK xs = K := ⟨_, rfl⟩
  have hK0 : (K == 0) = false := by rw [← hKK]; exact rdK_no hf
  rw [hKK]
  have x0 : (W3.alloc (.cells #[.int .u8 (rh xs 0), .int .u8 (rh xs 1), .int .u8 (rh xs 2), .int .u8 (rh xs 3), .int .u8 (rh xs 4), .int .u8 (rh xs 5), .int .u8 (rh xs 6), .int .u8 (rh xs 7), .int .u8 (rh xs 8), .int .u8 (rh xs 9), .int .u8 (rh xs 10), .int .u8 (rh xs 11), .int .u16 (rt xs)] 31)).cell? ⟨w.heap.size, 6, none⟩ = some (.int .u8 (d6 : Int)) := S3.r.cell 6
  have x1 : (W3.alloc (.cells #[.int .u8 (rh xs 0), .int .u8 (rh xs 1), .int .u8 (rh xs 2), .int .u8 (rh xs 3), .int .u8 (rh xs 4), .int .u8 (rh xs 5), .int .u8 (rh xs 6), .int .u8 (rh xs 7), .int .u8 (rh xs 8), .int .u8 (rh xs 9), .int .u8 (rh xs 10), .int .u8 (rh xs 11), .int .u16 (rt xs)] 31)).cell? ⟨w.heap.size, 7, none⟩ = some (.int .u8 (d7 : Int)) := S3.r.cell 7
  have x2 : (W3.alloc (.cells #[.int .u8 (rh xs 0), .int .u8 (rh xs 1), .int .u8 (rh xs 2), .int .u8 (rh xs 3), .int .u8 (rh xs 4), .int .u8 (rh xs 5), .int .u8 (rh xs 6), .int .u8 (rh xs 7), .int .u8 (rh xs 8), .int .u8 (rh xs 9), .int .u8 (rh xs 10), .int .u8 (rh xs 11), .int .u16 (rt xs)] 31)).cell? ⟨w.heap.size, 8, none⟩ = some (.int .u8 (d8 : Int)) := S3.r.cell 8
  have x3 : (W3.alloc (.cells #[.int .u8 (rh xs 0), .int .u8 (rh xs 1), .int .u8 (rh xs 2), .int .u8 (rh xs 3), .int .u8 (rh xs 4), .int .u8 (rh xs 5), .int .u8 (rh xs 6), .int .u8 (rh xs 7), .int .u8 (rh xs 8), .int .u8 (rh xs 9), .int .u8 (rh xs 10), .int .u8 (rh xs 11), .int .u16 (rt xs)] 31)).cell? ⟨w.heap.size, 9, none⟩ = some (.int .u8 (d9 : Int)) := S3.r.cell 9
  have x4 : (W3.alloc (.cells #[.int .u8 (rh xs 0), .int .u8 (rh xs 1), .int .u8 (rh xs 2), .int .u8 (rh xs 3), .int .u8 (rh xs 4), .int .u8 (rh xs 5), .int .u8 (rh xs 6), .int .u8 (rh xs 7), .int .u8 (rh xs 8), .int .u8 (rh xs 9), .int .u8 (rh xs 10), .int .u8 (rh xs 11), .int .u16 (rt xs)] 31)).cell? ⟨w.heap.size, 10, none⟩ = some (.int .u8 (d10 : Int)) := S3.r.cell 10
  have x5 : (W3.alloc (.cells #[.int .u8 (rh xs 0), .int .u8 (rh xs 1), .int .u8 (rh xs 2), .int .u8 (rh xs 3), .int .u8 (rh xs 4), .int .u8 (rh xs 5), .int .u8 (rh xs 6), .int .u8 (rh xs 7), .int .u8 (rh xs 8), .int .u8 (rh xs 9), .int .u8 (rh xs 10), .int .u8 (rh xs 11), .int .u16 (rt xs)] 31)).cell? ⟨w.heap.size, 11, none⟩ = some (.int .u8 (d11 : Int)) := S3.r.cell 11
  have HS := Lib.hid S3
  clear S1 S3 oq b3' hKK
  go_wp2_with fail
  have S5 := HS.out
  clear HS x0 x1 x2 x3 x4 x5 hK0
  generalize W3.alloc (.cells #[.int .u8 (rh xs 0), .int .u8 (rh xs 1), .int .u8 (rh xs 2), .int .u8 (rh xs 3), .int .u8 (rh xs 4), .int .u8 (rh xs 5), .int .u8 (rh xs 6), .int .u8 (rh xs 7), .int .u8 (rh xs 8), .int .u8 (rh xs 9), .int .u8 (rh xs 10), .int .u8 (rh xs 11), .int .u16 (rt xs)] 31) = W6 at *
  obtain ⟨_, _, _, _, _, _, u6, u7, u8, u9, u10, u11⟩ := HD.out
  refine (text_any d6 d7 d8 d9 d10 d11 _ (HEn.out.below S5.b) u6 u7 u8 u9 u10 u11).mono ?_
  rintro e W7 ⟨rfl, b7⟩
  have S7 := S5.below b7
  clear S5 b7
  obtain ⟨TX, hTX⟩ : ∃ TX, txt ⟨d6, d7, d8, d9, d10, d11⟩ = TX := ⟨_, rfl⟩
  rw [hTX]
  have HTX := Lib.hid hTX
  clear hTX
  go_wp2_with fail
  refine (parse_pv TX (some ⟨d6, d7, d8, d9, d10, d11⟩) _ ⟨⟨u6, u7, u8, u9, u10, u11⟩, HTX.out.symm⟩ (by rw [← HTX.out]; show (txt _).size ≤ 1000; rw [txt_size]; decide) (HEn.out.below S7.b)).mono ?_
  rintro e W8 ⟨rfl, b8⟩
  have S8 := (S7.below b8).alloc (.cells #[.int .u8 (d6 : Int), .int .u8 (d7 : Int), .int .u8 (d8 : Int), .int .u8 (d9 : Int), .int .u8 (d10 : Int), .int .u8 (d11 : Int)] 22)
  have X8 : Blk (W8.alloc (.cells #[.int .u8 (d6 : Int), .int .u8 (d7 : Int), .int .u8 (d8 : Int), .int .u8 (d9 : Int), .int .u8 (d10 : Int), .int .u8 (d11 : Int)] 22)) W8.heap.size 22 #[.int .u8 (d6 : Int), .int .u8 (d7 : Int), .int .u8 (d8 : Int), .int .u8 (d9 : Int), .int .u8 (d10 : Int), .int .u8 (d11 : Int)] := Blk.new _ _ _
  have HS := Lib.hid (And.intro S8 X8)
  clear S7 S8 X8 b8
  unfold pr Six.vals
  go_wp2_with fail
  obtain ⟨S8, X8⟩ := HS.out
  clear HS
  generalize (W8.alloc (.cells #[.int .u8 (d6 : Int), .int .u8 (d7 : Int), .int .u8 (d8 : Int), .int .u8 (d9 : Int), .int .u8 (d10 : Int), .int .u8 (d11 : Int)] 22)) = W9 at *
  generalize W8.heap.size = N8 at *
  refine (parse_pv s none _ HPV.out (by omega) (HEn.out.below S8.b)).mono ?_
  rintro e W10 ⟨rfl, b10⟩
  unfold pr
  have S10 := (S8.below b10).alloc (.cells #[.int .u8 0, .int .u8 0, .int .u8 0, .int .u8 0, .int .u8 0, .int .u8 0] 22)
  have X10 := (X8.below b10 X8.lt).alloc (.cells #[.int .u8 0, .int .u8 0, .int .u8 0, .int .u8 0, .int .u8 0, .int .u8 0] 22)
  have x0 : (W10.alloc (.cells #[.int .u8 0, .int .u8 0, .int .u8 0, .int .u8 0, .int .u8 0, .int .u8 0] 22)).cell? ⟨w.heap.size, 6, none⟩ = some (.int .u8 (d6 : Int)) := S10.r.cell 6
  have x1 : (W10.alloc (.cells #[.int .u8 0, .int .u8 0, .int .u8 0, .int .u8 0, .int .u8 0, .int .u8 0] 22)).cell? ⟨w.heap.size, 7, none⟩ = some (.int .u8 (d7 : Int)) := S10.r.cell 7
  have x2 : (W10.alloc (.cells #[.int .u8 0, .int .u8 0, .int .u8 0, .int .u8 0, .int .u8 0, .int .u8 0] 22)).cell? ⟨w.heap.size, 8, none⟩ = some (.int .u8 (d8 : Int)) := S10.r.cell 8
  have x3 : (W10.alloc (.cells #[.int .u8 0, .int .u8 0, .int .u8 0, .int .u8 0, .int .u8 0, .int .u8 0] 22)).cell? ⟨w.heap.size, 9, none⟩ = some (.int .u8 (d9 : Int)) := S10.r.cell 9
  have x4 : (W10.alloc (.cells #[.int .u8 0, .int .u8 0, .int .u8 0, .int .u8 0, .int .u8 0, .int .u8 0] 22)).cell? ⟨w.heap.size, 10, none⟩ = some (.int .u8 (d10 : Int)) := S10.r.cell 10
  have x5 : (W10.alloc (.cells #[.int .u8 0, .int .u8 0, .int .u8 0, .int .u8 0, .int .u8 0, .int .u8 0] 22)).cell? ⟨w.heap.size, 11, none⟩ = some (.int .u8 (d11 : Int)) := S10.r.cell 11
  obtain ⟨y0, y1, y2, y3, y4, y5⟩ := SixBlk.cells X10
  have heq2 := eq22 d6 d7 d8 d9 d10 d11
  have HS := Lib.hid S10
  clear S8 X8 S10 X10 b10
  go_wp2_with fail
  have S10 := HS.out
  clear HS x0 x1 x2 x3 x4 x5 y0 y1 y2 y3 y4 y5 heq2
  generalize (W10.alloc (.cells #[.int .u8 0, .int .u8 0, .int .u8 0, .int .u8 0, .int .u8 0, .int .u8 0] 22)) = W11 at *
  refine (known_any _ (HEn.out.below S10.b)).mono ?_
  rintro e w9 ⟨rfl, b9⟩
  have b10 := S10.b.trans (b9.mono S10.b.size)
  clear b9
  go_wp2_with fail
  go_ret
  exact ⟨rfl, b10⟩
set_option maxHeartbeats 2000000 in
set_option maxRecDepth 100000 in
theorem back_BYS (d0 d1 d2 d3 d4 d5 d6 d7 d8 d9 d10 d11 : Nat) (t : Int) (hd : d0 < 256 ∧ d1 < 256 ∧ d2 < 256 ∧ d3 < 256 ∧ d4 < 256 ∧ d5 < 256 ∧ d6 < 256 ∧ d7 < 256 ∧ d8 < 256 ∧ d9 < 256 ∧ d10 < 256 ∧ d11 < 256) (ht0 : 0 ≤ t) (ht1 : t ≤ 65535) (o : Option Addr) (n c : Nat) (xs : List Int) (s : ByteArray) (x : Six) (w : World) (hx : xs.length = n) (h1 : n ≤ 1586) (hf : fits xs) (hpv : pv s (some x)) (hs : s.size ≤ 100) (hp : Pay w o xs) (hb : Bs xs) (hn : o = none → c = 0) (hnc : n ≤ c) (hE : Env w) :
    Calls Tryd.prog 5 #[.agg #[.int .u8 (d0 : Int), .int .u8 (d1 : Int), .int .u8 (d2 : Int), .int .u8 (d3 : Int), .int .u8 (d4 : Int), .int .u8 (d5 : Int), .int .u8 (d6 : Int), .int .u8 (d7 : Int), .int .u8 (d8 : Int), .int .u8 (d9 : Int), .int .u8 (d10 : Int), .int .u8 (d11 : Int), .int .u16 t], .slice o n c, .string s] w fun e w' => e = .returned (.bool true) ∧ Below w.heap.size w w' := by
  have bs : (n : Int) ≤ 4000 := by omega
  have b2 : (s.size : Int) ≤ 100 := by omega
  have b3 : (n : Int) ≤ 1646 := by omega
  have b4 : 14 + (n : Int) ≤ 1600 := by omega
  have hK : wrK xs = 0 := by unfold wrK; rw [if_pos (by omega)]
  have hwp : wrP (d0 : Int) (d1 : Int) (d2 : Int) (d3 : Int) (d4 : Int) (d5 : Int) (d6 : Int) (d7 : Int) (d8 : Int) (d9 : Int) (d10 : Int) (d11 : Int) t xs = hb14 (d0 : Int) (d1 : Int) (d2 : Int) (d3 : Int) (d4 : Int) (d5 : Int) (d6 : Int) (d7 : Int) (d8 : Int) (d9 : Int) (d10 : Int) (d11 : Int) t ++ xs := by unfold wrP; rw [if_pos (by omega)]
  have HX := Lib.hid hx
  have HB := Lib.hid hb
  have HD := Lib.hid hd
  have HEn := Lib.hid hE
  have HPV := Lib.hid hpv
  have HL : Hid (∀ b, o = some b → 0 < xs.length → b.block < w.heap.size) := fun b hb h0 => by subst hb; exact At.lt hp h0
  have HS0 : Hid (WrS w (w.alloc (.cells #[.int .u8 (d0 : Int), .int .u8 (d1 : Int), .int .u8 (d2 : Int), .int .u8 (d3 : Int), .int .u8 (d4 : Int), .int .u8 (d5 : Int), .int .u8 (d6 : Int), .int .u8 (d7 : Int), .int .u8 (d8 : Int), .int .u8 (d9 : Int), .int .u8 (d10 : Int), .int .u8 (d11 : Int), .int .u16 t] 31)) w.heap.size #[.int .u8 (d0 : Int), .int .u8 (d1 : Int), .int .u8 (d2 : Int), .int .u8 (d3 : Int), .int .u8 (d4 : Int), .int .u8 (d5 : Int), .int .u8 (d6 : Int), .int .u8 (d7 : Int), .int .u8 (d8 : Int), .int .u8 (d9 : Int), .int .u8 (d10 : Int), .int .u8 (d11 : Int), .int .u16 t] o xs) := ⟨Blk.new w 31 _, hp.below ((Below.refl _ w).alloc (Nat.le_refl _) (.cells #[.int .u8 (d0 : Int), .int .u8 (d1 : Int), .int .u8 (d2 : Int), .int .u8 (d3 : Int), .int .u8 (d4 : Int), .int .u8 (d5 : Int), .int .u8 (d6 : Int), .int .u8 (d7 : Int), .int .u8 (d8 : Int), .int .u8 (d9 : Int), .int .u8 (d10 : Int), .int .u8 (d11 : Int), .int .u16 t] 31)) HL.out, (Below.refl _ _).alloc (Nat.le_refl _) _, rfl, HL.out⟩
  have heq := eq31g (d0 : Int) (d1 : Int) (d2 : Int) (d3 : Int) (d4 : Int) (d5 : Int) (d6 : Int) (d7 : Int) (d8 : Int) (d9 : Int) (d10 : Int) (d11 : Int) t
  have HK := Lib.hid hK
  clear hx hb hd hE hpv hp hK
  go_enter Tryd.func5, Tryd.ntmps5
  go_wp2_with fail
  have S0 := HS0.out
  clear HS0
  generalize (w.alloc (.cells #[.int .u8 (d0 : Int), .int .u8 (d1 : Int), .int .u8 (d2 : Int), .int .u8 (d3 : Int), .int .u8 (d4 : Int), .int .u8 (d5 : Int), .int .u8 (d6 : Int), .int .u8 (d7 : Int), .int .u8 (d8 : Int), .int .u8 (d9 : Int), .int .u8 (d10 : Int), .int .u8 (d11 : Int), .int .u16 t] 31)) = W0 at *
  refine (write_all (d0 : Int) (d1 : Int) (d2 : Int) (d3 : Int) (d4 : Int) (d5 : Int) (d6 : Int) (d7 : Int) (d8 : Int) (d9 : Int) (d10 : Int) (d11 : Int) t ht0 ht1 o n c xs _ HX.out S0.p hn).mono ?_
  rintro e W1 ⟨vu, rfl, ou, b1⟩
  have S1 := S0.below b1
  rw [HK.out]
  clear S0 b1
  have hl : (wrP (d0 : Int) (d1 : Int) (d2 : Int) (d3 : Int) (d4 : Int) (d5 : Int) (d6 : Int) (d7 : Int) (d8 : Int) (d9 : Int) (d10 : Int) (d11 : Int) t xs).length = 14 + n := by rw [hwp, List.length_append, HX.out]; rfl
  rw [hl, hwp] at ou
  obtain ⟨uo, uc, rfl, pu, lu, ucn, _⟩ := own_pay ou
  clear hl hwp ou
  have b5 : (14 : Int) + (n : Int) ≤ 100000 := by omega
  go_wp2_with fail
  refine (read_all uo (14 + n) uc (hb14 (d0 : Int) (d1 : Int) (d2 : Int) (d3 : Int) (d4 : Int) (d5 : Int) (d6 : Int) (d7 : Int) (d8 : Int) (d9 : Int) (d10 : Int) (d11 : Int) t ++ xs) _ lu pu (Bs_wr d0 d1 d2 d3 d4 d5 d6 d7 d8 d9 d10 d11 t xs HD.out ht0 ht1 HB.out) ucn).mono ?_
  rintro e W2 ⟨vp, rfl, op, b2'⟩
  obtain ⟨q1, q2, q3⟩ := rd_wr (d0 : Int) (d1 : Int) (d2 : Int) (d3 : Int) (d4 : Int) (d5 : Int) (d6 : Int) (d7 : Int) (d8 : Int) (d9 : Int) (d10 : Int) (d11 : Int) t xs (by have := HX.out; omega)
  rw [q2] at op
  rw [q1, q3]
  have S2 := (S1.below b2').alloc (.cells #[.int .u8 (d0 : Int), .int .u8 (d1 : Int), .int .u8 (d2 : Int), .int .u8 (d3 : Int), .int .u8 (d4 : Int), .int .u8 (d5 : Int), .int .u8 (d6 : Int), .int .u8 (d7 : Int), .int .u8 (d8 : Int), .int .u8 (d9 : Int), .int .u8 (d10 : Int), .int .u8 (d11 : Int), .int .u16 t] 31)
  have hcp := conv_own (op.alloc (.cells #[.int .u8 (d0 : Int), .int .u8 (d1 : Int), .int .u8 (d2 : Int), .int .u8 (d3 : Int), .int .u8 (d4 : Int), .int .u8 (d5 : Int), .int .u8 (d6 : Int), .int .u8 (d7 : Int), .int .u8 (d8 : Int), .int .u8 (d9 : Int), .int .u8 (d10 : Int), .int .u8 (d11 : Int), .int .u16 t] 31))
  have hcb := conv_pay (c := c) HX.out S2.p
  obtain ⟨Y, hYY⟩ : ∃ Y, strOfNums xs = Y := ⟨_, rfl⟩
  rw [hYY] at hcp hcb
  have s1 : (Y.toList == Y.toList) = true := by simp
  have s2 : (Y.toList != Y.toList) = false := by simp
  obtain ⟨y0, y1, y2, y3, y4, y5, y6, y7, y8, y9, y10, y11, y12⟩ := c13 S2.r
  have HS := Lib.hid S2
  clear S1 S2 op b2' hYY q1 q2 q3 pu lu
  go_wp2_with fail
  have S1 := HS.out
  clear HS hcp hcb s1 s2 y0 y1 y2 y3 y4 y5 y6 y7 y8 y9 y10 y11 y12
  generalize W2.alloc (.cells #[.int .u8 (d0 : Int), .int .u8 (d1 : Int), .int .u8 (d2 : Int), .int .u8 (d3 : Int), .int .u8 (d4 : Int), .int .u8 (d5 : Int), .int .u8 (d6 : Int), .int .u8 (d7 : Int), .int .u8 (d8 : Int), .int .u8 (d9 : Int), .int .u8 (d10 : Int), .int .u8 (d11 : Int), .int .u16 t] 31) = W2' at *
  refine (read_all o n c xs _ HX.out S1.p HB.out hnc).mono ?_
  rintro e W3 ⟨vq, rfl, oq, b3'⟩
  have S3 := (S1.below b3').alloc (.cells #[.int .u8 (rh xs 0), .int .u8 (rh xs 1), .int .u8 (rh xs 2), .int .u8 (rh xs 3), .int .u8 (rh xs 4), .int .u8 (rh xs 5), .int .u8 (rh xs 6), .int .u8 (rh xs 7), .int .u8 (rh xs 8), .int .u8 (rh xs 9), .int .u8 (rh xs 10), .int .u8 (rh xs 11), .int .u16 (rt xs)] 31)
  unfold rdV
  have hKK : rdK xs = 0 := by unfold rdK; have := hf; unfold fits at this; rw [if_neg (by omega), if_neg (by omega)]
  rw [hKK]
  obtain ⟨qo, qc, rfl, _, lq, qcn, hqn, _⟩ := own_pay oq
  have oq3 := oq.alloc (.cells #[.int .u8 (rh xs 0), .int .u8 (rh xs 1), .int .u8 (rh xs 2), .int .u8 (rh xs 3), .int .u8 (rh xs 4), .int .u8 (rh xs 5), .int .u8 (rh xs 6), .int .u8 (rh xs 7), .int .u8 (rh xs 8), .int .u8 (rh xs 9), .int .u8 (rh xs 10), .int .u8 (rh xs 11), .int .u16 (rt xs)] 31)
  have HS := Lib.hid (And.intro S3 oq3)
  clear S1 S3 oq oq3 b3' hKK
  go_wp2_with fail
  obtain ⟨S3, oq3⟩ := HS.out
  clear HS
  generalize W3.alloc (.cells #[.int .u8 (rh xs 0), .int .u8 (rh xs 1), .int .u8 (rh xs 2), .int .u8 (rh xs 3), .int .u8 (rh xs 4), .int .u8 (rh xs 5), .int .u8 (rh xs 6), .int .u8 (rh xs 7), .int .u8 (rh xs 8), .int .u8 (rh xs 9), .int .u8 (rh xs 10), .int .u8 (rh xs 11), .int .u16 (rt xs)] 31) = W4 at *
  obtain ⟨_, _, e9, pq, _⟩ := own_pay oq3
  injection e9 with e10 e11 e12
  subst e10
  have hrt : 0 ≤ rt xs ∧ rt xs ≤ 65535 := by have h12 := HB.out 12; have h13 := HB.out 13; unfold rt; rw [if_pos hf]; omega
  refine (write_all (rh xs 0) (rh xs 1) (rh xs 2) (rh xs 3) (rh xs 4) (rh xs 5) (rh xs 6) (rh xs 7) (rh xs 8) (rh xs 9) (rh xs 10) (rh xs 11) (rt xs) hrt.1 hrt.2 qo (rdP xs).length qc (rdP xs) _ rfl pq hqn).mono ?_
  rintro e W5 ⟨vw, rfl, ow, b5'⟩
  have S5 := S3.below b5'
  rw [wr_rd hf HB.out] at ow
  have hwK : wrK (rdP xs) = 0 := by unfold wrK; rw [if_pos (by have := rdP_len xs; have := hf; unfold fits at this; omega)]
  rw [hwK]
  have hcw := conv_own ow
  have hcb := conv_pay (c := c) HX.out S5.p
  obtain ⟨Y, hYY⟩ : ∃ Y, strOfNums xs = Y := ⟨_, rfl⟩
  rw [hYY] at hcw hcb
  have s1 : (Y.toList == Y.toList) = true := by simp
  have s2 : (Y.toList != Y.toList) = false := by simp
  have x0 : W5.cell? ⟨w.heap.size, 6, none⟩ = some (.int .u8 (d6 : Int)) := S5.r.cell 6
  have x1 : W5.cell? ⟨w.heap.size, 7, none⟩ = some (.int .u8 (d7 : Int)) := S5.r.cell 7
  have x2 : W5.cell? ⟨w.heap.size, 8, none⟩ = some (.int .u8 (d8 : Int)) := S5.r.cell 8
  have x3 : W5.cell? ⟨w.heap.size, 9, none⟩ = some (.int .u8 (d9 : Int)) := S5.r.cell 9
  have x4 : W5.cell? ⟨w.heap.size, 10, none⟩ = some (.int .u8 (d10 : Int)) := S5.r.cell 10
  have x5 : W5.cell? ⟨w.heap.size, 11, none⟩ = some (.int .u8 (d11 : Int)) := S5.r.cell 11
  clear S3 ow oq3 b5' hYY hwK hrt
  go_wp2_with fail
  clear hcw hcb s1 s2 x0 x1 x2 x3 x4 x5
  generalize W5 = W6 at *
  obtain ⟨_, _, _, _, _, _, u6, u7, u8, u9, u10, u11⟩ := HD.out
  refine (text_any d6 d7 d8 d9 d10 d11 _ (HEn.out.below S5.b) u6 u7 u8 u9 u10 u11).mono ?_
  rintro e W7 ⟨rfl, b7⟩
  have S7 := S5.below b7
  clear S5 b7
  obtain ⟨TX, hTX⟩ : ∃ TX, txt ⟨d6, d7, d8, d9, d10, d11⟩ = TX := ⟨_, rfl⟩
  rw [hTX]
  have HTX := Lib.hid hTX
  clear hTX
  go_wp2_with fail
  refine (parse_pv TX (some ⟨d6, d7, d8, d9, d10, d11⟩) _ ⟨⟨u6, u7, u8, u9, u10, u11⟩, HTX.out.symm⟩ (by rw [← HTX.out]; show (txt _).size ≤ 1000; rw [txt_size]; decide) (HEn.out.below S7.b)).mono ?_
  rintro e W8 ⟨rfl, b8⟩
  have S8 := (S7.below b8).alloc (.cells #[.int .u8 (d6 : Int), .int .u8 (d7 : Int), .int .u8 (d8 : Int), .int .u8 (d9 : Int), .int .u8 (d10 : Int), .int .u8 (d11 : Int)] 22)
  have X8 : Blk (W8.alloc (.cells #[.int .u8 (d6 : Int), .int .u8 (d7 : Int), .int .u8 (d8 : Int), .int .u8 (d9 : Int), .int .u8 (d10 : Int), .int .u8 (d11 : Int)] 22)) W8.heap.size 22 #[.int .u8 (d6 : Int), .int .u8 (d7 : Int), .int .u8 (d8 : Int), .int .u8 (d9 : Int), .int .u8 (d10 : Int), .int .u8 (d11 : Int)] := Blk.new _ _ _
  have HS := Lib.hid (And.intro S8 X8)
  clear S7 S8 X8 b8
  unfold pr Six.vals
  go_wp2_with fail
  obtain ⟨S8, X8⟩ := HS.out
  clear HS
  generalize (W8.alloc (.cells #[.int .u8 (d6 : Int), .int .u8 (d7 : Int), .int .u8 (d8 : Int), .int .u8 (d9 : Int), .int .u8 (d10 : Int), .int .u8 (d11 : Int)] 22)) = W9 at *
  generalize W8.heap.size = N8 at *
  refine (parse_pv s (some x) _ HPV.out (by omega) (HEn.out.below S8.b)).mono ?_
  rintro e W10 ⟨rfl, b10⟩
  unfold pr Six.vals
  have S10 := (S8.below b10).alloc (.cells #[.int .u8 (x.a : Int), .int .u8 (x.b : Int), .int .u8 (x.c : Int), .int .u8 (x.d : Int), .int .u8 (x.e : Int), .int .u8 (x.f : Int)] 22)
  have X10 := (X8.below b10 X8.lt).alloc (.cells #[.int .u8 (x.a : Int), .int .u8 (x.b : Int), .int .u8 (x.c : Int), .int .u8 (x.d : Int), .int .u8 (x.e : Int), .int .u8 (x.f : Int)] 22)
  have x0 : (W10.alloc (.cells #[.int .u8 (x.a : Int), .int .u8 (x.b : Int), .int .u8 (x.c : Int), .int .u8 (x.d : Int), .int .u8 (x.e : Int), .int .u8 (x.f : Int)] 22)).cell? ⟨w.heap.size, 6, none⟩ = some (.int .u8 (d6 : Int)) := S10.r.cell 6
  have x1 : (W10.alloc (.cells #[.int .u8 (x.a : Int), .int .u8 (x.b : Int), .int .u8 (x.c : Int), .int .u8 (x.d : Int), .int .u8 (x.e : Int), .int .u8 (x.f : Int)] 22)).cell? ⟨w.heap.size, 7, none⟩ = some (.int .u8 (d7 : Int)) := S10.r.cell 7
  have x2 : (W10.alloc (.cells #[.int .u8 (x.a : Int), .int .u8 (x.b : Int), .int .u8 (x.c : Int), .int .u8 (x.d : Int), .int .u8 (x.e : Int), .int .u8 (x.f : Int)] 22)).cell? ⟨w.heap.size, 8, none⟩ = some (.int .u8 (d8 : Int)) := S10.r.cell 8
  have x3 : (W10.alloc (.cells #[.int .u8 (x.a : Int), .int .u8 (x.b : Int), .int .u8 (x.c : Int), .int .u8 (x.d : Int), .int .u8 (x.e : Int), .int .u8 (x.f : Int)] 22)).cell? ⟨w.heap.size, 9, none⟩ = some (.int .u8 (d9 : Int)) := S10.r.cell 9
  have x4 : (W10.alloc (.cells #[.int .u8 (x.a : Int), .int .u8 (x.b : Int), .int .u8 (x.c : Int), .int .u8 (x.d : Int), .int .u8 (x.e : Int), .int .u8 (x.f : Int)] 22)).cell? ⟨w.heap.size, 10, none⟩ = some (.int .u8 (d10 : Int)) := S10.r.cell 10
  have x5 : (W10.alloc (.cells #[.int .u8 (x.a : Int), .int .u8 (x.b : Int), .int .u8 (x.c : Int), .int .u8 (x.d : Int), .int .u8 (x.e : Int), .int .u8 (x.f : Int)] 22)).cell? ⟨w.heap.size, 11, none⟩ = some (.int .u8 (d11 : Int)) := S10.r.cell 11
  obtain ⟨y0, y1, y2, y3, y4, y5⟩ := SixBlk.cells X10
  have heq2 := eq22 d6 d7 d8 d9 d10 d11
  have HS := Lib.hid S10
  clear S8 X8 S10 X10 b10
  go_wp2_with fail
  have S10 := HS.out
  clear HS x0 x1 x2 x3 x4 x5 y0 y1 y2 y3 y4 y5 heq2
  generalize (W10.alloc (.cells #[.int .u8 (x.a : Int), .int .u8 (x.b : Int), .int .u8 (x.c : Int), .int .u8 (x.d : Int), .int .u8 (x.e : Int), .int .u8 (x.f : Int)] 22)) = W11 at *
  obtain ⟨⟨v0, v1, v2, v3, v4, v5⟩, hst⟩ := HPV.out
  refine (text_any x.a x.b x.c x.d x.e x.f _ (HEn.out.below S10.b) v0 v1 v2 v3 v4 v5).mono ?_
  rintro e W12 ⟨rfl, b12⟩
  have S12 := S10.below b12
  rw [show txt ⟨x.a, x.b, x.c, x.d, x.e, x.f⟩ = s from hst.symm]
  have s1 : (s.toList == s.toList) = true := by simp
  clear S10 b12
  go_wp2_with fail
  refine (known_any _ (HEn.out.below S12.b)).mono ?_
  rintro e w9 ⟨rfl, b9⟩
  have b10 := S12.b.trans (b9.mono S12.b.size)
  clear b9
  go_wp2_with fail
  go_ret
  exact ⟨rfl, b10⟩
set_option maxHeartbeats 2000000 in
set_option maxRecDepth 100000 in
theorem back_BYN (d0 d1 d2 d3 d4 d5 d6 d7 d8 d9 d10 d11 : Nat) (t : Int) (hd : d0 < 256 ∧ d1 < 256 ∧ d2 < 256 ∧ d3 < 256 ∧ d4 < 256 ∧ d5 < 256 ∧ d6 < 256 ∧ d7 < 256 ∧ d8 < 256 ∧ d9 < 256 ∧ d10 < 256 ∧ d11 < 256) (ht0 : 0 ≤ t) (ht1 : t ≤ 65535) (o : Option Addr) (n c : Nat) (xs : List Int) (s : ByteArray) (w : World) (hx : xs.length = n) (h1 : n ≤ 1586) (hf : fits xs) (hpv : pv s none) (hs : s.size ≤ 100) (hp : Pay w o xs) (hb : Bs xs) (hn : o = none → c = 0) (hnc : n ≤ c) (hE : Env w) :
    Calls Tryd.prog 5 #[.agg #[.int .u8 (d0 : Int), .int .u8 (d1 : Int), .int .u8 (d2 : Int), .int .u8 (d3 : Int), .int .u8 (d4 : Int), .int .u8 (d5 : Int), .int .u8 (d6 : Int), .int .u8 (d7 : Int), .int .u8 (d8 : Int), .int .u8 (d9 : Int), .int .u8 (d10 : Int), .int .u8 (d11 : Int), .int .u16 t], .slice o n c, .string s] w fun e w' => e = .returned (.bool true) ∧ Below w.heap.size w w' := by
  have bs : (n : Int) ≤ 4000 := by omega
  have b2 : (s.size : Int) ≤ 100 := by omega
  have b3 : (n : Int) ≤ 1646 := by omega
  have b4 : 14 + (n : Int) ≤ 1600 := by omega
  have hK : wrK xs = 0 := by unfold wrK; rw [if_pos (by omega)]
  have hwp : wrP (d0 : Int) (d1 : Int) (d2 : Int) (d3 : Int) (d4 : Int) (d5 : Int) (d6 : Int) (d7 : Int) (d8 : Int) (d9 : Int) (d10 : Int) (d11 : Int) t xs = hb14 (d0 : Int) (d1 : Int) (d2 : Int) (d3 : Int) (d4 : Int) (d5 : Int) (d6 : Int) (d7 : Int) (d8 : Int) (d9 : Int) (d10 : Int) (d11 : Int) t ++ xs := by unfold wrP; rw [if_pos (by omega)]
  have HX := Lib.hid hx
  have HB := Lib.hid hb
  have HD := Lib.hid hd
  have HEn := Lib.hid hE
  have HPV := Lib.hid hpv
  have HL : Hid (∀ b, o = some b → 0 < xs.length → b.block < w.heap.size) := fun b hb h0 => by subst hb; exact At.lt hp h0
  have HS0 : Hid (WrS w (w.alloc (.cells #[.int .u8 (d0 : Int), .int .u8 (d1 : Int), .int .u8 (d2 : Int), .int .u8 (d3 : Int), .int .u8 (d4 : Int), .int .u8 (d5 : Int), .int .u8 (d6 : Int), .int .u8 (d7 : Int), .int .u8 (d8 : Int), .int .u8 (d9 : Int), .int .u8 (d10 : Int), .int .u8 (d11 : Int), .int .u16 t] 31)) w.heap.size #[.int .u8 (d0 : Int), .int .u8 (d1 : Int), .int .u8 (d2 : Int), .int .u8 (d3 : Int), .int .u8 (d4 : Int), .int .u8 (d5 : Int), .int .u8 (d6 : Int), .int .u8 (d7 : Int), .int .u8 (d8 : Int), .int .u8 (d9 : Int), .int .u8 (d10 : Int), .int .u8 (d11 : Int), .int .u16 t] o xs) := ⟨Blk.new w 31 _, hp.below ((Below.refl _ w).alloc (Nat.le_refl _) (.cells #[.int .u8 (d0 : Int), .int .u8 (d1 : Int), .int .u8 (d2 : Int), .int .u8 (d3 : Int), .int .u8 (d4 : Int), .int .u8 (d5 : Int), .int .u8 (d6 : Int), .int .u8 (d7 : Int), .int .u8 (d8 : Int), .int .u8 (d9 : Int), .int .u8 (d10 : Int), .int .u8 (d11 : Int), .int .u16 t] 31)) HL.out, (Below.refl _ _).alloc (Nat.le_refl _) _, rfl, HL.out⟩
  have heq := eq31g (d0 : Int) (d1 : Int) (d2 : Int) (d3 : Int) (d4 : Int) (d5 : Int) (d6 : Int) (d7 : Int) (d8 : Int) (d9 : Int) (d10 : Int) (d11 : Int) t
  have HK := Lib.hid hK
  clear hx hb hd hE hpv hp hK
  go_enter Tryd.func5, Tryd.ntmps5
  go_wp2_with fail
  have S0 := HS0.out
  clear HS0
  generalize (w.alloc (.cells #[.int .u8 (d0 : Int), .int .u8 (d1 : Int), .int .u8 (d2 : Int), .int .u8 (d3 : Int), .int .u8 (d4 : Int), .int .u8 (d5 : Int), .int .u8 (d6 : Int), .int .u8 (d7 : Int), .int .u8 (d8 : Int), .int .u8 (d9 : Int), .int .u8 (d10 : Int), .int .u8 (d11 : Int), .int .u16 t] 31)) = W0 at *
  refine (write_all (d0 : Int) (d1 : Int) (d2 : Int) (d3 : Int) (d4 : Int) (d5 : Int) (d6 : Int) (d7 : Int) (d8 : Int) (d9 : Int) (d10 : Int) (d11 : Int) t ht0 ht1 o n c xs _ HX.out S0.p hn).mono ?_
  rintro e W1 ⟨vu, rfl, ou, b1⟩
  have S1 := S0.below b1
  rw [HK.out]
  clear S0 b1
  have hl : (wrP (d0 : Int) (d1 : Int) (d2 : Int) (d3 : Int) (d4 : Int) (d5 : Int) (d6 : Int) (d7 : Int) (d8 : Int) (d9 : Int) (d10 : Int) (d11 : Int) t xs).length = 14 + n := by rw [hwp, List.length_append, HX.out]; rfl
  rw [hl, hwp] at ou
  obtain ⟨uo, uc, rfl, pu, lu, ucn, _⟩ := own_pay ou
  clear hl hwp ou
  have b5 : (14 : Int) + (n : Int) ≤ 100000 := by omega
  go_wp2_with fail
  refine (read_all uo (14 + n) uc (hb14 (d0 : Int) (d1 : Int) (d2 : Int) (d3 : Int) (d4 : Int) (d5 : Int) (d6 : Int) (d7 : Int) (d8 : Int) (d9 : Int) (d10 : Int) (d11 : Int) t ++ xs) _ lu pu (Bs_wr d0 d1 d2 d3 d4 d5 d6 d7 d8 d9 d10 d11 t xs HD.out ht0 ht1 HB.out) ucn).mono ?_
  rintro e W2 ⟨vp, rfl, op, b2'⟩
  obtain ⟨q1, q2, q3⟩ := rd_wr (d0 : Int) (d1 : Int) (d2 : Int) (d3 : Int) (d4 : Int) (d5 : Int) (d6 : Int) (d7 : Int) (d8 : Int) (d9 : Int) (d10 : Int) (d11 : Int) t xs (by have := HX.out; omega)
  rw [q2] at op
  rw [q1, q3]
  have S2 := (S1.below b2').alloc (.cells #[.int .u8 (d0 : Int), .int .u8 (d1 : Int), .int .u8 (d2 : Int), .int .u8 (d3 : Int), .int .u8 (d4 : Int), .int .u8 (d5 : Int), .int .u8 (d6 : Int), .int .u8 (d7 : Int), .int .u8 (d8 : Int), .int .u8 (d9 : Int), .int .u8 (d10 : Int), .int .u8 (d11 : Int), .int .u16 t] 31)
  have hcp := conv_own (op.alloc (.cells #[.int .u8 (d0 : Int), .int .u8 (d1 : Int), .int .u8 (d2 : Int), .int .u8 (d3 : Int), .int .u8 (d4 : Int), .int .u8 (d5 : Int), .int .u8 (d6 : Int), .int .u8 (d7 : Int), .int .u8 (d8 : Int), .int .u8 (d9 : Int), .int .u8 (d10 : Int), .int .u8 (d11 : Int), .int .u16 t] 31))
  have hcb := conv_pay (c := c) HX.out S2.p
  obtain ⟨Y, hYY⟩ : ∃ Y, strOfNums xs = Y := ⟨_, rfl⟩
  rw [hYY] at hcp hcb
  have s1 : (Y.toList == Y.toList) = true := by simp
  have s2 : (Y.toList != Y.toList) = false := by simp
  obtain ⟨y0, y1, y2, y3, y4, y5, y6, y7, y8, y9, y10, y11, y12⟩ := c13 S2.r
  have HS := Lib.hid S2
  clear S1 S2 op b2' hYY q1 q2 q3 pu lu
  go_wp2_with fail
  have S1 := HS.out
  clear HS hcp hcb s1 s2 y0 y1 y2 y3 y4 y5 y6 y7 y8 y9 y10 y11 y12
  generalize W2.alloc (.cells #[.int .u8 (d0 : Int), .int .u8 (d1 : Int), .int .u8 (d2 : Int), .int .u8 (d3 : Int), .int .u8 (d4 : Int), .int .u8 (d5 : Int), .int .u8 (d6 : Int), .int .u8 (d7 : Int), .int .u8 (d8 : Int), .int .u8 (d9 : Int), .int .u8 (d10 : Int), .int .u8 (d11 : Int), .int .u16 t] 31) = W2' at *
  refine (read_all o n c xs _ HX.out S1.p HB.out hnc).mono ?_
  rintro e W3 ⟨vq, rfl, oq, b3'⟩
  have S3 := (S1.below b3').alloc (.cells #[.int .u8 (rh xs 0), .int .u8 (rh xs 1), .int .u8 (rh xs 2), .int .u8 (rh xs 3), .int .u8 (rh xs 4), .int .u8 (rh xs 5), .int .u8 (rh xs 6), .int .u8 (rh xs 7), .int .u8 (rh xs 8), .int .u8 (rh xs 9), .int .u8 (rh xs 10), .int .u8 (rh xs 11), .int .u16 (rt xs)] 31)
  unfold rdV
  have hKK : rdK xs = 0 := by unfold rdK; have := hf; unfold fits at this; rw [if_neg (by omega), if_neg (by omega)]
  rw [hKK]
  obtain ⟨qo, qc, rfl, _, lq, qcn, hqn, _⟩ := own_pay oq
  have oq3 := oq.alloc (.cells #[.int .u8 (rh xs 0), .int .u8 (rh xs 1), .int .u8 (rh xs 2), .int .u8 (rh xs 3), .int .u8 (rh xs 4), .int .u8 (rh xs 5), .int .u8 (rh xs 6), .int .u8 (rh xs 7), .int .u8 (rh xs 8), .int .u8 (rh xs 9), .int .u8 (rh xs 10), .int .u8 (rh xs 11), .int .u16 (rt xs)] 31)
  have HS := Lib.hid (And.intro S3 oq3)
  clear S1 S3 oq oq3 b3' hKK
  go_wp2_with fail
  obtain ⟨S3, oq3⟩ := HS.out
  clear HS
  generalize W3.alloc (.cells #[.int .u8 (rh xs 0), .int .u8 (rh xs 1), .int .u8 (rh xs 2), .int .u8 (rh xs 3), .int .u8 (rh xs 4), .int .u8 (rh xs 5), .int .u8 (rh xs 6), .int .u8 (rh xs 7), .int .u8 (rh xs 8), .int .u8 (rh xs 9), .int .u8 (rh xs 10), .int .u8 (rh xs 11), .int .u16 (rt xs)] 31) = W4 at *
  obtain ⟨_, _, e9, pq, _⟩ := own_pay oq3
  injection e9 with e10 e11 e12
  subst e10
  have hrt : 0 ≤ rt xs ∧ rt xs ≤ 65535 := by have h12 := HB.out 12; have h13 := HB.out 13; unfold rt; rw [if_pos hf]; omega
  refine (write_all (rh xs 0) (rh xs 1) (rh xs 2) (rh xs 3) (rh xs 4) (rh xs 5) (rh xs 6) (rh xs 7) (rh xs 8) (rh xs 9) (rh xs 10) (rh xs 11) (rt xs) hrt.1 hrt.2 qo (rdP xs).length qc (rdP xs) _ rfl pq hqn).mono ?_
  rintro e W5 ⟨vw, rfl, ow, b5'⟩
  have S5 := S3.below b5'
  rw [wr_rd hf HB.out] at ow
  have hwK : wrK (rdP xs) = 0 := by unfold wrK; rw [if_pos (by have := rdP_len xs; have := hf; unfold fits at this; omega)]
  rw [hwK]
  have hcw := conv_own ow
  have hcb := conv_pay (c := c) HX.out S5.p
  obtain ⟨Y, hYY⟩ : ∃ Y, strOfNums xs = Y := ⟨_, rfl⟩
  rw [hYY] at hcw hcb
  have s1 : (Y.toList == Y.toList) = true := by simp
  have s2 : (Y.toList != Y.toList) = false := by simp
  have x0 : W5.cell? ⟨w.heap.size, 6, none⟩ = some (.int .u8 (d6 : Int)) := S5.r.cell 6
  have x1 : W5.cell? ⟨w.heap.size, 7, none⟩ = some (.int .u8 (d7 : Int)) := S5.r.cell 7
  have x2 : W5.cell? ⟨w.heap.size, 8, none⟩ = some (.int .u8 (d8 : Int)) := S5.r.cell 8
  have x3 : W5.cell? ⟨w.heap.size, 9, none⟩ = some (.int .u8 (d9 : Int)) := S5.r.cell 9
  have x4 : W5.cell? ⟨w.heap.size, 10, none⟩ = some (.int .u8 (d10 : Int)) := S5.r.cell 10
  have x5 : W5.cell? ⟨w.heap.size, 11, none⟩ = some (.int .u8 (d11 : Int)) := S5.r.cell 11
  clear S3 ow oq3 b5' hYY hwK hrt
  go_wp2_with fail
  clear hcw hcb s1 s2 x0 x1 x2 x3 x4 x5
  generalize W5 = W6 at *
  obtain ⟨_, _, _, _, _, _, u6, u7, u8, u9, u10, u11⟩ := HD.out
  refine (text_any d6 d7 d8 d9 d10 d11 _ (HEn.out.below S5.b) u6 u7 u8 u9 u10 u11).mono ?_
  rintro e W7 ⟨rfl, b7⟩
  have S7 := S5.below b7
  clear S5 b7
  obtain ⟨TX, hTX⟩ : ∃ TX, txt ⟨d6, d7, d8, d9, d10, d11⟩ = TX := ⟨_, rfl⟩
  rw [hTX]
  have HTX := Lib.hid hTX
  clear hTX
  go_wp2_with fail
  refine (parse_pv TX (some ⟨d6, d7, d8, d9, d10, d11⟩) _ ⟨⟨u6, u7, u8, u9, u10, u11⟩, HTX.out.symm⟩ (by rw [← HTX.out]; show (txt _).size ≤ 1000; rw [txt_size]; decide) (HEn.out.below S7.b)).mono ?_
  rintro e W8 ⟨rfl, b8⟩
  have S8 := (S7.below b8).alloc (.cells #[.int .u8 (d6 : Int), .int .u8 (d7 : Int), .int .u8 (d8 : Int), .int .u8 (d9 : Int), .int .u8 (d10 : Int), .int .u8 (d11 : Int)] 22)
  have X8 : Blk (W8.alloc (.cells #[.int .u8 (d6 : Int), .int .u8 (d7 : Int), .int .u8 (d8 : Int), .int .u8 (d9 : Int), .int .u8 (d10 : Int), .int .u8 (d11 : Int)] 22)) W8.heap.size 22 #[.int .u8 (d6 : Int), .int .u8 (d7 : Int), .int .u8 (d8 : Int), .int .u8 (d9 : Int), .int .u8 (d10 : Int), .int .u8 (d11 : Int)] := Blk.new _ _ _
  have HS := Lib.hid (And.intro S8 X8)
  clear S7 S8 X8 b8
  unfold pr Six.vals
  go_wp2_with fail
  obtain ⟨S8, X8⟩ := HS.out
  clear HS
  generalize (W8.alloc (.cells #[.int .u8 (d6 : Int), .int .u8 (d7 : Int), .int .u8 (d8 : Int), .int .u8 (d9 : Int), .int .u8 (d10 : Int), .int .u8 (d11 : Int)] 22)) = W9 at *
  generalize W8.heap.size = N8 at *
  refine (parse_pv s none _ HPV.out (by omega) (HEn.out.below S8.b)).mono ?_
  rintro e W10 ⟨rfl, b10⟩
  unfold pr
  have S10 := (S8.below b10).alloc (.cells #[.int .u8 0, .int .u8 0, .int .u8 0, .int .u8 0, .int .u8 0, .int .u8 0] 22)
  have X10 := (X8.below b10 X8.lt).alloc (.cells #[.int .u8 0, .int .u8 0, .int .u8 0, .int .u8 0, .int .u8 0, .int .u8 0] 22)
  have x0 : (W10.alloc (.cells #[.int .u8 0, .int .u8 0, .int .u8 0, .int .u8 0, .int .u8 0, .int .u8 0] 22)).cell? ⟨w.heap.size, 6, none⟩ = some (.int .u8 (d6 : Int)) := S10.r.cell 6
  have x1 : (W10.alloc (.cells #[.int .u8 0, .int .u8 0, .int .u8 0, .int .u8 0, .int .u8 0, .int .u8 0] 22)).cell? ⟨w.heap.size, 7, none⟩ = some (.int .u8 (d7 : Int)) := S10.r.cell 7
  have x2 : (W10.alloc (.cells #[.int .u8 0, .int .u8 0, .int .u8 0, .int .u8 0, .int .u8 0, .int .u8 0] 22)).cell? ⟨w.heap.size, 8, none⟩ = some (.int .u8 (d8 : Int)) := S10.r.cell 8
  have x3 : (W10.alloc (.cells #[.int .u8 0, .int .u8 0, .int .u8 0, .int .u8 0, .int .u8 0, .int .u8 0] 22)).cell? ⟨w.heap.size, 9, none⟩ = some (.int .u8 (d9 : Int)) := S10.r.cell 9
  have x4 : (W10.alloc (.cells #[.int .u8 0, .int .u8 0, .int .u8 0, .int .u8 0, .int .u8 0, .int .u8 0] 22)).cell? ⟨w.heap.size, 10, none⟩ = some (.int .u8 (d10 : Int)) := S10.r.cell 10
  have x5 : (W10.alloc (.cells #[.int .u8 0, .int .u8 0, .int .u8 0, .int .u8 0, .int .u8 0, .int .u8 0] 22)).cell? ⟨w.heap.size, 11, none⟩ = some (.int .u8 (d11 : Int)) := S10.r.cell 11
  obtain ⟨y0, y1, y2, y3, y4, y5⟩ := SixBlk.cells X10
  have heq2 := eq22 d6 d7 d8 d9 d10 d11
  have HS := Lib.hid S10
  clear S8 X8 S10 X10 b10
  go_wp2_with fail
  have S10 := HS.out
  clear HS x0 x1 x2 x3 x4 x5 y0 y1 y2 y3 y4 y5 heq2
  generalize (W10.alloc (.cells #[.int .u8 0, .int .u8 0, .int .u8 0, .int .u8 0, .int .u8 0, .int .u8 0] 22)) = W11 at *
  refine (known_any _ (HEn.out.below S10.b)).mono ?_
  rintro e w9 ⟨rfl, b9⟩
  have b10 := S10.b.trans (b9.mono S10.b.size)
  clear b9
  go_wp2_with fail
  go_ret
  exact ⟨rfl, b10⟩
set_option maxHeartbeats 2000000 in
set_option maxRecDepth 100000 in
theorem back_BNS (d0 d1 d2 d3 d4 d5 d6 d7 d8 d9 d10 d11 : Nat) (t : Int) (hd : d0 < 256 ∧ d1 < 256 ∧ d2 < 256 ∧ d3 < 256 ∧ d4 < 256 ∧ d5 < 256 ∧ d6 < 256 ∧ d7 < 256 ∧ d8 < 256 ∧ d9 < 256 ∧ d10 < 256 ∧ d11 < 256) (ht0 : 0 ≤ t) (ht1 : t ≤ 65535) (o : Option Addr) (n c : Nat) (xs : List Int) (s : ByteArray) (x : Six) (w : World) (hx : xs.length = n) (h1 : n ≤ 1586) (hf : ¬ fits xs) (hpv : pv s (some x)) (hs : s.size ≤ 100) (hp : Pay w o xs) (hb : Bs xs) (hn : o = none → c = 0) (hnc : n ≤ c) (hE : Env w) :
    Calls Tryd.prog 5 #[.agg #[.int .u8 (d0 : Int), .int .u8 (d1 : Int), .int .u8 (d2 : Int), .int .u8 (d3 : Int), .int .u8 (d4 : Int), .int .u8 (d5 : Int), .int .u8 (d6 : Int), .int .u8 (d7 : Int), .int .u8 (d8 : Int), .int .u8 (d9 : Int), .int .u8 (d10 : Int), .int .u8 (d11 : Int), .int .u16 t], .slice o n c, .string s] w fun e w' => e = .returned (.bool true) ∧ Below w.heap.size w w' := by
  have bs : (n : Int) ≤ 4000 := by omega
  have b2 : (s.size : Int) ≤ 100 := by omega
  have b3 : (n : Int) ≤ 1646 := by omega
  have b4 : 14 + (n : Int) ≤ 1600 := by omega
  have hK : wrK xs = 0 := by unfold wrK; rw [if_pos (by omega)]
  have hwp : wrP (d0 : Int) (d1 : Int) (d2 : Int) (d3 : Int) (d4 : Int) (d5 : Int) (d6 : Int) (d7 : Int) (d8 : Int) (d9 : Int) (d10 : Int) (d11 : Int) t xs = hb14 (d0 : Int) (d1 : Int) (d2 : Int) (d3 : Int) (d4 : Int) (d5 : Int) (d6 : Int) (d7 : Int) (d8 : Int) (d9 : Int) (d10 : Int) (d11 : Int) t ++ xs := by unfold wrP; rw [if_pos (by omega)]
  have HX := Lib.hid hx
  have HB := Lib.hid hb
  have HD := Lib.hid hd
  have HEn := Lib.hid hE
  have HPV := Lib.hid hpv
  have HL : Hid (∀ b, o = some b → 0 < xs.length → b.block < w.heap.size) := fun b hb h0 => by subst hb; exact At.lt hp h0
  have HS0 : Hid (WrS w (w.alloc (.cells #[.int .u8 (d0 : Int), .int .u8 (d1 : Int), .int .u8 (d2 : Int), .int .u8 (d3 : Int), .int .u8 (d4 : Int), .int .u8 (d5 : Int), .int .u8 (d6 : Int), .int .u8 (d7 : Int), .int .u8 (d8 : Int), .int .u8 (d9 : Int), .int .u8 (d10 : Int), .int .u8 (d11 : Int), .int .u16 t] 31)) w.heap.size #[.int .u8 (d0 : Int), .int .u8 (d1 : Int), .int .u8 (d2 : Int), .int .u8 (d3 : Int), .int .u8 (d4 : Int), .int .u8 (d5 : Int), .int .u8 (d6 : Int), .int .u8 (d7 : Int), .int .u8 (d8 : Int), .int .u8 (d9 : Int), .int .u8 (d10 : Int), .int .u8 (d11 : Int), .int .u16 t] o xs) := ⟨Blk.new w 31 _, hp.below ((Below.refl _ w).alloc (Nat.le_refl _) (.cells #[.int .u8 (d0 : Int), .int .u8 (d1 : Int), .int .u8 (d2 : Int), .int .u8 (d3 : Int), .int .u8 (d4 : Int), .int .u8 (d5 : Int), .int .u8 (d6 : Int), .int .u8 (d7 : Int), .int .u8 (d8 : Int), .int .u8 (d9 : Int), .int .u8 (d10 : Int), .int .u8 (d11 : Int), .int .u16 t] 31)) HL.out, (Below.refl _ _).alloc (Nat.le_refl _) _, rfl, HL.out⟩
  have heq := eq31g (d0 : Int) (d1 : Int) (d2 : Int) (d3 : Int) (d4 : Int) (d5 : Int) (d6 : Int) (d7 : Int) (d8 : Int) (d9 : Int) (d10 : Int) (d11 : Int) t
  have HK := Lib.hid hK
  clear hx hb hd hE hpv hp hK
  go_enter Tryd.func5, Tryd.ntmps5
  go_wp2_with fail
  have S0 := HS0.out
  clear HS0
  generalize (w.alloc (.cells #[.int .u8 (d0 : Int), .int .u8 (d1 : Int), .int .u8 (d2 : Int), .int .u8 (d3 : Int), .int .u8 (d4 : Int), .int .u8 (d5 : Int), .int .u8 (d6 : Int), .int .u8 (d7 : Int), .int .u8 (d8 : Int), .int .u8 (d9 : Int), .int .u8 (d10 : Int), .int .u8 (d11 : Int), .int .u16 t] 31)) = W0 at *
  refine (write_all (d0 : Int) (d1 : Int) (d2 : Int) (d3 : Int) (d4 : Int) (d5 : Int) (d6 : Int) (d7 : Int) (d8 : Int) (d9 : Int) (d10 : Int) (d11 : Int) t ht0 ht1 o n c xs _ HX.out S0.p hn).mono ?_
  rintro e W1 ⟨vu, rfl, ou, b1⟩
  have S1 := S0.below b1
  rw [HK.out]
  clear S0 b1
  have hl : (wrP (d0 : Int) (d1 : Int) (d2 : Int) (d3 : Int) (d4 : Int) (d5 : Int) (d6 : Int) (d7 : Int) (d8 : Int) (d9 : Int) (d10 : Int) (d11 : Int) t xs).length = 14 + n := by rw [hwp, List.length_append, HX.out]; rfl
  rw [hl, hwp] at ou
  obtain ⟨uo, uc, rfl, pu, lu, ucn, _⟩ := own_pay ou
  clear hl hwp ou
  have b5 : (14 : Int) + (n : Int) ≤ 100000 := by omega
  go_wp2_with fail
  refine (read_all uo (14 + n) uc (hb14 (d0 : Int) (d1 : Int) (d2 : Int) (d3 : Int) (d4 : Int) (d5 : Int) (d6 : Int) (d7 : Int) (d8 : Int) (d9 : Int) (d10 : Int) (d11 : Int) t ++ xs) _ lu pu (Bs_wr d0 d1 d2 d3 d4 d5 d6 d7 d8 d9 d10 d11 t xs HD.out ht0 ht1 HB.out) ucn).mono ?_
  rintro e W2 ⟨vp, rfl, op, b2'⟩
  obtain ⟨q1, q2, q3⟩ := rd_wr (d0 : Int) (d1 : Int) (d2 : Int) (d3 : Int) (d4 : Int) (d5 : Int) (d6 : Int) (d7 : Int) (d8 : Int) (d9 : Int) (d10 : Int) (d11 : Int) t xs (by have := HX.out; omega)
  rw [q2] at op
  rw [q1, q3]
  have S2 := (S1.below b2').alloc (.cells #[.int .u8 (d0 : Int), .int .u8 (d1 : Int), .int .u8 (d2 : Int), .int .u8 (d3 : Int), .int .u8 (d4 : Int), .int .u8 (d5 : Int), .int .u8 (d6 : Int), .int .u8 (d7 : Int), .int .u8 (d8 : Int), .int .u8 (d9 : Int), .int .u8 (d10 : Int), .int .u8 (d11 : Int), .int .u16 t] 31)
  have hcp := conv_own (op.alloc (.cells #[.int .u8 (d0 : Int), .int .u8 (d1 : Int), .int .u8 (d2 : Int), .int .u8 (d3 : Int), .int .u8 (d4 : Int), .int .u8 (d5 : Int), .int .u8 (d6 : Int), .int .u8 (d7 : Int), .int .u8 (d8 : Int), .int .u8 (d9 : Int), .int .u8 (d10 : Int), .int .u8 (d11 : Int), .int .u16 t] 31))
  have hcb := conv_pay (c := c) HX.out S2.p
  obtain ⟨Y, hYY⟩ : ∃ Y, strOfNums xs = Y := ⟨_, rfl⟩
  rw [hYY] at hcp hcb
  have s1 : (Y.toList == Y.toList) = true := by simp
  have s2 : (Y.toList != Y.toList) = false := by simp
  obtain ⟨y0, y1, y2, y3, y4, y5, y6, y7, y8, y9, y10, y11, y12⟩ := c13 S2.r
  have HS := Lib.hid S2
  clear S1 S2 op b2' hYY q1 q2 q3 pu lu
  go_wp2_with fail
  have S1 := HS.out
  clear HS hcp hcb s1 s2 y0 y1 y2 y3 y4 y5 y6 y7 y8 y9 y10 y11 y12
  generalize W2.alloc (.cells #[.int .u8 (d0 : Int), .int .u8 (d1 : Int), .int .u8 (d2 : Int), .int .u8 (d3 : Int), .int .u8 (d4 : Int), .int .u8 (d5 : Int), .int .u8 (d6 : Int), .int .u8 (d7 : Int), .int .u8 (d8 : Int), .int .u8 (d9 : Int), .int .u8 (d10 : Int), .int .u8 (d11 : Int), .int .u16 t] 31) = W2' at *
  refine (read_all o n c xs _ HX.out S1.p HB.out hnc).mono ?_
  rintro e W3 ⟨vq, rfl, oq, b3'⟩
  have S3 := (S1.below b3').alloc (.cells #[.int .u8 (rh xs 0), .int .u8 (rh xs 1), .int .u8 (rh xs 2), .int .u8 (rh xs 3), .int .u8 (rh xs 4), .int .u8 (rh xs 5), .int .u8 (rh xs 6), .int .u8 (rh xs 7), .int .u8 (rh xs 8), .int .u8 (rh xs 9), .int .u8 (rh xs 10), .int .u8 (rh xs 11), .int .u16 (rt xs)] 31)
  unfold rdV
  obtain ⟨K, hKK⟩ : ∃ K, rdK xs = K := ⟨_, rfl⟩
  have hK0 : (K == 0) = false := by rw [← hKK]; exact rdK_no hf
  rw [hKK]
  have x0 : (W3.alloc (.cells #[.int .u8 (rh xs 0), .int .u8 (rh xs 1), .int .u8 (rh xs 2), .int .u8 (rh xs 3), .int .u8 (rh xs 4), .int .u8 (rh xs 5), .int .u8 (rh xs 6), .int .u8 (rh xs 7), .int .u8 (rh xs 8), .int .u8 (rh xs 9), .int .u8 (rh xs 10), .int .u8 (rh xs 11), .int .u16 (rt xs)] 31)).cell? ⟨w.heap.size, 6, none⟩ = some (.int .u8 (d6 : Int)) := S3.r.cell 6
  have x1 : (W3.alloc (.cells #[.int .u8 (rh xs 0), .int .u8 (rh xs 1), .int .u8 (rh xs 2), .int .u8 (rh xs 3), .int .u8 (rh xs 4), .int .u8 (rh xs 5), .int .u8 (rh xs 6), .int .u8 (rh xs 7), .int .u8 (rh xs 8), .int .u8 (rh xs 9), .int .u8 (rh xs 10), .int .u8 (rh xs 11), .int .u16 (rt xs)] 31)).cell? ⟨w.heap.size, 7, none⟩ = some (.int .u8 (d7 : Int)) := S3.r.cell 7
  have x2 : (W3.alloc (.cells #[.int .u8 (rh xs 0), .int .u8 (rh xs 1), .int .u8 (rh xs 2), .int .u8 (rh xs 3), .int .u8 (rh xs 4), .int .u8 (rh xs 5), .int .u8 (rh xs 6), .int .u8 (rh xs 7), .int .u8 (rh xs 8), .int .u8 (rh xs 9), .int .u8 (rh xs 10), .int .u8 (rh xs 11), .int .u16 (rt xs)] 31)).cell? ⟨w.heap.size, 8, none⟩ = some (.int .u8 (d8 : Int)) := S3.r.cell 8
  have x3 : (W3.alloc (.cells #[.int .u8 (rh xs 0), .int .u8 (rh xs 1), .int .u8 (rh xs 2), .int .u8 (rh xs 3), .int .u8 (rh xs 4), .int .u8 (rh xs 5), .int .u8 (rh xs 6), .int .u8 (rh xs 7), .int .u8 (rh xs 8), .int .u8 (rh xs 9), .int .u8 (rh xs 10), .int .u8 (rh xs 11), .int .u16 (rt xs)] 31)).cell? ⟨w.heap.size, 9, none⟩ = some (.int .u8 (d9 : Int)) := S3.r.cell 9
  have x4 : (W3.alloc (.cells #[.int .u8 (rh xs 0), .int .u8 (rh xs 1), .int .u8 (rh xs 2), .int .u8 (rh xs 3), .int .u8 (rh xs 4), .int .u8 (rh xs 5), .int .u8 (rh xs 6), .int .u8 (rh xs 7), .int .u8 (rh xs 8), .int .u8 (rh xs 9), .int .u8 (rh xs 10), .int .u8 (rh xs 11), .int .u16 (rt xs)] 31)).cell? ⟨w.heap.size, 10, none⟩ = some (.int .u8 (d10 : Int)) := S3.r.cell 10
  have x5 : (W3.alloc (.cells #[.int .u8 (rh xs 0), .int .u8 (rh xs 1), .int .u8 (rh xs 2), .int .u8 (rh xs 3), .int .u8 (rh xs 4), .int .u8 (rh xs 5), .int .u8 (rh xs 6), .int .u8 (rh xs 7), .int .u8 (rh xs 8), .int .u8 (rh xs 9), .int .u8 (rh xs 10), .int .u8 (rh xs 11), .int .u16 (rt xs)] 31)).cell? ⟨w.heap.size, 11, none⟩ = some (.int .u8 (d11 : Int)) := S3.r.cell 11
  have HS := Lib.hid S3
  clear S1 S3 oq b3' hKK
  go_wp2_with fail
  have S5 := HS.out
  clear HS x0 x1 x2 x3 x4 x5 hK0
  generalize W3.alloc (.cells #[.int .u8 (rh xs 0), .int .u8 (rh xs 1), .int .u8 (rh xs 2), .int .u8 (rh xs 3), .int .u8 (rh xs 4), .int .u8 (rh xs 5), .int .u8 (rh xs 6), .int .u8 (rh xs 7), .int .u8 (rh xs 8), .int .u8 (rh xs 9), .int .u8 (rh xs 10), .int .u8 (rh xs 11), .int .u16 (rt xs)] 31) = W6 at *
  obtain ⟨_, _, _, _, _, _, u6, u7, u8, u9, u10, u11⟩ := HD.out
  refine (text_any d6 d7 d8 d9 d10 d11 _ (HEn.out.below S5.b) u6 u7 u8 u9 u10 u11).mono ?_
  rintro e W7 ⟨rfl, b7⟩
  have S7 := S5.below b7
  clear S5 b7
  obtain ⟨TX, hTX⟩ : ∃ TX, txt ⟨d6, d7, d8, d9, d10, d11⟩ = TX := ⟨_, rfl⟩
  rw [hTX]
  have HTX := Lib.hid hTX
  clear hTX
  go_wp2_with fail
  refine (parse_pv TX (some ⟨d6, d7, d8, d9, d10, d11⟩) _ ⟨⟨u6, u7, u8, u9, u10, u11⟩, HTX.out.symm⟩ (by rw [← HTX.out]; show (txt _).size ≤ 1000; rw [txt_size]; decide) (HEn.out.below S7.b)).mono ?_
  rintro e W8 ⟨rfl, b8⟩
  have S8 := (S7.below b8).alloc (.cells #[.int .u8 (d6 : Int), .int .u8 (d7 : Int), .int .u8 (d8 : Int), .int .u8 (d9 : Int), .int .u8 (d10 : Int), .int .u8 (d11 : Int)] 22)
  have X8 : Blk (W8.alloc (.cells #[.int .u8 (d6 : Int), .int .u8 (d7 : Int), .int .u8 (d8 : Int), .int .u8 (d9 : Int), .int .u8 (d10 : Int), .int .u8 (d11 : Int)] 22)) W8.heap.size 22 #[.int .u8 (d6 : Int), .int .u8 (d7 : Int), .int .u8 (d8 : Int), .int .u8 (d9 : Int), .int .u8 (d10 : Int), .int .u8 (d11 : Int)] := Blk.new _ _ _
  have HS := Lib.hid (And.intro S8 X8)
  clear S7 S8 X8 b8
  unfold pr Six.vals
  go_wp2_with fail
  obtain ⟨S8, X8⟩ := HS.out
  clear HS
  generalize (W8.alloc (.cells #[.int .u8 (d6 : Int), .int .u8 (d7 : Int), .int .u8 (d8 : Int), .int .u8 (d9 : Int), .int .u8 (d10 : Int), .int .u8 (d11 : Int)] 22)) = W9 at *
  generalize W8.heap.size = N8 at *
  refine (parse_pv s (some x) _ HPV.out (by omega) (HEn.out.below S8.b)).mono ?_
  rintro e W10 ⟨rfl, b10⟩
  unfold pr Six.vals
  have S10 := (S8.below b10).alloc (.cells #[.int .u8 (x.a : Int), .int .u8 (x.b : Int), .int .u8 (x.c : Int), .int .u8 (x.d : Int), .int .u8 (x.e : Int), .int .u8 (x.f : Int)] 22)
  have X10 := (X8.below b10 X8.lt).alloc (.cells #[.int .u8 (x.a : Int), .int .u8 (x.b : Int), .int .u8 (x.c : Int), .int .u8 (x.d : Int), .int .u8 (x.e : Int), .int .u8 (x.f : Int)] 22)
  have x0 : (W10.alloc (.cells #[.int .u8 (x.a : Int), .int .u8 (x.b : Int), .int .u8 (x.c : Int), .int .u8 (x.d : Int), .int .u8 (x.e : Int), .int .u8 (x.f : Int)] 22)).cell? ⟨w.heap.size, 6, none⟩ = some (.int .u8 (d6 : Int)) := S10.r.cell 6
  have x1 : (W10.alloc (.cells #[.int .u8 (x.a : Int), .int .u8 (x.b : Int), .int .u8 (x.c : Int), .int .u8 (x.d : Int), .int .u8 (x.e : Int), .int .u8 (x.f : Int)] 22)).cell? ⟨w.heap.size, 7, none⟩ = some (.int .u8 (d7 : Int)) := S10.r.cell 7
  have x2 : (W10.alloc (.cells #[.int .u8 (x.a : Int), .int .u8 (x.b : Int), .int .u8 (x.c : Int), .int .u8 (x.d : Int), .int .u8 (x.e : Int), .int .u8 (x.f : Int)] 22)).cell? ⟨w.heap.size, 8, none⟩ = some (.int .u8 (d8 : Int)) := S10.r.cell 8
  have x3 : (W10.alloc (.cells #[.int .u8 (x.a : Int), .int .u8 (x.b : Int), .int .u8 (x.c : Int), .int .u8 (x.d : Int), .int .u8 (x.e : Int), .int .u8 (x.f : Int)] 22)).cell? ⟨w.heap.size, 9, none⟩ = some (.int .u8 (d9 : Int)) := S10.r.cell 9
  have x4 : (W10.alloc (.cells #[.int .u8 (x.a : Int), .int .u8 (x.b : Int), .int .u8 (x.c : Int), .int .u8 (x.d : Int), .int .u8 (x.e : Int), .int .u8 (x.f : Int)] 22)).cell? ⟨w.heap.size, 10, none⟩ = some (.int .u8 (d10 : Int)) := S10.r.cell 10
  have x5 : (W10.alloc (.cells #[.int .u8 (x.a : Int), .int .u8 (x.b : Int), .int .u8 (x.c : Int), .int .u8 (x.d : Int), .int .u8 (x.e : Int), .int .u8 (x.f : Int)] 22)).cell? ⟨w.heap.size, 11, none⟩ = some (.int .u8 (d11 : Int)) := S10.r.cell 11
  obtain ⟨y0, y1, y2, y3, y4, y5⟩ := SixBlk.cells X10
  have heq2 := eq22 d6 d7 d8 d9 d10 d11
  have HS := Lib.hid S10
  clear S8 X8 S10 X10 b10
  go_wp2_with fail
  have S10 := HS.out
  clear HS x0 x1 x2 x3 x4 x5 y0 y1 y2 y3 y4 y5 heq2
  generalize (W10.alloc (.cells #[.int .u8 (x.a : Int), .int .u8 (x.b : Int), .int .u8 (x.c : Int), .int .u8 (x.d : Int), .int .u8 (x.e : Int), .int .u8 (x.f : Int)] 22)) = W11 at *
  obtain ⟨⟨v0, v1, v2, v3, v4, v5⟩, hst⟩ := HPV.out
  refine (text_any x.a x.b x.c x.d x.e x.f _ (HEn.out.below S10.b) v0 v1 v2 v3 v4 v5).mono ?_
  rintro e W12 ⟨rfl, b12⟩
  have S12 := S10.below b12
  rw [show txt ⟨x.a, x.b, x.c, x.d, x.e, x.f⟩ = s from hst.symm]
  have s1 : (s.toList == s.toList) = true := by simp
  clear S10 b12
  go_wp2_with fail
  refine (known_any _ (HEn.out.below S12.b)).mono ?_
  rintro e w9 ⟨rfl, b9⟩
  have b10 := S12.b.trans (b9.mono S12.b.size)
  clear b9
  go_wp2_with fail
  go_ret
  exact ⟨rfl, b10⟩
set_option maxHeartbeats 2000000 in
set_option maxRecDepth 100000 in
theorem back_BNN (d0 d1 d2 d3 d4 d5 d6 d7 d8 d9 d10 d11 : Nat) (t : Int) (hd : d0 < 256 ∧ d1 < 256 ∧ d2 < 256 ∧ d3 < 256 ∧ d4 < 256 ∧ d5 < 256 ∧ d6 < 256 ∧ d7 < 256 ∧ d8 < 256 ∧ d9 < 256 ∧ d10 < 256 ∧ d11 < 256) (ht0 : 0 ≤ t) (ht1 : t ≤ 65535) (o : Option Addr) (n c : Nat) (xs : List Int) (s : ByteArray) (w : World) (hx : xs.length = n) (h1 : n ≤ 1586) (hf : ¬ fits xs) (hpv : pv s none) (hs : s.size ≤ 100) (hp : Pay w o xs) (hb : Bs xs) (hn : o = none → c = 0) (hnc : n ≤ c) (hE : Env w) :
    Calls Tryd.prog 5 #[.agg #[.int .u8 (d0 : Int), .int .u8 (d1 : Int), .int .u8 (d2 : Int), .int .u8 (d3 : Int), .int .u8 (d4 : Int), .int .u8 (d5 : Int), .int .u8 (d6 : Int), .int .u8 (d7 : Int), .int .u8 (d8 : Int), .int .u8 (d9 : Int), .int .u8 (d10 : Int), .int .u8 (d11 : Int), .int .u16 t], .slice o n c, .string s] w fun e w' => e = .returned (.bool true) ∧ Below w.heap.size w w' := by
  have bs : (n : Int) ≤ 4000 := by omega
  have b2 : (s.size : Int) ≤ 100 := by omega
  have b3 : (n : Int) ≤ 1646 := by omega
  have b4 : 14 + (n : Int) ≤ 1600 := by omega
  have hK : wrK xs = 0 := by unfold wrK; rw [if_pos (by omega)]
  have hwp : wrP (d0 : Int) (d1 : Int) (d2 : Int) (d3 : Int) (d4 : Int) (d5 : Int) (d6 : Int) (d7 : Int) (d8 : Int) (d9 : Int) (d10 : Int) (d11 : Int) t xs = hb14 (d0 : Int) (d1 : Int) (d2 : Int) (d3 : Int) (d4 : Int) (d5 : Int) (d6 : Int) (d7 : Int) (d8 : Int) (d9 : Int) (d10 : Int) (d11 : Int) t ++ xs := by unfold wrP; rw [if_pos (by omega)]
  have HX := Lib.hid hx
  have HB := Lib.hid hb
  have HD := Lib.hid hd
  have HEn := Lib.hid hE
  have HPV := Lib.hid hpv
  have HL : Hid (∀ b, o = some b → 0 < xs.length → b.block < w.heap.size) := fun b hb h0 => by subst hb; exact At.lt hp h0
  have HS0 : Hid (WrS w (w.alloc (.cells #[.int .u8 (d0 : Int), .int .u8 (d1 : Int), .int .u8 (d2 : Int), .int .u8 (d3 : Int), .int .u8 (d4 : Int), .int .u8 (d5 : Int), .int .u8 (d6 : Int), .int .u8 (d7 : Int), .int .u8 (d8 : Int), .int .u8 (d9 : Int), .int .u8 (d10 : Int), .int .u8 (d11 : Int), .int .u16 t] 31)) w.heap.size #[.int .u8 (d0 : Int), .int .u8 (d1 : Int), .int .u8 (d2 : Int), .int .u8 (d3 : Int), .int .u8 (d4 : Int), .int .u8 (d5 : Int), .int .u8 (d6 : Int), .int .u8 (d7 : Int), .int .u8 (d8 : Int), .int .u8 (d9 : Int), .int .u8 (d10 : Int), .int .u8 (d11 : Int), .int .u16 t] o xs) := ⟨Blk.new w 31 _, hp.below ((Below.refl _ w).alloc (Nat.le_refl _) (.cells #[.int .u8 (d0 : Int), .int .u8 (d1 : Int), .int .u8 (d2 : Int), .int .u8 (d3 : Int), .int .u8 (d4 : Int), .int .u8 (d5 : Int), .int .u8 (d6 : Int), .int .u8 (d7 : Int), .int .u8 (d8 : Int), .int .u8 (d9 : Int), .int .u8 (d10 : Int), .int .u8 (d11 : Int), .int .u16 t] 31)) HL.out, (Below.refl _ _).alloc (Nat.le_refl _) _, rfl, HL.out⟩
  have heq := eq31g (d0 : Int) (d1 : Int) (d2 : Int) (d3 : Int) (d4 : Int) (d5 : Int) (d6 : Int) (d7 : Int) (d8 : Int) (d9 : Int) (d10 : Int) (d11 : Int) t
  have HK := Lib.hid hK
  clear hx hb hd hE hpv hp hK
  go_enter Tryd.func5, Tryd.ntmps5
  go_wp2_with fail
  have S0 := HS0.out
  clear HS0
  generalize (w.alloc (.cells #[.int .u8 (d0 : Int), .int .u8 (d1 : Int), .int .u8 (d2 : Int), .int .u8 (d3 : Int), .int .u8 (d4 : Int), .int .u8 (d5 : Int), .int .u8 (d6 : Int), .int .u8 (d7 : Int), .int .u8 (d8 : Int), .int .u8 (d9 : Int), .int .u8 (d10 : Int), .int .u8 (d11 : Int), .int .u16 t] 31)) = W0 at *
  refine (write_all (d0 : Int) (d1 : Int) (d2 : Int) (d3 : Int) (d4 : Int) (d5 : Int) (d6 : Int) (d7 : Int) (d8 : Int) (d9 : Int) (d10 : Int) (d11 : Int) t ht0 ht1 o n c xs _ HX.out S0.p hn).mono ?_
  rintro e W1 ⟨vu, rfl, ou, b1⟩
  have S1 := S0.below b1
  rw [HK.out]
  clear S0 b1
  have hl : (wrP (d0 : Int) (d1 : Int) (d2 : Int) (d3 : Int) (d4 : Int) (d5 : Int) (d6 : Int) (d7 : Int) (d8 : Int) (d9 : Int) (d10 : Int) (d11 : Int) t xs).length = 14 + n := by rw [hwp, List.length_append, HX.out]; rfl
  rw [hl, hwp] at ou
  obtain ⟨uo, uc, rfl, pu, lu, ucn, _⟩ := own_pay ou
  clear hl hwp ou
  have b5 : (14 : Int) + (n : Int) ≤ 100000 := by omega
  go_wp2_with fail
  refine (read_all uo (14 + n) uc (hb14 (d0 : Int) (d1 : Int) (d2 : Int) (d3 : Int) (d4 : Int) (d5 : Int) (d6 : Int) (d7 : Int) (d8 : Int) (d9 : Int) (d10 : Int) (d11 : Int) t ++ xs) _ lu pu (Bs_wr d0 d1 d2 d3 d4 d5 d6 d7 d8 d9 d10 d11 t xs HD.out ht0 ht1 HB.out) ucn).mono ?_
  rintro e W2 ⟨vp, rfl, op, b2'⟩
  obtain ⟨q1, q2, q3⟩ := rd_wr (d0 : Int) (d1 : Int) (d2 : Int) (d3 : Int) (d4 : Int) (d5 : Int) (d6 : Int) (d7 : Int) (d8 : Int) (d9 : Int) (d10 : Int) (d11 : Int) t xs (by have := HX.out; omega)
  rw [q2] at op
  rw [q1, q3]
  have S2 := (S1.below b2').alloc (.cells #[.int .u8 (d0 : Int), .int .u8 (d1 : Int), .int .u8 (d2 : Int), .int .u8 (d3 : Int), .int .u8 (d4 : Int), .int .u8 (d5 : Int), .int .u8 (d6 : Int), .int .u8 (d7 : Int), .int .u8 (d8 : Int), .int .u8 (d9 : Int), .int .u8 (d10 : Int), .int .u8 (d11 : Int), .int .u16 t] 31)
  have hcp := conv_own (op.alloc (.cells #[.int .u8 (d0 : Int), .int .u8 (d1 : Int), .int .u8 (d2 : Int), .int .u8 (d3 : Int), .int .u8 (d4 : Int), .int .u8 (d5 : Int), .int .u8 (d6 : Int), .int .u8 (d7 : Int), .int .u8 (d8 : Int), .int .u8 (d9 : Int), .int .u8 (d10 : Int), .int .u8 (d11 : Int), .int .u16 t] 31))
  have hcb := conv_pay (c := c) HX.out S2.p
  obtain ⟨Y, hYY⟩ : ∃ Y, strOfNums xs = Y := ⟨_, rfl⟩
  rw [hYY] at hcp hcb
  have s1 : (Y.toList == Y.toList) = true := by simp
  have s2 : (Y.toList != Y.toList) = false := by simp
  obtain ⟨y0, y1, y2, y3, y4, y5, y6, y7, y8, y9, y10, y11, y12⟩ := c13 S2.r
  have HS := Lib.hid S2
  clear S1 S2 op b2' hYY q1 q2 q3 pu lu
  go_wp2_with fail
  have S1 := HS.out
  clear HS hcp hcb s1 s2 y0 y1 y2 y3 y4 y5 y6 y7 y8 y9 y10 y11 y12
  generalize W2.alloc (.cells #[.int .u8 (d0 : Int), .int .u8 (d1 : Int), .int .u8 (d2 : Int), .int .u8 (d3 : Int), .int .u8 (d4 : Int), .int .u8 (d5 : Int), .int .u8 (d6 : Int), .int .u8 (d7 : Int), .int .u8 (d8 : Int), .int .u8 (d9 : Int), .int .u8 (d10 : Int), .int .u8 (d11 : Int), .int .u16 t] 31) = W2' at *
  refine (read_all o n c xs _ HX.out S1.p HB.out hnc).mono ?_
  rintro e W3 ⟨vq, rfl, oq, b3'⟩
  have S3 := (S1.below b3').alloc (.cells #[.int .u8 (rh xs 0), .int .u8 (rh xs 1), .int .u8 (rh xs 2), .int .u8 (rh xs 3), .int .u8 (rh xs 4), .int .u8 (rh xs 5), .int .u8 (rh xs 6), .int .u8 (rh xs 7), .int .u8 (rh xs 8), .int .u8 (rh xs 9), .int .u8 (rh xs 10), .int .u8 (rh xs 11), .int .u16 (rt xs)] 31)
  unfold rdV
  obtain ⟨K, hKK⟩ : ∃ K, rdK xs = K := ⟨_, rfl⟩
  have hK0 : (K == 0) = false := by rw [← hKK]; exact rdK_no hf
  rw [hKK]
  have x0 : (W3.alloc (.cells #[.int .u8 (rh xs 0), .int .u8 (rh xs 1), .int .u8 (rh xs 2), .int .u8 (rh xs 3), .int .u8 (rh xs 4), .int .u8 (rh xs 5), .int .u8 (rh xs 6), .int .u8 (rh xs 7), .int .u8 (rh xs 8), .int .u8 (rh xs 9), .int .u8 (rh xs 10), .int .u8 (rh xs 11), .int .u16 (rt xs)] 31)).cell? ⟨w.heap.size, 6, none⟩ = some (.int .u8 (d6 : Int)) := S3.r.cell 6
  have x1 : (W3.alloc (.cells #[.int .u8 (rh xs 0), .int .u8 (rh xs 1), .int .u8 (rh xs 2), .int .u8 (rh xs 3), .int .u8 (rh xs 4), .int .u8 (rh xs 5), .int .u8 (rh xs 6), .int .u8 (rh xs 7), .int .u8 (rh xs 8), .int .u8 (rh xs 9), .int .u8 (rh xs 10), .int .u8 (rh xs 11), .int .u16 (rt xs)] 31)).cell? ⟨w.heap.size, 7, none⟩ = some (.int .u8 (d7 : Int)) := S3.r.cell 7
  have x2 : (W3.alloc (.cells #[.int .u8 (rh xs 0), .int .u8 (rh xs 1), .int .u8 (rh xs 2), .int .u8 (rh xs 3), .int .u8 (rh xs 4), .int .u8 (rh xs 5), .int .u8 (rh xs 6), .int .u8 (rh xs 7), .int .u8 (rh xs 8), .int .u8 (rh xs 9), .int .u8 (rh xs 10), .int .u8 (rh xs 11), .int .u16 (rt xs)] 31)).cell? ⟨w.heap.size, 8, none⟩ = some (.int .u8 (d8 : Int)) := S3.r.cell 8
  have x3 : (W3.alloc (.cells #[.int .u8 (rh xs 0), .int .u8 (rh xs 1), .int .u8 (rh xs 2), .int .u8 (rh xs 3), .int .u8 (rh xs 4), .int .u8 (rh xs 5), .int .u8 (rh xs 6), .int .u8 (rh xs 7), .int .u8 (rh xs 8), .int .u8 (rh xs 9), .int .u8 (rh xs 10), .int .u8 (rh xs 11), .int .u16 (rt xs)] 31)).cell? ⟨w.heap.size, 9, none⟩ = some (.int .u8 (d9 : Int)) := S3.r.cell 9
  have x4 : (W3.alloc (.cells #[.int .u8 (rh xs 0), .int .u8 (rh xs 1), .int .u8 (rh xs 2), .int .u8 (rh xs 3), .int .u8 (rh xs 4), .int .u8 (rh xs 5), .int .u8 (rh xs 6), .int .u8 (rh xs 7), .int .u8 (rh xs 8), .int .u8 (rh xs 9), .int .u8 (rh xs 10), .int .u8 (rh xs 11), .int .u16 (rt xs)] 31)).cell? ⟨w.heap.size, 10, none⟩ = some (.int .u8 (d10 : Int)) := S3.r.cell 10
  have x5 : (W3.alloc (.cells #[.int .u8 (rh xs 0), .int .u8 (rh xs 1), .int .u8 (rh xs 2), .int .u8 (rh xs 3), .int .u8 (rh xs 4), .int .u8 (rh xs 5), .int .u8 (rh xs 6), .int .u8 (rh xs 7), .int .u8 (rh xs 8), .int .u8 (rh xs 9), .int .u8 (rh xs 10), .int .u8 (rh xs 11), .int .u16 (rt xs)] 31)).cell? ⟨w.heap.size, 11, none⟩ = some (.int .u8 (d11 : Int)) := S3.r.cell 11
  have HS := Lib.hid S3
  clear S1 S3 oq b3' hKK
  go_wp2_with fail
  have S5 := HS.out
  clear HS x0 x1 x2 x3 x4 x5 hK0
  generalize W3.alloc (.cells #[.int .u8 (rh xs 0), .int .u8 (rh xs 1), .int .u8 (rh xs 2), .int .u8 (rh xs 3), .int .u8 (rh xs 4), .int .u8 (rh xs 5), .int .u8 (rh xs 6), .int .u8 (rh xs 7), .int .u8 (rh xs 8), .int .u8 (rh xs 9), .int .u8 (rh xs 10), .int .u8 (rh xs 11), .int .u16 (rt xs)] 31) = W6 at *
  obtain ⟨_, _, _, _, _, _, u6, u7, u8, u9, u10, u11⟩ := HD.out
  refine (text_any d6 d7 d8 d9 d10 d11 _ (HEn.out.below S5.b) u6 u7 u8 u9 u10 u11).mono ?_
  rintro e W7 ⟨rfl, b7⟩
  have S7 := S5.below b7
  clear S5 b7
  obtain ⟨TX, hTX⟩ : ∃ TX, txt ⟨d6, d7, d8, d9, d10, d11⟩ = TX := ⟨_, rfl⟩
  rw [hTX]
  have HTX := Lib.hid hTX
  clear hTX
  go_wp2_with fail
  refine (parse_pv TX (some ⟨d6, d7, d8, d9, d10, d11⟩) _ ⟨⟨u6, u7, u8, u9, u10, u11⟩, HTX.out.symm⟩ (by rw [← HTX.out]; show (txt _).size ≤ 1000; rw [txt_size]; decide) (HEn.out.below S7.b)).mono ?_
  rintro e W8 ⟨rfl, b8⟩
  have S8 := (S7.below b8).alloc (.cells #[.int .u8 (d6 : Int), .int .u8 (d7 : Int), .int .u8 (d8 : Int), .int .u8 (d9 : Int), .int .u8 (d10 : Int), .int .u8 (d11 : Int)] 22)
  have X8 : Blk (W8.alloc (.cells #[.int .u8 (d6 : Int), .int .u8 (d7 : Int), .int .u8 (d8 : Int), .int .u8 (d9 : Int), .int .u8 (d10 : Int), .int .u8 (d11 : Int)] 22)) W8.heap.size 22 #[.int .u8 (d6 : Int), .int .u8 (d7 : Int), .int .u8 (d8 : Int), .int .u8 (d9 : Int), .int .u8 (d10 : Int), .int .u8 (d11 : Int)] := Blk.new _ _ _
  have HS := Lib.hid (And.intro S8 X8)
  clear S7 S8 X8 b8
  unfold pr Six.vals
  go_wp2_with fail
  obtain ⟨S8, X8⟩ := HS.out
  clear HS
  generalize (W8.alloc (.cells #[.int .u8 (d6 : Int), .int .u8 (d7 : Int), .int .u8 (d8 : Int), .int .u8 (d9 : Int), .int .u8 (d10 : Int), .int .u8 (d11 : Int)] 22)) = W9 at *
  generalize W8.heap.size = N8 at *
  refine (parse_pv s none _ HPV.out (by omega) (HEn.out.below S8.b)).mono ?_
  rintro e W10 ⟨rfl, b10⟩
  unfold pr
  have S10 := (S8.below b10).alloc (.cells #[.int .u8 0, .int .u8 0, .int .u8 0, .int .u8 0, .int .u8 0, .int .u8 0] 22)
  have X10 := (X8.below b10 X8.lt).alloc (.cells #[.int .u8 0, .int .u8 0, .int .u8 0, .int .u8 0, .int .u8 0, .int .u8 0] 22)
  have x0 : (W10.alloc (.cells #[.int .u8 0, .int .u8 0, .int .u8 0, .int .u8 0, .int .u8 0, .int .u8 0] 22)).cell? ⟨w.heap.size, 6, none⟩ = some (.int .u8 (d6 : Int)) := S10.r.cell 6
  have x1 : (W10.alloc (.cells #[.int .u8 0, .int .u8 0, .int .u8 0, .int .u8 0, .int .u8 0, .int .u8 0] 22)).cell? ⟨w.heap.size, 7, none⟩ = some (.int .u8 (d7 : Int)) := S10.r.cell 7
  have x2 : (W10.alloc (.cells #[.int .u8 0, .int .u8 0, .int .u8 0, .int .u8 0, .int .u8 0, .int .u8 0] 22)).cell? ⟨w.heap.size, 8, none⟩ = some (.int .u8 (d8 : Int)) := S10.r.cell 8
  have x3 : (W10.alloc (.cells #[.int .u8 0, .int .u8 0, .int .u8 0, .int .u8 0, .int .u8 0, .int .u8 0] 22)).cell? ⟨w.heap.size, 9, none⟩ = some (.int .u8 (d9 : Int)) := S10.r.cell 9
  have x4 : (W10.alloc (.cells #[.int .u8 0, .int .u8 0, .int .u8 0, .int .u8 0, .int .u8 0, .int .u8 0] 22)).cell? ⟨w.heap.size, 10, none⟩ = some (.int .u8 (d10 : Int)) := S10.r.cell 10
  have x5 : (W10.alloc (.cells #[.int .u8 0, .int .u8 0, .int .u8 0, .int .u8 0, .int .u8 0, .int .u8 0] 22)).cell? ⟨w.heap.size, 11, none⟩ = some (.int .u8 (d11 : Int)) := S10.r.cell 11
  obtain ⟨y0, y1, y2, y3, y4, y5⟩ := SixBlk.cells X10
  have heq2 := eq22 d6 d7 d8 d9 d10 d11
  have HS := Lib.hid S10
  clear S8 X8 S10 X10 b10
  go_wp2_with fail
  have S10 := HS.out
  clear HS x0 x1 x2 x3 x4 x5 y0 y1 y2 y3 y4 y5 heq2
  generalize (W10.alloc (.cells #[.int .u8 0, .int .u8 0, .int .u8 0, .int .u8 0, .int .u8 0, .int .u8 0] 22)) = W11 at *
  refine (known_any _ (HEn.out.below S10.b)).mono ?_
  rintro e w9 ⟨rfl, b9⟩
  have b10 := S10.b.trans (b9.mono S10.b.size)
  clear b9
  go_wp2_with fail
  go_ret
  exact ⟨rfl, b10⟩
set_option maxHeartbeats 2000000 in
set_option maxRecDepth 100000 in
theorem back_CYS (d0 d1 d2 d3 d4 d5 d6 d7 d8 d9 d10 d11 : Nat) (t : Int) (hd : d0 < 256 ∧ d1 < 256 ∧ d2 < 256 ∧ d3 < 256 ∧ d4 < 256 ∧ d5 < 256 ∧ d6 < 256 ∧ d7 < 256 ∧ d8 < 256 ∧ d9 < 256 ∧ d10 < 256 ∧ d11 < 256) (ht0 : 0 ≤ t) (ht1 : t ≤ 65535) (o : Option Addr) (n c : Nat) (xs : List Int) (s : ByteArray) (x : Six) (w : World) (hx : xs.length = n) (h1 : 1586 < n) (h1' : n ≤ 1646) (hf : fits xs) (hpv : pv s (some x)) (hs : s.size ≤ 100) (hp : Pay w o xs) (hb : Bs xs) (hn : o = none → c = 0) (hnc : n ≤ c) (hE : Env w) :
    Calls Tryd.prog 5 #[.agg #[.int .u8 (d0 : Int), .int .u8 (d1 : Int), .int .u8 (d2 : Int), .int .u8 (d3 : Int), .int .u8 (d4 : Int), .int .u8 (d5 : Int), .int .u8 (d6 : Int), .int .u8 (d7 : Int), .int .u8 (d8 : Int), .int .u8 (d9 : Int), .int .u8 (d10 : Int), .int .u8 (d11 : Int), .int .u16 t], .slice o n c, .string s] w fun e w' => e = .returned (.bool true) ∧ Below w.heap.size w w' := by
  have bs : (n : Int) ≤ 4000 := by omega
  have b2 : (s.size : Int) ≤ 100 := by omega
  have b3 : (n : Int) ≤ 1646 := by omega
  have b4 : 1600 < 14 + (n : Int) := by omega
  have hK : wrK xs = 0 := by unfold wrK; rw [if_pos (by omega)]
  have hwp : wrP (d0 : Int) (d1 : Int) (d2 : Int) (d3 : Int) (d4 : Int) (d5 : Int) (d6 : Int) (d7 : Int) (d8 : Int) (d9 : Int) (d10 : Int) (d11 : Int) t xs = hb14 (d0 : Int) (d1 : Int) (d2 : Int) (d3 : Int) (d4 : Int) (d5 : Int) (d6 : Int) (d7 : Int) (d8 : Int) (d9 : Int) (d10 : Int) (d11 : Int) t ++ xs := by unfold wrP; rw [if_pos (by omega)]
  have HX := Lib.hid hx
  have HB := Lib.hid hb
  have HD := Lib.hid hd
  have HEn := Lib.hid hE
  have HPV := Lib.hid hpv
  have HL : Hid (∀ b, o = some b → 0 < xs.length → b.block < w.heap.size) := fun b hb h0 => by subst hb; exact At.lt hp h0
  have HS0 : Hid (WrS w (w.alloc (.cells #[.int .u8 (d0 : Int), .int .u8 (d1 : Int), .int .u8 (d2 : Int), .int .u8 (d3 : Int), .int .u8 (d4 : Int), .int .u8 (d5 : Int), .int .u8 (d6 : Int), .int .u8 (d7 : Int), .int .u8 (d8 : Int), .int .u8 (d9 : Int), .int .u8 (d10 : Int), .int .u8 (d11 : Int), .int .u16 t] 31)) w.heap.size #[.int .u8 (d0 : Int), .int .u8 (d1 : Int), .int .u8 (d2 : Int), .int .u8 (d3 : Int), .int .u8 (d4 : Int), .int .u8 (d5 : Int), .int .u8 (d6 : Int), .int .u8 (d7 : Int), .int .u8 (d8 : Int), .int .u8 (d9 : Int), .int .u8 (d10 : Int), .int .u8 (d11 : Int), .int .u16 t] o xs) := ⟨Blk.new w 31 _, hp.below ((Below.refl _ w).alloc (Nat.le_refl _) (.cells #[.int .u8 (d0 : Int), .int .u8 (d1 : Int), .int .u8 (d2 : Int), .int .u8 (d3 : Int), .int .u8 (d4 : Int), .int .u8 (d5 : Int), .int .u8 (d6 : Int), .int .u8 (d7 : Int), .int .u8 (d8 : Int), .int .u8 (d9 : Int), .int .u8 (d10 : Int), .int .u8 (d11 : Int), .int .u16 t] 31)) HL.out, (Below.refl _ _).alloc (Nat.le_refl _) _, rfl, HL.out⟩
  have heq := eq31g (d0 : Int) (d1 : Int) (d2 : Int) (d3 : Int) (d4 : Int) (d5 : Int) (d6 : Int) (d7 : Int) (d8 : Int) (d9 : Int) (d10 : Int) (d11 : Int) t
  have HK := Lib.hid hK
  clear hx hb hd hE hpv hp hK
  go_enter Tryd.func5, Tryd.ntmps5
  go_wp2_with fail
  have S0 := HS0.out
  clear HS0
  generalize (w.alloc (.cells #[.int .u8 (d0 : Int), .int .u8 (d1 : Int), .int .u8 (d2 : Int), .int .u8 (d3 : Int), .int .u8 (d4 : Int), .int .u8 (d5 : Int), .int .u8 (d6 : Int), .int .u8 (d7 : Int), .int .u8 (d8 : Int), .int .u8 (d9 : Int), .int .u8 (d10 : Int), .int .u8 (d11 : Int), .int .u16 t] 31)) = W0 at *
  refine (write_all (d0 : Int) (d1 : Int) (d2 : Int) (d3 : Int) (d4 : Int) (d5 : Int) (d6 : Int) (d7 : Int) (d8 : Int) (d9 : Int) (d10 : Int) (d11 : Int) t ht0 ht1 o n c xs _ HX.out S0.p hn).mono ?_
  rintro e W1 ⟨vu, rfl, ou, b1⟩
  have S1 := S0.below b1
  rw [HK.out]
  clear S0 b1
  have hl : (wrP (d0 : Int) (d1 : Int) (d2 : Int) (d3 : Int) (d4 : Int) (d5 : Int) (d6 : Int) (d7 : Int) (d8 : Int) (d9 : Int) (d10 : Int) (d11 : Int) t xs).length = 14 + n := by rw [hwp, List.length_append, HX.out]; rfl
  rw [hl, hwp] at ou
  obtain ⟨uo, uc, rfl, pu, lu, ucn, _⟩ := own_pay ou
  clear hl hwp ou
  have b5 : (14 : Int) + (n : Int) ≤ 100000 := by omega
  go_wp2_with fail
  refine (read_all uo (14 + n) uc (hb14 (d0 : Int) (d1 : Int) (d2 : Int) (d3 : Int) (d4 : Int) (d5 : Int) (d6 : Int) (d7 : Int) (d8 : Int) (d9 : Int) (d10 : Int) (d11 : Int) t ++ xs) _ lu pu (Bs_wr d0 d1 d2 d3 d4 d5 d6 d7 d8 d9 d10 d11 t xs HD.out ht0 ht1 HB.out) ucn).mono ?_
  rintro e W2 ⟨vp, rfl, op, b2'⟩
  have q3 : rdK (hb14 (d0 : Int) (d1 : Int) (d2 : Int) (d3 : Int) (d4 : Int) (d5 : Int) (d6 : Int) (d7 : Int) (d8 : Int) (d9 : Int) (d10 : Int) (d11 : Int) t ++ xs) = 3 := by unfold rdK; rw [if_pos (by have := HX.out; simp [hb14]; omega)]
  rw [q3]
  unfold rdV
  have HS := Lib.hid (S1.below b2')
  clear S1 op b2' q3 pu lu
  go_wp2_with fail
  have S1 := HS.out.alloc (.cells #[.int .u8 (rh (hb14 (d0 : Int) (d1 : Int) (d2 : Int) (d3 : Int) (d4 : Int) (d5 : Int) (d6 : Int) (d7 : Int) (d8 : Int) (d9 : Int) (d10 : Int) (d11 : Int) t ++ xs) 0), .int .u8 (rh (hb14 (d0 : Int) (d1 : Int) (d2 : Int) (d3 : Int) (d4 : Int) (d5 : Int) (d6 : Int) (d7 : Int) (d8 : Int) (d9 : Int) (d10 : Int) (d11 : Int) t ++ xs) 1), .int .u8 (rh (hb14 (d0 : Int) (d1 : Int) (d2 : Int) (d3 : Int) (d4 : Int) (d5 : Int) (d6 : Int) (d7 : Int) (d8 : Int) (d9 : Int) (d10 : Int) (d11 : Int) t ++ xs) 2), .int .u8 (rh (hb14 (d0 : Int) (d1 : Int) (d2 : Int) (d3 : Int) (d4 : Int) (d5 : Int) (d6 : Int) (d7 : Int) (d8 : Int) (d9 : Int) (d10 : Int) (d11 : Int) t ++ xs) 3), .int .u8 (rh (hb14 (d0 : Int) (d1 : Int) (d2 : Int) (d3 : Int) (d4 : Int) (d5 : Int) (d6 : Int) (d7 : Int) (d8 : Int) (d9 : Int) (d10 : Int) (d11 : Int) t ++ xs) 4), .int .u8 (rh (hb14 (d0 : Int) (d1 : Int) (d2 : Int) (d3 : Int) (d4 : Int) (d5 : Int) (d6 : Int) (d7 : Int) (d8 : Int) (d9 : Int) (d10 : Int) (d11 : Int) t ++ xs) 5), .int .u8 (rh (hb14 (d0 : Int) (d1 : Int) (d2 : Int) (d3 : Int) (d4 : Int) (d5 : Int) (d6 : Int) (d7 : Int) (d8 : Int) (d9 : Int) (d10 : Int) (d11 : Int) t ++ xs) 6), .int .u8 (rh (hb14 (d0 : Int) (d1 : Int) (d2 : Int) (d3 : Int) (d4 : Int) (d5 : Int) (d6 : Int) (d7 : Int) (d8 : Int) (d9 : Int) (d10 : Int) (d11 : Int) t ++ xs) 7), .int .u8 (rh (hb14 (d0 : Int) (d1 : Int) (d2 : Int) (d3 : Int) (d4 : Int) (d5 : Int) (d6 : Int) (d7 : Int) (d8 : Int) (d9 : Int) (d10 : Int) (d11 : Int) t ++ xs) 8), .int .u8 (rh (hb14 (d0 : Int) (d1 : Int) (d2 : Int) (d3 : Int) (d4 : Int) (d5 : Int) (d6 : Int) (d7 : Int) (d8 : Int) (d9 : Int) (d10 : Int) (d11 : Int) t ++ xs) 9), .int .u8 (rh (hb14 (d0 : Int) (d1 : Int) (d2 : Int) (d3 : Int) (d4 : Int) (d5 : Int) (d6 : Int) (d7 : Int) (d8 : Int) (d9 : Int) (d10 : Int) (d11 : Int) t ++ xs) 10), .int .u8 (rh (hb14 (d0 : Int) (d1 : Int) (d2 : Int) (d3 : Int) (d4 : Int) (d5 : Int) (d6 : Int) (d7 : Int) (d8 : Int) (d9 : Int) (d10 : Int) (d11 : Int) t ++ xs) 11), .int .u16 (rt (hb14 (d0 : Int) (d1 : Int) (d2 : Int) (d3 : Int) (d4 : Int) (d5 : Int) (d6 : Int) (d7 : Int) (d8 : Int) (d9 : Int) (d10 : Int) (d11 : Int) t ++ xs))] 31)
  clear HS
  generalize W2.alloc (.cells #[.int .u8 (rh (hb14 (d0 : Int) (d1 : Int) (d2 : Int) (d3 : Int) (d4 : Int) (d5 : Int) (d6 : Int) (d7 : Int) (d8 : Int) (d9 : Int) (d10 : Int) (d11 : Int) t ++ xs) 0), .int .u8 (rh (hb14 (d0 : Int) (d1 : Int) (d2 : Int) (d3 : Int) (d4 : Int) (d5 : Int) (d6 : Int) (d7 : Int) (d8 : Int) (d9 : Int) (d10 : Int) (d11 : Int) t ++ xs) 1), .int .u8 (rh (hb14 (d0 : Int) (d1 : Int) (d2 : Int) (d3 : Int) (d4 : Int) (d5 : Int) (d6 : Int) (d7 : Int) (d8 : Int) (d9 : Int) (d10 : Int) (d11 : Int) t ++ xs) 2), .int .u8 (rh (hb14 (d0 : Int) (d1 : Int) (d2 : Int) (d3 : Int) (d4 : Int) (d5 : Int) (d6 : Int) (d7 : Int) (d8 : Int) (d9 : Int) (d10 : Int) (d11 : Int) t ++ xs) 3), .int .u8 (rh (hb14 (d0 : Int) (d1 : Int) (d2 : Int) (d3 : Int) (d4 : Int) (d5 : Int) (d6 : Int) (d7 : Int) (d8 : Int) (d9 : Int) (d10 : Int) (d11 : Int) t ++ xs) 4), .int .u8 (rh (hb14 (d0 : Int) (d1 : Int) (d2 : Int) (d3 : Int) (d4 : Int) (d5 : Int) (d6 : Int) (d7 : Int) (d8 : Int) (d9 : Int) (d10 : Int) (d11 : Int) t ++ xs) 5), .int .u8 (rh (hb14 (d0 : Int) (d1 : Int) (d2 : Int) (d3 : Int) (d4 : Int) (d5 : Int) (d6 : Int) (d7 : Int) (d8 : Int) (d9 : Int) (d10 : Int) (d11 : Int) t ++ xs) 6), .int .u8 (rh (hb14 (d0 : Int) (d1 : Int) (d2 : Int) (d3 : Int) (d4 : Int) (d5 : Int) (d6 : Int) (d7 : Int) (d8 : Int) (d9 : Int) (d10 : Int) (d11 : Int) t ++ xs) 7), .int .u8 (rh (hb14 (d0 : Int) (d1 : Int) (d2 : Int) (d3 : Int) (d4 : Int) (d5 : Int) (d6 : Int) (d7 : Int) (d8 : Int) (d9 : Int) (d10 : Int) (d11 : Int) t ++ xs) 8), .int .u8 (rh (hb14 (d0 : Int) (d1 : Int) (d2 : Int) (d3 : Int) (d4 : Int) (d5 : Int) (d6 : Int) (d7 : Int) (d8 : Int) (d9 : Int) (d10 : Int) (d11 : Int) t ++ xs) 9), .int .u8 (rh (hb14 (d0 : Int) (d1 : Int) (d2 : Int) (d3 : Int) (d4 : Int) (d5 : Int) (d6 : Int) (d7 : Int) (d8 : Int) (d9 : Int) (d10 : Int) (d11 : Int) t ++ xs) 10), .int .u8 (rh (hb14 (d0 : Int) (d1 : Int) (d2 : Int) (d3 : Int) (d4 : Int) (d5 : Int) (d6 : Int) (d7 : Int) (d8 : Int) (d9 : Int) (d10 : Int) (d11 : Int) t ++ xs) 11), .int .u16 (rt (hb14 (d0 : Int) (d1 : Int) (d2 : Int) (d3 : Int) (d4 : Int) (d5 : Int) (d6 : Int) (d7 : Int) (d8 : Int) (d9 : Int) (d10 : Int) (d11 : Int) t ++ xs))] 31) = W2' at *
  refine (read_all o n c xs _ HX.out S1.p HB.out hnc).mono ?_
  rintro e W3 ⟨vq, rfl, oq, b3'⟩
  have S3 := (S1.below b3').alloc (.cells #[.int .u8 (rh xs 0), .int .u8 (rh xs 1), .int .u8 (rh xs 2), .int .u8 (rh xs 3), .int .u8 (rh xs 4), .int .u8 (rh xs 5), .int .u8 (rh xs 6), .int .u8 (rh xs 7), .int .u8 (rh xs 8), .int .u8 (rh xs 9), .int .u8 (rh xs 10), .int .u8 (rh xs 11), .int .u16 (rt xs)] 31)
  unfold rdV
  have hKK : rdK xs = 0 := by unfold rdK; have := hf; unfold fits at this; rw [if_neg (by omega), if_neg (by omega)]
  rw [hKK]
  obtain ⟨qo, qc, rfl, _, lq, qcn, hqn, _⟩ := own_pay oq
  have oq3 := oq.alloc (.cells #[.int .u8 (rh xs 0), .int .u8 (rh xs 1), .int .u8 (rh xs 2), .int .u8 (rh xs 3), .int .u8 (rh xs 4), .int .u8 (rh xs 5), .int .u8 (rh xs 6), .int .u8 (rh xs 7), .int .u8 (rh xs 8), .int .u8 (rh xs 9), .int .u8 (rh xs 10), .int .u8 (rh xs 11), .int .u16 (rt xs)] 31)
  have HS := Lib.hid (And.intro S3 oq3)
  clear S1 S3 oq oq3 b3' hKK
  go_wp2_with fail
  obtain ⟨S3, oq3⟩ := HS.out
  clear HS
  generalize W3.alloc (.cells #[.int .u8 (rh xs 0), .int .u8 (rh xs 1), .int .u8 (rh xs 2), .int .u8 (rh xs 3), .int .u8 (rh xs 4), .int .u8 (rh xs 5), .int .u8 (rh xs 6), .int .u8 (rh xs 7), .int .u8 (rh xs 8), .int .u8 (rh xs 9), .int .u8 (rh xs 10), .int .u8 (rh xs 11), .int .u16 (rt xs)] 31) = W4 at *
  obtain ⟨_, _, e9, pq, _⟩ := own_pay oq3
  injection e9 with e10 e11 e12
  subst e10
  have hrt : 0 ≤ rt xs ∧ rt xs ≤ 65535 := by have h12 := HB.out 12; have h13 := HB.out 13; unfold rt; rw [if_pos hf]; omega
  refine (write_all (rh xs 0) (rh xs 1) (rh xs 2) (rh xs 3) (rh xs 4) (rh xs 5) (rh xs 6) (rh xs 7) (rh xs 8) (rh xs 9) (rh xs 10) (rh xs 11) (rt xs) hrt.1 hrt.2 qo (rdP xs).length qc (rdP xs) _ rfl pq hqn).mono ?_
  rintro e W5 ⟨vw, rfl, ow, b5'⟩
  have S5 := S3.below b5'
  rw [wr_rd hf HB.out] at ow
  have hwK : wrK (rdP xs) = 0 := by unfold wrK; rw [if_pos (by have := rdP_len xs; have := hf; unfold fits at this; omega)]
  rw [hwK]
  have hcw := conv_own ow
  have hcb := conv_pay (c := c) HX.out S5.p
  obtain ⟨Y, hYY⟩ : ∃ Y, strOfNums xs = Y := ⟨_, rfl⟩
  rw [hYY] at hcw hcb
  have s1 : (Y.toList == Y.toList) = true := by simp
  have s2 : (Y.toList != Y.toList) = false := by simp
  have x0 : W5.cell? ⟨w.heap.size, 6, none⟩ = some (.int .u8 (d6 : Int)) := S5.r.cell 6
  have x1 : W5.cell? ⟨w.heap.size, 7, none⟩ = some (.int .u8 (d7 : Int)) := S5.r.cell 7
  have x2 : W5.cell? ⟨w.heap.size, 8, none⟩ = some (.int .u8 (d8 : Int)) := S5.r.cell 8
  have x3 : W5.cell? ⟨w.heap.size, 9, none⟩ = some (.int .u8 (d9 : Int)) := S5.r.cell 9
  have x4 : W5.cell? ⟨w.heap.size, 10, none⟩ = some (.int .u8 (d10 : Int)) := S5.r.cell 10
  have x5 : W5.cell? ⟨w.heap.size, 11, none⟩ = some (.int .u8 (d11 : Int)) := S5.r.cell 11
  clear S3 ow oq3 b5' hYY hwK hrt
  go_wp2_with fail
  clear hcw hcb s1 s2 x0 x1 x2 x3 x4 x5
  generalize W5 = W6 at *
  obtain ⟨_, _, _, _, _, _, u6, u7, u8, u9, u10, u11⟩ := HD.out
  refine (text_any d6 d7 d8 d9 d10 d11 _ (HEn.out.below S5.b) u6 u7 u8 u9 u10 u11).mono ?_
  rintro e W7 ⟨rfl, b7⟩
  have S7 := S5.below b7
  clear S5 b7
  obtain ⟨TX, hTX⟩ : ∃ TX, txt ⟨d6, d7, d8, d9, d10, d11⟩ = TX := ⟨_, rfl⟩
  rw [hTX]
  have HTX := Lib.hid hTX
  clear hTX
  go_wp2_with fail
  refine (parse_pv TX (some ⟨d6, d7, d8, d9, d10, d11⟩) _ ⟨⟨u6, u7, u8, u9, u10, u11⟩, HTX.out.symm⟩ (by rw [← HTX.out]; show (txt _).size ≤ 1000; rw [txt_size]; decide) (HEn.out.below S7.b)).mono ?_
  rintro e W8 ⟨rfl, b8⟩
  have S8 := (S7.below b8).alloc (.cells #[.int .u8 (d6 : Int), .int .u8 (d7 : Int), .int .u8 (d8 : Int), .int .u8 (d9 : Int), .int .u8 (d10 : Int), .int .u8 (d11 : Int)] 22)
  have X8 : Blk (W8.alloc (.cells #[.int .u8 (d6 : Int), .int .u8 (d7 : Int), .int .u8 (d8 : Int), .int .u8 (d9 : Int), .int .u8 (d10 : Int), .int .u8 (d11 : Int)] 22)) W8.heap.size 22 #[.int .u8 (d6 : Int), .int .u8 (d7 : Int), .int .u8 (d8 : Int), .int .u8 (d9 : Int), .int .u8 (d10 : Int), .int .u8 (d11 : Int)] := Blk.new _ _ _
  have HS := Lib.hid (And.intro S8 X8)
  clear S7 S8 X8 b8
  unfold pr Six.vals
  go_wp2_with fail
  obtain ⟨S8, X8⟩ := HS.out
  clear HS
  generalize (W8.alloc (.cells #[.int .u8 (d6 : Int), .int .u8 (d7 : Int), .int .u8 (d8 : Int), .int .u8 (d9 : Int), .int .u8 (d10 : Int), .int .u8 (d11 : Int)] 22)) = W9 at *
  generalize W8.heap.size = N8 at *
  refine (parse_pv s (some x) _ HPV.out (by omega) (HEn.out.below S8.b)).mono ?_
  rintro e W10 ⟨rfl, b10⟩
  unfold pr Six.vals
  have S10 := (S8.below b10).alloc (.cells #[.int .u8 (x.a : Int), .int .u8 (x.b : Int), .int .u8 (x.c : Int), .int .u8 (x.d : Int), .int .u8 (x.e : Int), .int .u8 (x.f : Int)] 22)
  have X10 := (X8.below b10 X8.lt).alloc (.cells #[.int .u8 (x.a : Int), .int .u8 (x.b : Int), .int .u8 (x.c : Int), .int .u8 (x.d : Int), .int .u8 (x.e : Int), .int .u8 (x.f : Int)] 22)
  have x0 : (W10.alloc (.cells #[.int .u8 (x.a : Int), .int .u8 (x.b : Int), .int .u8 (x.c : Int), .int .u8 (x.d : Int), .int .u8 (x.e : Int), .int .u8 (x.f : Int)] 22)).cell? ⟨w.heap.size, 6, none⟩ = some (.int .u8 (d6 : Int)) := S10.r.cell 6
  have x1 : (W10.alloc (.cells #[.int .u8 (x.a : Int), .int .u8 (x.b : Int), .int .u8 (x.c : Int), .int .u8 (x.d : Int), .int .u8 (x.e : Int), .int .u8 (x.f : Int)] 22)).cell? ⟨w.heap.size, 7, none⟩ = some (.int .u8 (d7 : Int)) := S10.r.cell 7
  have x2 : (W10.alloc (.cells #[.int .u8 (x.a : Int), .int .u8 (x.b : Int), .int .u8 (x.c : Int), .int .u8 (x.d : Int), .int .u8 (x.e : Int), .int .u8 (x.f : Int)] 22)).cell? ⟨w.heap.size, 8, none⟩ = some (.int .u8 (d8 : Int)) := S10.r.cell 8
  have x3 : (W10.alloc (.cells #[.int .u8 (x.a : Int), .int .u8 (x.b : Int), .int .u8 (x.c : Int), .int .u8 (x.d : Int), .int .u8 (x.e : Int), .int .u8 (x.f : Int)] 22)).cell? ⟨w.heap.size, 9, none⟩ = some (.int .u8 (d9 : Int)) := S10.r.cell 9
  have x4 : (W10.alloc (.cells #[.int .u8 (x.a : Int), .int .u8 (x.b : Int), .int .u8 (x.c : Int), .int .u8 (x.d : Int), .int .u8 (x.e : Int), .int .u8 (x.f : Int)] 22)).cell? ⟨w.heap.size, 10, none⟩ = some (.int .u8 (d10 : Int)) := S10.r.cell 10
  have x5 : (W10.alloc (.cells #[.int .u8 (x.a : Int), .int .u8 (x.b : Int), .int .u8 (x.c : Int), .int .u8 (x.d : Int), .int .u8 (x.e : Int), .int .u8 (x.f : Int)] 22)).cell? ⟨w.heap.size, 11, none⟩ = some (.int .u8 (d11 : Int)) := S10.r.cell 11
  obtain ⟨y0, y1, y2, y3, y4, y5⟩ := SixBlk.cells X10
  have heq2 := eq22 d6 d7 d8 d9 d10 d11
  have HS := Lib.hid S10
  clear S8 X8 S10 X10 b10
  go_wp2_with fail
  have S10 := HS.out
  clear HS x0 x1 x2 x3 x4 x5 y0 y1 y2 y3 y4 y5 heq2
  generalize (W10.alloc (.cells #[.int .u8 (x.a : Int), .int .u8 (x.b : Int), .int .u8 (x.c : Int), .int .u8 (x.d : Int), .int .u8 (x.e : Int), .int .u8 (x.f : Int)] 22)) = W11 at *
  obtain ⟨⟨v0, v1, v2, v3, v4, v5⟩, hst⟩ := HPV.out
  refine (text_any x.a x.b x.c x.d x.e x.f _ (HEn.out.below S10.b) v0 v1 v2 v3 v4 v5).mono ?_
  rintro e W12 ⟨rfl, b12⟩
  have S12 := S10.below b12
  rw [show txt ⟨x.a, x.b, x.c, x.d, x.e, x.f⟩ = s from hst.symm]
  have s1 : (s.toList == s.toList) = true := by simp
  clear S10 b12
  go_wp2_with fail
  refine (known_any _ (HEn.out.below S12.b)).mono ?_
  rintro e w9 ⟨rfl, b9⟩
  have b10 := S12.b.trans (b9.mono S12.b.size)
  clear b9
  go_wp2_with fail
  go_ret
  exact ⟨rfl, b10⟩
set_option maxHeartbeats 2000000 in
set_option maxRecDepth 100000 in
theorem back_CYN (d0 d1 d2 d3 d4 d5 d6 d7 d8 d9 d10 d11 : Nat) (t : Int) (hd : d0 < 256 ∧ d1 < 256 ∧ d2 < 256 ∧ d3 < 256 ∧ d4 < 256 ∧ d5 < 256 ∧ d6 < 256 ∧ d7 < 256 ∧ d8 < 256 ∧ d9 < 256 ∧ d10 < 256 ∧ d11 < 256) (ht0 : 0 ≤ t) (ht1 : t ≤ 65535) (o : Option Addr) (n c : Nat) (xs : List Int) (s : ByteArray) (w : World) (hx : xs.length = n) (h1 : 1586 < n) (h1' : n ≤ 1646) (hf : fits xs) (hpv : pv s none) (hs : s.size ≤ 100) (hp : Pay w o xs) (hb : Bs xs) (hn : o = none → c = 0) (hnc : n ≤ c) (hE : Env w) :
    Calls Tryd.prog 5 #[.agg #[.int .u8 (d0 : Int), .int .u8 (d1 : Int), .int .u8 (d2 : Int), .int .u8 (d3 : Int), .int .u8 (d4 : Int), .int .u8 (d5 : Int), .int .u8 (d6 : Int), .int .u8 (d7 : Int), .int .u8 (d8 : Int), .int .u8 (d9 : Int), .int .u8 (d10 : Int), .int .u8 (d11 : Int), .int .u16 t], .slice o n c, .string s] w fun e w' => e = .returned (.bool true) ∧ Below w.heap.size w w' := by
  have bs : (n : Int) ≤ 4000 := by omega
  have b2 : (s.size : Int) ≤ 100 := by omega
  have b3 : (n : Int) ≤ 1646 := by omega
  have b4 : 1600 < 14 + (n : Int) := by omega
  have hK : wrK xs = 0 := by unfold wrK; rw [if_pos (by omega)]
  have hwp : wrP (d0 : Int) (d1 : Int) (d2 : Int) (d3 : Int) (d4 : Int) (d5 : Int) (d6 : Int) (d7 : Int) (d8 : Int) (d9 : Int) (d10 : Int) (d11 : Int) t xs = hb14 (d0 : Int) (d1 : Int) (d2 : Int) (d3 : Int) (d4 : Int) (d5 : Int) (d6 : Int) (d7 : Int) (d8 : Int) (d9 : Int) (d10 : Int) (d11 : Int) t ++ xs := by unfold wrP; rw [if_pos (by omega)]
  have HX := Lib.hid hx
  have HB := Lib.hid hb
  have HD := Lib.hid hd
  have HEn := Lib.hid hE
  have HPV := Lib.hid hpv
  have HL : Hid (∀ b, o = some b → 0 < xs.length → b.block < w.heap.size) := fun b hb h0 => by subst hb; exact At.lt hp h0
  have HS0 : Hid (WrS w (w.alloc (.cells #[.int .u8 (d0 : Int), .int .u8 (d1 : Int), .int .u8 (d2 : Int), .int .u8 (d3 : Int), .int .u8 (d4 : Int), .int .u8 (d5 : Int), .int .u8 (d6 : Int), .int .u8 (d7 : Int), .int .u8 (d8 : Int), .int .u8 (d9 : Int), .int .u8 (d10 : Int), .int .u8 (d11 : Int), .int .u16 t] 31)) w.heap.size #[.int .u8 (d0 : Int), .int .u8 (d1 : Int), .int .u8 (d2 : Int), .int .u8 (d3 : Int), .int .u8 (d4 : Int), .int .u8 (d5 : Int), .int .u8 (d6 : Int), .int .u8 (d7 : Int), .int .u8 (d8 : Int), .int .u8 (d9 : Int), .int .u8 (d10 : Int), .int .u8 (d11 : Int), .int .u16 t] o xs) := ⟨Blk.new w 31 _, hp.below ((Below.refl _ w).alloc (Nat.le_refl _) (.cells #[.int .u8 (d0 : Int), .int .u8 (d1 : Int), .int .u8 (d2 : Int), .int .u8 (d3 : Int), .int .u8 (d4 : Int), .int .u8 (d5 : Int), .int .u8 (d6 : Int), .int .u8 (d7 : Int), .int .u8 (d8 : Int), .int .u8 (d9 : Int), .int .u8 (d10 : Int), .int .u8 (d11 : Int), .int .u16 t] 31)) HL.out, (Below.refl _ _).alloc (Nat.le_refl _) _, rfl, HL.out⟩
  have heq := eq31g (d0 : Int) (d1 : Int) (d2 : Int) (d3 : Int) (d4 : Int) (d5 : Int) (d6 : Int) (d7 : Int) (d8 : Int) (d9 : Int) (d10 : Int) (d11 : Int) t
  have HK := Lib.hid hK
  clear hx hb hd hE hpv hp hK
  go_enter Tryd.func5, Tryd.ntmps5
  go_wp2_with fail
  have S0 := HS0.out
  clear HS0
  generalize (w.alloc (.cells #[.int .u8 (d0 : Int), .int .u8 (d1 : Int), .int .u8 (d2 : Int), .int .u8 (d3 : Int), .int .u8 (d4 : Int), .int .u8 (d5 : Int), .int .u8 (d6 : Int), .int .u8 (d7 : Int), .int .u8 (d8 : Int), .int .u8 (d9 : Int), .int .u8 (d10 : Int), .int .u8 (d11 : Int), .int .u16 t] 31)) = W0 at *
  refine (write_all (d0 : Int) (d1 : Int) (d2 : Int) (d3 : Int) (d4 : Int) (d5 : Int) (d6 : Int) (d7 : Int) (d8 : Int) (d9 : Int) (d10 : Int) (d11 : Int) t ht0 ht1 o n c xs _ HX.out S0.p hn).mono ?_
  rintro e W1 ⟨vu, rfl, ou, b1⟩
  have S1 := S0.below b1
  rw [HK.out]
  clear S0 b1
  have hl : (wrP (d0 : Int) (d1 : Int) (d2 : Int) (d3 : Int) (d4 : Int) (d5 : Int) (d6 : Int) (d7 : Int) (d8 : Int) (d9 : Int) (d10 : Int) (d11 : Int) t xs).length = 14 + n := by rw [hwp, List.length_append, HX.out]; rfl
  rw [hl, hwp] at ou
  obtain ⟨uo, uc, rfl, pu, lu, ucn, _⟩ := own_pay ou
  clear hl hwp ou
  have b5 : (14 : Int) + (n : Int) ≤ 100000 := by omega
  go_wp2_with fail
  refine (read_all uo (14 + n) uc (hb14 (d0 : Int) (d1 : Int) (d2 : Int) (d3 : Int) (d4 : Int) (d5 : Int) (d6 : Int) (d7 : Int) (d8 : Int) (d9 : Int) (d10 : Int) (d11 : Int) t ++ xs) _ lu pu (Bs_wr d0 d1 d2 d3 d4 d5 d6 d7 d8 d9 d10 d11 t xs HD.out ht0 ht1 HB.out) ucn).mono ?_
  rintro e W2 ⟨vp, rfl, op, b2'⟩
  have q3 : rdK (hb14 (d0 : Int) (d1 : Int) (d2 : Int) (d3 : Int) (d4 : Int) (d5 : Int) (d6 : Int) (d7 : Int) (d8 : Int) (d9 : Int) (d10 : Int) (d11 : Int) t ++ xs) = 3 := by unfold rdK; rw [if_pos (by have := HX.out; simp [hb14]; omega)]
  rw [q3]
  unfold rdV
  have HS := Lib.hid (S1.below b2')
  clear S1 op b2' q3 pu lu
  go_wp2_with fail
  have S1 := HS.out.alloc (.cells #[.int .u8 (rh (hb14 (d0 : Int) (d1 : Int) (d2 : Int) (d3 : Int) (d4 : Int) (d5 : Int) (d6 : Int) (d7 : Int) (d8 : Int) (d9 : Int) (d10 : Int) (d11 : Int) t ++ xs) 0), .int .u8 (rh (hb14 (d0 : Int) (d1 : Int) (d2 : Int) (d3 : Int) (d4 : Int) (d5 : Int) (d6 : Int) (d7 : Int) (d8 : Int) (d9 : Int) (d10 : Int) (d11 : Int) t ++ xs) 1), .int .u8 (rh (hb14 (d0 : Int) (d1 : Int) (d2 : Int) (d3 : Int) (d4 : Int) (d5 : Int) (d6 : Int) (d7 : Int) (d8 : Int) (d9 : Int) (d10 : Int) (d11 : Int) t ++ xs) 2), .int .u8 (rh (hb14 (d0 : Int) (d1 : Int) (d2 : Int) (d3 : Int) (d4 : Int) (d5 : Int) (d6 : Int) (d7 : Int) (d8 : Int) (d9 : Int) (d10 : Int) (d11 : Int) t ++ xs) 3), .int .u8 (rh (hb14 (d0 : Int) (d1 : Int) (d2 : Int) (d3 : Int) (d4 : Int) (d5 : Int) (d6 : Int) (d7 : Int) (d8 : Int) (d9 : Int) (d10 : Int) (d11 : Int) t ++ xs) 4), .int .u8 (rh (hb14 (d0 : Int) (d1 : Int) (d2 : Int) (d3 : Int) (d4 : Int) (d5 : Int) (d6 : Int) (d7 : Int) (d8 : Int) (d9 : Int) (d10 : Int) (d11 : Int) t ++ xs) 5), .int .u8 (rh (hb14 (d0 : Int) (d1 : Int) (d2 : Int) (d3 : Int) (d4 : Int) (d5 : Int) (d6 : Int) (d7 : Int) (d8 : Int) (d9 : Int) (d10 : Int) (d11 : Int) t ++ xs) 6), .int .u8 (rh (hb14 (d0 : Int) (d1 : Int) (d2 : Int) (d3 : Int) (d4 : Int) (d5 : Int) (d6 : Int) (d7 : Int) (d8 : Int) (d9 : Int) (d10 : Int) (d11 : Int) t ++ xs) 7), .int .u8 (rh (hb14 (d0 : Int) (d1 : Int) (d2 : Int) (d3 : Int) (d4 : Int) (d5 : Int) (d6 : Int) (d7 : Int) (d8 : Int) (d9 : Int) (d10 : Int) (d11 : Int) t ++ xs) 8), .int .u8 (rh (hb14 (d0 : Int) (d1 : Int) (d2 : Int) (d3 : Int) (d4 : Int) (d5 : Int) (d6 : Int) (d7 : Int) (d8 : Int) (d9 : Int) (d10 : Int) (d11 : Int) t ++ xs) 9), .int .u8 (rh (hb14 (d0 : Int) (d1 : Int) (d2 : Int) (d3 : Int) (d4 : Int) (d5 : Int) (d6 : Int) (d7 : Int) (d8 : Int) (d9 : Int) (d10 : Int) (d11 : Int) t ++ xs) 10), .int .u8 (rh (hb14 (d0 : Int) (d1 : Int) (d2 : Int) (d3 : Int) (d4 : Int) (d5 : Int) (d6 : Int) (d7 : Int) (d8 : Int) (d9 : Int) (d10 : Int) (d11 : Int) t ++ xs) 11), .int .u16 (rt (hb14 (d0 : Int) (d1 : Int) (d2 : Int) (d3 : Int) (d4 : Int) (d5 : Int) (d6 : Int) (d7 : Int) (d8 : Int) (d9 : Int) (d10 : Int) (d11 : Int) t ++ xs))] 31)
  clear HS
  generalize W2.alloc (.cells #[.int .u8 (rh (hb14 (d0 : Int) (d1 : Int) (d2 : Int) (d3 : Int) (d4 : Int) (d5 : Int) (d6 : Int) (d7 : Int) (d8 : Int) (d9 : Int) (d10 : Int) (d11 : Int) t ++ xs) 0), .int .u8 (rh (hb14 (d0 : Int) (d1 : Int) (d2 : Int) (d3 : Int) (d4 : Int) (d5 : Int) (d6 : Int) (d7 : Int) (d8 : Int) (d9 : Int) (d10 : Int) (d11 : Int) t ++ xs) 1), .int .u8 (rh (hb14 (d0 : Int) (d1 : Int) (d2 : Int) (d3 : Int) (d4 : Int) (d5 : Int) (d6 : Int) (d7 : Int) (d8 : Int) (d9 : Int) (d10 : Int) (d11 : Int) t ++ xs) 2), .int .u8 (rh (hb14 (d0 : Int) (d1 : Int) (d2 : Int) (d3 : Int) (d4 : Int) (d5 : Int) (d6 : Int) (d7 : Int) (d8 : Int) (d9 : Int) (d10 : Int) (d11 : Int) t ++ xs) 3), .int .u8 (rh (hb14 (d0 : Int) (d1 : Int) (d2 : Int) (d3 : Int) (d4 : Int) (d5 : Int) (d6 : Int) (d7 : Int) (d8 : Int) (d9 : Int) (d10 : Int) (d11 : Int) t ++ xs) 4), .int .u8 (rh (hb14 (d0 : Int) (d1 : Int) (d2 : Int) (d3 : Int) (d4 : Int) (d5 : Int) (d6 : Int) (d7 : Int) (d8 : Int) (d9 : Int) (d10 : Int) (d11 : Int) t ++ xs) 5), .int .u8 (rh (hb14 (d0 : Int) (d1 : Int) (d2 : Int) (d3 : Int) (d4 : Int) (d5 : Int) (d6 : Int) (d7 : Int) (d8 : Int) (d9 : Int) (d10 : Int) (d11 : Int) t ++ xs) 6), .int .u8 (rh (hb14 (d0 : Int) (d1 : Int) (d2 : Int) (d3 : Int) (d4 : Int) (d5 : Int) (d6 : Int) (d7 : Int) (d8 : Int) (d9 : Int) (d10 : Int) (d11 : Int) t ++ xs) 7), .int .u8 (rh (hb14 (d0 : Int) (d1 : Int) (d2 : Int) (d3 : Int) (d4 : Int) (d5 : Int) (d6 : Int) (d7 : Int) (d8 : Int) (d9 : Int) (d10 : Int) (d11 : Int) t ++ xs) 8), .int .u8 (rh (hb14 (d0 : Int) (d1 : Int) (d2 : Int) (d3 : Int) (d4 : Int) (d5 : Int) (d6 : Int) (d7 : Int) (d8 : Int) (d9 : Int) (d10 : Int) (d11 : Int) t ++ xs) 9), .int .u8 (rh (hb14 (d0 : Int) (d1 : Int) (d2 : Int) (d3 : Int) (d4 : Int) (d5 : Int) (d6 : Int) (d7 : Int) (d8 : Int) (d9 : Int) (d10 : Int) (d11 : Int) t ++ xs) 10), .int .u8 (rh (hb14 (d0 : Int) (d1 : Int) (d2 : Int) (d3 : Int) (d4 : Int) (d5 : Int) (d6 : Int) (d7 : Int) (d8 : Int) (d9 : Int) (d10 : Int) (d11 : Int) t ++ xs) 11), .int .u16 (rt (hb14 (d0 : Int) (d1 : Int) (d2 : Int) (d3 : Int) (d4 : Int) (d5 : Int) (d6 : Int) (d7 : Int) (d8 : Int) (d9 : Int) (d10 : Int) (d11 : Int) t ++ xs))] 31) = W2' at *
  refine (read_all o n c xs _ HX.out S1.p HB.out hnc).mono ?_
  rintro e W3 ⟨vq, rfl, oq, b3'⟩
  have S3 := (S1.below b3').alloc (.cells #[.int .u8 (rh xs 0), .int .u8 (rh xs 1), .int .u8 (rh xs 2), .int .u8 (rh xs 3), .int .u8 (rh xs 4), .int .u8 (rh xs 5), .int .u8 (rh xs 6), .int .u8 (rh xs 7), .int .u8 (rh xs 8), .int .u8 (rh xs 9), .int .u8 (rh xs 10), .int .u8 (rh xs 11), .int .u16 (rt xs)] 31)
  unfold rdV
  have hKK : rdK xs = 0 := by unfold rdK; have := hf; unfold fits at this; rw [if_neg (by omega), if_neg (by omega)]
  rw [hKK]
  obtain ⟨qo, qc, rfl, _, lq, qcn, hqn, _⟩ := own_pay oq
  have oq3 := oq.alloc (.cells #[.int .u8 (rh xs 0), .int .u8 (rh xs 1), .int .u8 (rh xs 2), .int .u8 (rh xs 3), .int .u8 (rh xs 4), .int .u8 (rh xs 5), .int .u8 (rh xs 6), .int .u8 (rh xs 7), .int .u8 (rh xs 8), .int .u8 (rh xs 9), .int .u8 (rh xs 10), .int .u8 (rh xs 11), .int .u16 (rt xs)] 31)
  have HS := Lib.hid (And.intro S3 oq3)
  clear S1 S3 oq oq3 b3' hKK
  go_wp2_with fail
  obtain ⟨S3, oq3⟩ := HS.out
  clear HS
  generalize W3.alloc (.cells #[.int .u8 (rh xs 0), .int .u8 (rh xs 1), .int .u8 (rh xs 2), .int .u8 (rh xs 3), .int .u8 (rh xs 4), .int .u8 (rh xs 5), .int .u8 (rh xs 6), .int .u8 (rh xs 7), .int .u8 (rh xs 8), .int .u8 (rh xs 9), .int .u8 (rh xs 10), .int .u8 (rh xs 11), .int .u16 (rt xs)] 31) = W4 at *
  obtain ⟨_, _, e9, pq, _⟩ := own_pay oq3
  injection e9 with e10 e11 e12
  subst e10
  have hrt : 0 ≤ rt xs ∧ rt xs ≤ 65535 := by have h12 := HB.out 12; have h13 := HB.out 13; unfold rt; rw [if_pos hf]; omega
  refine (write_all (rh xs 0) (rh xs 1) (rh xs 2) (rh xs 3) (rh xs 4) (rh xs 5) (rh xs 6) (rh xs 7) (rh xs 8) (rh xs 9) (rh xs 10) (rh xs 11) (rt xs) hrt.1 hrt.2 qo (rdP xs).length qc (rdP xs) _ rfl pq hqn).mono ?_
  rintro e W5 ⟨vw, rfl, ow, b5'⟩
  have S5 := S3.below b5'
  rw [wr_rd hf HB.out] at ow
  have hwK : wrK (rdP xs) = 0 := by unfold wrK; rw [if_pos (by have := rdP_len xs; have := hf; unfold fits at this; omega)]
  rw [hwK]
  have hcw := conv_own ow
  have hcb := conv_pay (c := c) HX.out S5.p
  obtain ⟨Y, hYY⟩ : ∃ Y, strOfNums xs = Y := ⟨_, rfl⟩
  rw [hYY] at hcw hcb
  have s1 : (Y.toList == Y.toList) = true := by simp
  have s2 : (Y.toList != Y.toList) = false := by simp
  have x0 : W5.cell? ⟨w.heap.size, 6, none⟩ = some (.int .u8 (d6 : Int)) := S5.r.cell 6
  have x1 : W5.cell? ⟨w.heap.size, 7, none⟩ = some (.int .u8 (d7 : Int)) := S5.r.cell 7
  have x2 : W5.cell? ⟨w.heap.size, 8, none⟩ = some (.int .u8 (d8 : Int)) := S5.r.cell 8
  have x3 : W5.cell? ⟨w.heap.size, 9, none⟩ = some (.int .u8 (d9 : Int)) := S5.r.cell 9
  have x4 : W5.cell? ⟨w.heap.size, 10, none⟩ = some (.int .u8 (d10 : Int)) := S5.r.cell 10
  have x5 : W5.cell? ⟨w.heap.size, 11, none⟩ = some (.int .u8 (d11 : Int)) := S5.r.cell 11
  clear S3 ow oq3 b5' hYY hwK hrt
  go_wp2_with fail
  clear hcw hcb s1 s2 x0 x1 x2 x3 x4 x5
  generalize W5 = W6 at *
  obtain ⟨_, _, _, _, _, _, u6, u7, u8, u9, u10, u11⟩ := HD.out
  refine (text_any d6 d7 d8 d9 d10 d11 _ (HEn.out.below S5.b) u6 u7 u8 u9 u10 u11).mono ?_
  rintro e W7 ⟨rfl, b7⟩
  have S7 := S5.below b7
  clear S5 b7
  obtain ⟨TX, hTX⟩ : ∃ TX, txt ⟨d6, d7, d8, d9, d10, d11⟩ = TX := ⟨_, rfl⟩
  rw [hTX]
  have HTX := Lib.hid hTX
  clear hTX
  go_wp2_with fail
  refine (parse_pv TX (some ⟨d6, d7, d8, d9, d10, d11⟩) _ ⟨⟨u6, u7, u8, u9, u10, u11⟩, HTX.out.symm⟩ (by rw [← HTX.out]; show (txt _).size ≤ 1000; rw [txt_size]; decide) (HEn.out.below S7.b)).mono ?_
  rintro e W8 ⟨rfl, b8⟩
  have S8 := (S7.below b8).alloc (.cells #[.int .u8 (d6 : Int), .int .u8 (d7 : Int), .int .u8 (d8 : Int), .int .u8 (d9 : Int), .int .u8 (d10 : Int), .int .u8 (d11 : Int)] 22)
  have X8 : Blk (W8.alloc (.cells #[.int .u8 (d6 : Int), .int .u8 (d7 : Int), .int .u8 (d8 : Int), .int .u8 (d9 : Int), .int .u8 (d10 : Int), .int .u8 (d11 : Int)] 22)) W8.heap.size 22 #[.int .u8 (d6 : Int), .int .u8 (d7 : Int), .int .u8 (d8 : Int), .int .u8 (d9 : Int), .int .u8 (d10 : Int), .int .u8 (d11 : Int)] := Blk.new _ _ _
  have HS := Lib.hid (And.intro S8 X8)
  clear S7 S8 X8 b8
  unfold pr Six.vals
  go_wp2_with fail
  obtain ⟨S8, X8⟩ := HS.out
  clear HS
  generalize (W8.alloc (.cells #[.int .u8 (d6 : Int), .int .u8 (d7 : Int), .int .u8 (d8 : Int), .int .u8 (d9 : Int), .int .u8 (d10 : Int), .int .u8 (d11 : Int)] 22)) = W9 at *
  generalize W8.heap.size = N8 at *
  refine (parse_pv s none _ HPV.out (by omega) (HEn.out.below S8.b)).mono ?_
  rintro e W10 ⟨rfl, b10⟩
  unfold pr
  have S10 := (S8.below b10).alloc (.cells #[.int .u8 0, .int .u8 0, .int .u8 0, .int .u8 0, .int .u8 0, .int .u8 0] 22)
  have X10 := (X8.below b10 X8.lt).alloc (.cells #[.int .u8 0, .int .u8 0, .int .u8 0, .int .u8 0, .int .u8 0, .int .u8 0] 22)
  have x0 : (W10.alloc (.cells #[.int .u8 0, .int .u8 0, .int .u8 0, .int .u8 0, .int .u8 0, .int .u8 0] 22)).cell? ⟨w.heap.size, 6, none⟩ = some (.int .u8 (d6 : Int)) := S10.r.cell 6
  have x1 : (W10.alloc (.cells #[.int .u8 0, .int .u8 0, .int .u8 0, .int .u8 0, .int .u8 0, .int .u8 0] 22)).cell? ⟨w.heap.size, 7, none⟩ = some (.int .u8 (d7 : Int)) := S10.r.cell 7
  have x2 : (W10.alloc (.cells #[.int .u8 0, .int .u8 0, .int .u8 0, .int .u8 0, .int .u8 0, .int .u8 0] 22)).cell? ⟨w.heap.size, 8, none⟩ = some (.int .u8 (d8 : Int)) := S10.r.cell 8
  have x3 : (W10.alloc (.cells #[.int .u8 0, .int .u8 0, .int .u8 0, .int .u8 0, .int .u8 0, .int .u8 0] 22)).cell? ⟨w.heap.size, 9, none⟩ = some (.int .u8 (d9 : Int)) := S10.r.cell 9
  have x4 : (W10.alloc (.cells #[.int .u8 0, .int .u8 0, .int .u8 0, .int .u8 0, .int .u8 0, .int .u8 0] 22)).cell? ⟨w.heap.size, 10, none⟩ = some (.int .u8 (d10 : Int)) := S10.r.cell 10
  have x5 : (W10.alloc (.cells #[.int .u8 0, .int .u8 0, .int .u8 0, .int .u8 0, .int .u8 0, .int .u8 0] 22)).cell? ⟨w.heap.size, 11, none⟩ = some (.int .u8 (d11 : Int)) := S10.r.cell 11
  obtain ⟨y0, y1, y2, y3, y4, y5⟩ := SixBlk.cells X10
  have heq2 := eq22 d6 d7 d8 d9 d10 d11
  have HS := Lib.hid S10
  clear S8 X8 S10 X10 b10
  go_wp2_with fail
  have S10 := HS.out
  clear HS x0 x1 x2 x3 x4 x5 y0 y1 y2 y3 y4 y5 heq2
  generalize (W10.alloc (.cells #[.int .u8 0, .int .u8 0, .int .u8 0, .int .u8 0, .int .u8 0, .int .u8 0] 22)) = W11 at *
  refine (known_any _ (HEn.out.below S10.b)).mono ?_
  rintro e w9 ⟨rfl, b9⟩
  have b10 := S10.b.trans (b9.mono S10.b.size)
  clear b9
  go_wp2_with fail
  go_ret
  exact ⟨rfl, b10⟩
set_option maxHeartbeats 2000000 in
set_option maxRecDepth 100000 in
theorem back_CNS (d0 d1 d2 d3 d4 d5 d6 d7 d8 d9 d10 d11 : Nat) (t : Int) (hd : d0 < 256 ∧ d1 < 256 ∧ d2 < 256 ∧ d3 < 256 ∧ d4 < 256 ∧ d5 < 256 ∧ d6 < 256 ∧ d7 < 256 ∧ d8 < 256 ∧ d9 < 256 ∧ d10 < 256 ∧ d11 < 256) (ht0 : 0 ≤ t) (ht1 : t ≤ 65535) (o : Option Addr) (n c : Nat) (xs : List Int) (s : ByteArray) (x : Six) (w : World) (hx : xs.length = n) (h1 : 1586 < n) (h1' : n ≤ 1646) (hf : ¬ fits xs) (hpv : pv s (some x)) (hs : s.size ≤ 100) (hp : Pay w o xs) (hb : Bs xs) (hn : o = none → c = 0) (hnc : n ≤ c) (hE : Env w) :
    Calls Tryd.prog 5 #[.agg #[.int .u8 (d0 : Int), .int .u8 (d1 : Int), .int .u8 (d2 : Int), .int .u8 (d3 : Int), .int .u8 (d4 : Int), .int .u8 (d5 : Int), .int .u8 (d6 : Int), .int .u8 (d7 : Int), .int .u8 (d8 : Int), .int .u8 (d9 : Int), .int .u8 (d10 : Int), .int .u8 (d11 : Int), .int .u16 t], .slice o n c, .string s] w fun e w' => e = .returned (.bool true) ∧ Below w.heap.size w w' := by
  have bs : (n : Int) ≤ 4000 := by omega
  have b2 : (s.size : Int) ≤ 100 := by omega
  have b3 : (n : Int) ≤ 1646 := by omega
  have b4 : 1600 < 14 + (n : Int) := by omega
  have hK : wrK xs = 0 := by unfold wrK; rw [if_pos (by omega)]
  have hwp : wrP (d0 : Int) (d1 : Int) (d2 : Int) (d3 : Int) (d4 : Int) (d5 : Int) (d6 : Int) (d7 : Int) (d8 : Int) (d9 : Int) (d10 : Int) (d11 : Int) t xs = hb14 (d0 : Int) (d1 : Int) (d2 : Int) (d3 : Int) (d4 : Int) (d5 : Int) (d6 : Int) (d7 : Int) (d8 : Int) (d9 : Int) (d10 : Int) (d11 : Int) t ++ xs := by unfold wrP; rw [if_pos (by omega)]
  have HX := Lib.hid hx
  have HB := Lib.hid hb
  have HD := Lib.hid hd
  have HEn := Lib.hid hE
  have HPV := Lib.hid hpv
  have HL : Hid (∀ b, o = some b → 0 < xs.length → b.block < w.heap.size) := fun b hb h0 => by subst hb; exact At.lt hp h0
  have HS0 : Hid (WrS w (w.alloc (.cells #[.int .u8 (d0 : Int), .int .u8 (d1 : Int), .int .u8 (d2 : Int), .int .u8 (d3 : Int), .int .u8 (d4 : Int), .int .u8 (d5 : Int), .int .u8 (d6 : Int), .int .u8 (d7 : Int), .int .u8 (d8 : Int), .int .u8 (d9 : Int), .int .u8 (d10 : Int), .int .u8 (d11 : Int), .int .u16 t] 31)) w.heap.size #[.int .u8 (d0 : Int), .int .u8 (d1 : Int), .int .u8 (d2 : Int), .int .u8 (d3 : Int), .int .u8 (d4 : Int), .int .u8 (d5 : Int), .int .u8 (d6 : Int), .int .u8 (d7 : Int), .int .u8 (d8 : Int), .int .u8 (d9 : Int), .int .u8 (d10 : Int), .int .u8 (d11 : Int), .int .u16 t] o xs) := ⟨Blk.new w 31 _, hp.below ((Below.refl _ w).alloc (Nat.le_refl _) (.cells #[.int .u8 (d0 : Int), .int .u8 (d1 : Int), .int .u8 (d2 : Int), .int .u8 (d3 : Int), .int .u8 (d4 : Int), .int .u8 (d5 : Int), .int .u8 (d6 : Int), .int .u8 (d7 : Int), .int .u8 (d8 : Int), .int .u8 (d9 : Int), .int .u8 (d10 : Int), .int .u8 (d11 : Int), .int .u16 t] 31)) HL.out, (Below.refl _ _).alloc (Nat.le_refl _) _, rfl, HL.out⟩
  have heq := eq31g (d0 : Int) (d1 : Int) (d2 : Int) (d3 : Int) (d4 : Int) (d5 : Int) (d6 : Int) (d7 : Int) (d8 : Int) (d9 : Int) (d10 : Int) (d11 : Int) t
  have HK := Lib.hid hK
  clear hx hb hd hE hpv hp hK
  go_enter Tryd.func5, Tryd.ntmps5
  go_wp2_with fail
  have S0 := HS0.out
  clear HS0
  generalize (w.alloc (.cells #[.int .u8 (d0 : Int), .int .u8 (d1 : Int), .int .u8 (d2 : Int), .int .u8 (d3 : Int), .int .u8 (d4 : Int), .int .u8 (d5 : Int), .int .u8 (d6 : Int), .int .u8 (d7 : Int), .int .u8 (d8 : Int), .int .u8 (d9 : Int), .int .u8 (d10 : Int), .int .u8 (d11 : Int), .int .u16 t] 31)) = W0 at *
  refine (write_all (d0 : Int) (d1 : Int) (d2 : Int) (d3 : Int) (d4 : Int) (d5 : Int) (d6 : Int) (d7 : Int) (d8 : Int) (d9 : Int) (d10 : Int) (d11 : Int) t ht0 ht1 o n c xs _ HX.out S0.p hn).mono ?_
  rintro e W1 ⟨vu, rfl, ou, b1⟩
  have S1 := S0.below b1
  rw [HK.out]
  clear S0 b1
  have hl : (wrP (d0 : Int) (d1 : Int) (d2 : Int) (d3 : Int) (d4 : Int) (d5 : Int) (d6 : Int) (d7 : Int) (d8 : Int) (d9 : Int) (d10 : Int) (d11 : Int) t xs).length = 14 + n := by rw [hwp, List.length_append, HX.out]; rfl
  rw [hl, hwp] at ou
  obtain ⟨uo, uc, rfl, pu, lu, ucn, _⟩ := own_pay ou
  clear hl hwp ou
  have b5 : (14 : Int) + (n : Int) ≤ 100000 := by omega
  go_wp2_with fail
  refine (read_all uo (14 + n) uc (hb14 (d0 : Int) (d1 : Int) (d2 : Int) (d3 : Int) (d4 : Int) (d5 : Int) (d6 : Int) (d7 : Int) (d8 : Int) (d9 : Int) (d10 : Int) (d11 : Int) t ++ xs) _ lu pu (Bs_wr d0 d1 d2 d3 d4 d5 d6 d7 d8 d9 d10 d11 t xs HD.out ht0 ht1 HB.out) ucn).mono ?_
  rintro e W2 ⟨vp, rfl, op, b2'⟩
  have q3 : rdK (hb14 (d0 : Int) (d1 : Int) (d2 : Int) (d3 : Int) (d4 : Int) (d5 : Int) (d6 : Int) (d7 : Int) (d8 : Int) (d9 : Int) (d10 : Int) (d11 : Int) t ++ xs) = 3 := by unfold rdK; rw [if_pos (by have := HX.out; simp [hb14]; omega)]
  rw [q3]
  unfold rdV
  have HS := Lib.hid (S1.below b2')
  clear S1 op b2' q3 pu lu
  go_wp2_with fail
  have S1 := HS.out.alloc (.cells #[.int .u8 (rh (hb14 (d0 : Int) (d1 : Int) (d2 : Int) (d3 : Int) (d4 : Int) (d5 : Int) (d6 : Int) (d7 : Int) (d8 : Int) (d9 : Int) (d10 : Int) (d11 : Int) t ++ xs) 0), .int .u8 (rh (hb14 (d0 : Int) (d1 : Int) (d2 : Int) (d3 : Int) (d4 : Int) (d5 : Int) (d6 : Int) (d7 : Int) (d8 : Int) (d9 : Int) (d10 : Int) (d11 : Int) t ++ xs) 1), .int .u8 (rh (hb14 (d0 : Int) (d1 : Int) (d2 : Int) (d3 : Int) (d4 : Int) (d5 : Int) (d6 : Int) (d7 : Int) (d8 : Int) (d9 : Int) (d10 : Int) (d11 : Int) t ++ xs) 2), .int .u8 (rh (hb14 (d0 : Int) (d1 : Int) (d2 : Int) (d3 : Int) (d4 : Int) (d5 : Int) (d6 : Int) (d7 : Int) (d8 : Int) (d9 : Int) (d10 : Int) (d11 : Int) t ++ xs) 3), .int .u8 (rh (hb14 (d0 : Int) (d1 : Int) (d2 : Int) (d3 : Int) (d4 : Int) (d5 : Int) (d6 : Int) (d7 : Int) (d8 : Int) (d9 : Int) (d10 : Int) (d11 : Int) t ++ xs) 4), .int .u8 (rh (hb14 (d0 : Int) (d1 : Int) (d2 : Int) (d3 : Int) (d4 : Int) (d5 : Int) (d6 : Int) (d7 : Int) (d8 : Int) (d9 : Int) (d10 : Int) (d11 : Int) t ++ xs) 5), .int .u8 (rh (hb14 (d0 : Int) (d1 : Int) (d2 : Int) (d3 : Int) (d4 : Int) (d5 : Int) (d6 : Int) (d7 : Int) (d8 : Int) (d9 : Int) (d10 : Int) (d11 : Int) t ++ xs) 6), .int .u8 (rh (hb14 (d0 : Int) (d1 : Int) (d2 : Int) (d3 : Int) (d4 : Int) (d5 : Int) (d6 : Int) (d7 : Int) (d8 : Int) (d9 : Int) (d10 : Int) (d11 : Int) t ++ xs) 7), .int .u8 (rh (hb14 (d0 : Int) (d1 : Int) (d2 : Int) (d3 : Int) (d4 : Int) (d5 : Int) (d6 : Int) (d7 : Int) (d8 : Int) (d9 : Int) (d10 : Int) (d11 : Int) t ++ xs) 8), .int .u8 (rh (hb14 (d0 : Int) (d1 : Int) (d2 : Int) (d3 : Int) (d4 : Int) (d5 : Int) (d6 : Int) (d7 : Int) (d8 : Int) (d9 : Int) (d10 : Int) (d11 : Int) t ++ xs) 9), .int .u8 (rh (hb14 (d0 : Int) (d1 : Int) (d2 : Int) (d3 : Int) (d4 : Int) (d5 : Int) (d6 : Int) (d7 : Int) (d8 : Int) (d9 : Int) (d10 : Int) (d11 : Int) t ++ xs) 10), .int .u8 (rh (hb14 (d0 : Int) (d1 : Int) (d2 : Int) (d3 : Int) (d4 : Int) (d5 : Int) (d6 : Int) (d7 : Int) (d8 : Int) (d9 : Int) (d10 : Int) (d11 : Int) t ++ xs) 11), .int .u16 (rt (hb14 (d0 : Int) (d1 : Int) (d2 : Int) (d3 : Int) (d4 : Int) (d5 : Int) (d6 : Int) (d7 : Int) (d8 : Int) (d9 : Int) (d10 : Int) (d11 : Int) t ++ xs))] 31)
  clear HS
  generalize W2.alloc (.cells #[.int .u8 (rh (hb14 (d0 : Int) (d1 : Int) (d2 : Int) (d3 : Int) (d4 : Int) (d5 : Int) (d6 : Int) (d7 : Int) (d8 : Int) (d9 : Int) (d10 : Int) (d11 : Int) t ++ xs) 0), .int .u8 (rh (hb14 (d0 : Int) (d1 : Int) (d2 : Int) (d3 : Int) (d4 : Int) (d5 : Int) (d6 : Int) (d7 : Int) (d8 : Int) (d9 : Int) (d10 : Int) (d11 : Int) t ++ xs) 1), .int .u8 (rh (hb14 (d0 : Int) (d1 : Int) (d2 : Int) (d3 : Int) (d4 : Int) (d5 : Int) (d6 : Int) (d7 : Int) (d8 : Int) (d9 : Int) (d10 : Int) (d11 : Int) t ++ xs) 2), .int .u8 (rh (hb14 (d0 : Int) (d1 : Int) (d2 : Int) (d3 : Int) (d4 : Int) (d5 : Int) (d6 : Int) (d7 : Int) (d8 : Int) (d9 : Int) (d10 : Int) (d11 : Int) t ++ xs) 3), .int .u8 (rh (hb14 (d0 : Int) (d1 : Int) (d2 : Int) (d3 : Int) (d4 : Int) (d5 : Int) (d6 : Int) (d7 : Int) (d8 : Int) (d9 : Int) (d10 : Int) (d11 : Int) t ++ xs) 4), .int .u8 (rh (hb14 (d0 : Int) (d1 : Int) (d2 : Int) (d3 : Int) (d4 : Int) (d5 : Int) (d6 : Int) (d7 : Int) (d8 : Int) (d9 : Int) (d10 : Int) (d11 : Int) t ++ xs) 5), .int .u8 (rh (hb14 (d0 : Int) (d1 : Int) (d2 : Int) (d3 : Int) (d4 : Int) (d5 : Int) (d6 : Int) (d7 : Int) (d8 : Int) (d9 : Int) (d10 : Int) (d11 : Int) t ++ xs) 6), .int .u8 (rh (hb14 (d0 : Int) (d1 : Int) (d2 : Int) (d3 : Int) (d4 : Int) (d5 : Int) (d6 : Int) (d7 : Int) (d8 : Int) (d9 : Int) (d10 : Int) (d11 : Int) t ++ xs) 7), .int .u8 (rh (hb14 (d0 : Int) (d1 : Int) (d2 : Int) (d3 : Int) (d4 : Int) (d5 : Int) (d6 : Int) (d7 : Int) (d8 : Int) (d9 : Int) (d10 : Int) (d11 : Int) t ++ xs) 8), .int .u8 (rh (hb14 (d0 : Int) (d1 : Int) (d2 : Int) (d3 : Int) (d4 : Int) (d5 : Int) (d6 : Int) (d7 : Int) (d8 : Int) (d9 : Int) (d10 : Int) (d11 : Int) t ++ xs) 9), .int .u8 (rh (hb14 (d0 : Int) (d1 : Int) (d2 : Int) (d3 : Int) (d4 : Int) (d5 : Int) (d6 : Int) (d7 : Int) (d8 : Int) (d9 : Int) (d10 : Int) (d11 : Int) t ++ xs) 10), .int .u8 (rh (hb14 (d0 : Int) (d1 : Int) (d2 : Int) (d3 : Int) (d4 : Int) (d5 : Int) (d6 : Int) (d7 : Int) (d8 : Int) (d9 : Int) (d10 : Int) (d11 : Int) t ++ xs) 11), .int .u16 (rt (hb14 (d0 : Int) (d1 : Int) (d2 : Int) (d3 : Int) (d4 : Int) (d5 : Int) (d6 : Int) (d7 : Int) (d8 : Int) (d9 : Int) (d10 : Int) (d11 : Int) t ++ xs))] 31) = W2' at *
  refine (read_all o n c xs _ HX.out S1.p HB.out hnc).mono ?_
  rintro e W3 ⟨vq, rfl, oq, b3'⟩
  have S3 := (S1.below b3').alloc (.cells #[.int .u8 (rh xs 0), .int .u8 (rh xs 1), .int .u8 (rh xs 2), .int .u8 (rh xs 3), .int .u8 (rh xs 4), .int .u8 (rh xs 5), .int .u8 (rh xs 6), .int .u8 (rh xs 7), .int .u8 (rh xs 8), .int .u8 (rh xs 9), .int .u8 (rh xs 10), .int .u8 (rh xs 11), .int .u16 (rt xs)] 31)
  unfold rdV
  obtain ⟨K, hKK⟩ : ∃ K, rdK xs = K := ⟨_, rfl⟩
  have hK0 : (K == 0) = false := by rw [← hKK]; exact rdK_no hf
  rw [hKK]
  have x0 : (W3.alloc (.cells #[.int .u8 (rh xs 0), .int .u8 (rh xs 1), .int .u8 (rh xs 2), .int .u8 (rh xs 3), .int .u8 (rh xs 4), .int .u8 (rh xs 5), .int .u8 (rh xs 6), .int .u8 (rh xs 7), .int .u8 (rh xs 8), .int .u8 (rh xs 9), .int .u8 (rh xs 10), .int .u8 (rh xs 11), .int .u16 (rt xs)] 31)).cell? ⟨w.heap.size, 6, none⟩ = some (.int .u8 (d6 : Int)) := S3.r.cell 6
  have x1 : (W3.alloc (.cells #[.int .u8 (rh xs 0), .int .u8 (rh xs 1), .int .u8 (rh xs 2), .int .u8 (rh xs 3), .int .u8 (rh xs 4), .int .u8 (rh xs 5), .int .u8 (rh xs 6), .int .u8 (rh xs 7), .int .u8 (rh xs 8), .int .u8 (rh xs 9), .int .u8 (rh xs 10), .int .u8 (rh xs 11), .int .u16 (rt xs)] 31)).cell? ⟨w.heap.size, 7, none⟩ = some (.int .u8 (d7 : Int)) := S3.r.cell 7
  have x2 : (W3.alloc (.cells #[.int .u8 (rh xs 0), .int .u8 (rh xs 1), .int .u8 (rh xs 2), .int .u8 (rh xs 3), .int .u8 (rh xs 4), .int .u8 (rh xs 5), .int .u8 (rh xs 6), .int .u8 (rh xs 7), .int .u8 (rh xs 8), .int .u8 (rh xs 9), .int .u8 (rh xs 10), .int .u8 (rh xs 11), .int .u16 (rt xs)] 31)).cell? ⟨w.heap.size, 8, none⟩ = some (.int .u8 (d8 : Int)) := S3.r.cell 8
  have x3 : (W3.alloc (.cells #[.int .u8 (rh xs 0), .int .u8 (rh xs 1), .int .u8 (rh xs 2), .int .u8 (rh xs 3), .int .u8 (rh xs 4), .int .u8 (rh xs 5), .int .u8 (rh xs 6), .int .u8 (rh xs 7), .int .u8 (rh xs 8), .int .u8 (rh xs 9), .int .u8 (rh xs 10), .int .u8 (rh xs 11), .int .u16 (rt xs)] 31)).cell? ⟨w.heap.size, 9, none⟩ = some (.int .u8 (d9 : Int)) := S3.r.cell 9
  have x4 : (W3.alloc (.cells #[.int .u8 (rh xs 0), .int .u8 (rh xs 1), .int .u8 (rh xs 2), .int .u8 (rh xs 3), .int .u8 (rh xs 4), .int .u8 (rh xs 5), .int .u8 (rh xs 6), .int .u8 (rh xs 7), .int .u8 (rh xs 8), .int .u8 (rh xs 9), .int .u8 (rh xs 10), .int .u8 (rh xs 11), .int .u16 (rt xs)] 31)).cell? ⟨w.heap.size, 10, none⟩ = some (.int .u8 (d10 : Int)) := S3.r.cell 10
  have x5 : (W3.alloc (.cells #[.int .u8 (rh xs 0), .int .u8 (rh xs 1), .int .u8 (rh xs 2), .int .u8 (rh xs 3), .int .u8 (rh xs 4), .int .u8 (rh xs 5), .int .u8 (rh xs 6), .int .u8 (rh xs 7), .int .u8 (rh xs 8), .int .u8 (rh xs 9), .int .u8 (rh xs 10), .int .u8 (rh xs 11), .int .u16 (rt xs)] 31)).cell? ⟨w.heap.size, 11, none⟩ = some (.int .u8 (d11 : Int)) := S3.r.cell 11
  have HS := Lib.hid S3
  clear S1 S3 oq b3' hKK
  go_wp2_with fail
  have S5 := HS.out
  clear HS x0 x1 x2 x3 x4 x5 hK0
  generalize W3.alloc (.cells #[.int .u8 (rh xs 0), .int .u8 (rh xs 1), .int .u8 (rh xs 2), .int .u8 (rh xs 3), .int .u8 (rh xs 4), .int .u8 (rh xs 5), .int .u8 (rh xs 6), .int .u8 (rh xs 7), .int .u8 (rh xs 8), .int .u8 (rh xs 9), .int .u8 (rh xs 10), .int .u8 (rh xs 11), .int .u16 (rt xs)] 31) = W6 at *
  obtain ⟨_, _, _, _, _, _, u6, u7, u8, u9, u10, u11⟩ := HD.out
  refine (text_any d6 d7 d8 d9 d10 d11 _ (HEn.out.below S5.b) u6 u7 u8 u9 u10 u11).mono ?_
  rintro e W7 ⟨rfl, b7⟩
  have S7 := S5.below b7
  clear S5 b7
  obtain ⟨TX, hTX⟩ : ∃ TX, txt ⟨d6, d7, d8, d9, d10, d11⟩ = TX := ⟨_, rfl⟩
  rw [hTX]
  have HTX := Lib.hid hTX
  clear hTX
  go_wp2_with fail
  refine (parse_pv TX (some ⟨d6, d7, d8, d9, d10, d11⟩) _ ⟨⟨u6, u7, u8, u9, u10, u11⟩, HTX.out.symm⟩ (by rw [← HTX.out]; show (txt _).size ≤ 1000; rw [txt_size]; decide) (HEn.out.below S7.b)).mono ?_
  rintro e W8 ⟨rfl, b8⟩
  have S8 := (S7.below b8).alloc (.cells #[.int .u8 (d6 : Int), .int .u8 (d7 : Int), .int .u8 (d8 : Int), .int .u8 (d9 : Int), .int .u8 (d10 : Int), .int .u8 (d11 : Int)] 22)
  have X8 : Blk (W8.alloc (.cells #[.int .u8 (d6 : Int), .int .u8 (d7 : Int), .int .u8 (d8 : Int), .int .u8 (d9 : Int), .int .u8 (d10 : Int), .int .u8 (d11 : Int)] 22)) W8.heap.size 22 #[.int .u8 (d6 : Int), .int .u8 (d7 : Int), .int .u8 (d8 : Int), .int .u8 (d9 : Int), .int .u8 (d10 : Int), .int .u8 (d11 : Int)] := Blk.new _ _ _
  have HS := Lib.hid (And.intro S8 X8)
  clear S7 S8 X8 b8
  unfold pr Six.vals
  go_wp2_with fail
  obtain ⟨S8, X8⟩ := HS.out
  clear HS
  generalize (W8.alloc (.cells #[.int .u8 (d6 : Int), .int .u8 (d7 : Int), .int .u8 (d8 : Int), .int .u8 (d9 : Int), .int .u8 (d10 : Int), .int .u8 (d11 : Int)] 22)) = W9 at *
  generalize W8.heap.size = N8 at *
  refine (parse_pv s (some x) _ HPV.out (by omega) (HEn.out.below S8.b)).mono ?_
  rintro e W10 ⟨rfl, b10⟩
  unfold pr Six.vals
  have S10 := (S8.below b10).alloc (.cells #[.int .u8 (x.a : Int), .int .u8 (x.b : Int), .int .u8 (x.c : Int), .int .u8 (x.d : Int), .int .u8 (x.e : Int), .int .u8 (x.f : Int)] 22)
  have X10 := (X8.below b10 X8.lt).alloc (.cells #[.int .u8 (x.a : Int), .int .u8 (x.b : Int), .int .u8 (x.c : Int), .int .u8 (x.d : Int), .int .u8 (x.e : Int), .int .u8 (x.f : Int)] 22)
  have x0 : (W10.alloc (.cells #[.int .u8 (x.a : Int), .int .u8 (x.b : Int), .int .u8 (x.c : Int), .int .u8 (x.d : Int), .int .u8 (x.e : Int), .int .u8 (x.f : Int)] 22)).cell? ⟨w.heap.size, 6, none⟩ = some (.int .u8 (d6 : Int)) := S10.r.cell 6
  have x1 : (W10.alloc (.cells #[.int .u8 (x.a : Int), .int .u8 (x.b : Int), .int .u8 (x.c : Int), .int .u8 (x.d : Int), .int .u8 (x.e : Int), .int .u8 (x.f : Int)] 22)).cell? ⟨w.heap.size, 7, none⟩ = some (.int .u8 (d7 : Int)) := S10.r.cell 7
  have x2 : (W10.alloc (.cells #[.int .u8 (x.a : Int), .int .u8 (x.b : Int), .int .u8 (x.c : Int), .int .u8 (x.d : Int), .int .u8 (x.e : Int), .int .u8 (x.f : Int)] 22)).cell? ⟨w.heap.size, 8, none⟩ = some (.int .u8 (d8 : Int)) := S10.r.cell 8
  have x3 : (W10.alloc (.cells #[.int .u8 (x.a : Int), .int .u8 (x.b : Int), .int .u8 (x.c : Int), .int .u8 (x.d : Int), .int .u8 (x.e : Int), .int .u8 (x.f : Int)] 22)).cell? ⟨w.heap.size, 9, none⟩ = some (.int .u8 (d9 : Int)) := S10.r.cell 9
  have x4 : (W10.alloc (.cells #[.int .u8 (x.a : Int), .int .u8 (x.b : Int), .int .u8 (x.c : Int), .int .u8 (x.d : Int), .int .u8 (x.e : Int), .int .u8 (x.f : Int)] 22)).cell? ⟨w.heap.size, 10, none⟩ = some (.int .u8 (d10 : Int)) := S10.r.cell 10
  have x5 : (W10.alloc (.cells #[.int .u8 (x.a : Int), .int .u8 (x.b : Int), .int .u8 (x.c : Int), .int .u8 (x.d : Int), .int .u8 (x.e : Int), .int .u8 (x.f : Int)] 22)).cell? ⟨w.heap.size, 11, none⟩ = some (.int .u8 (d11 : Int)) := S10.r.cell 11
  obtain ⟨y0, y1, y2, y3, y4, y5⟩ := SixBlk.cells X10
  have heq2 := eq22 d6 d7 d8 d9 d10 d11
  have HS := Lib.hid S10
  clear S8 X8 S10 X10 b10
  go_wp2_with fail
  have S10 := HS.out
  clear HS x0 x1 x2 x3 x4 x5 y0 y1 y2 y3 y4 y5 heq2
  generalize (W10.alloc (.cells #[.int .u8 (x.a : Int), .int .u8 (x.b : Int), .int .u8 (x.c : Int), .int .u8 (x.d : Int), .int .u8 (x.e : Int), .int .u8 (x.f : Int)] 22)) = W11 at *
  obtain ⟨⟨v0, v1, v2, v3, v4, v5⟩, hst⟩ := HPV.out
  refine (text_any x.a x.b x.c x.d x.e x.f _ (HEn.out.below S10.b) v0 v1 v2 v3 v4 v5).mono ?_
  rintro e W12 ⟨rfl, b12⟩
  have S12 := S10.below b12
  rw [show txt ⟨x.a, x.b, x.c, x.d, x.e, x.f⟩ = s from hst.symm]
  have s1 : (s.toList == s.toList) = true := by simp
  clear S10 b12
  go_wp2_with fail
  refine (known_any _ (HEn.out.below S12.b)).mono ?_
  rintro e w9 ⟨rfl, b9⟩
  have b10 := S12.b.trans (b9.mono S12.b.size)
  clear b9
  go_wp2_with fail
  go_ret
  exact ⟨rfl, b10⟩
set_option maxHeartbeats 2000000 in
set_option maxRecDepth 100000 in
theorem back_CNN (d0 d1 d2 d3 d4 d5 d6 d7 d8 d9 d10 d11 : Nat) (t : Int) (hd : d0 < 256 ∧ d1 < 256 ∧ d2 < 256 ∧ d3 < 256 ∧ d4 < 256 ∧ d5 < 256 ∧ d6 < 256 ∧ d7 < 256 ∧ d8 < 256 ∧ d9 < 256 ∧ d10 < 256 ∧ d11 < 256) (ht0 : 0 ≤ t) (ht1 : t ≤ 65535) (o : Option Addr) (n c : Nat) (xs : List Int) (s : ByteArray) (w : World) (hx : xs.length = n) (h1 : 1586 < n) (h1' : n ≤ 1646) (hf : ¬ fits xs) (hpv : pv s none) (hs : s.size ≤ 100) (hp : Pay w o xs) (hb : Bs xs) (hn : o = none → c = 0) (hnc : n ≤ c) (hE : Env w) :
    Calls Tryd.prog 5 #[.agg #[.int .u8 (d0 : Int), .int .u8 (d1 : Int), .int .u8 (d2 : Int), .int .u8 (d3 : Int), .int .u8 (d4 : Int), .int .u8 (d5 : Int), .int .u8 (d6 : Int), .int .u8 (d7 : Int), .int .u8 (d8 : Int), .int .u8 (d9 : Int), .int .u8 (d10 : Int), .int .u8 (d11 : Int), .int .u16 t], .slice o n c, .string s] w fun e w' => e = .returned (.bool true) ∧ Below w.heap.size w w' := by
  have bs : (n : Int) ≤ 4000 := by omega
  have b2 : (s.size : Int) ≤ 100 := by omega
  have b3 : (n : Int) ≤ 1646 := by omega
  have b4 : 1600 < 14 + (n : Int) := by omega
  have hK : wrK xs = 0 := by unfold wrK; rw [if_pos (by omega)]
  have hwp : wrP (d0 : Int) (d1 : Int) (d2 : Int) (d3 : Int) (d4 : Int) (d5 : Int) (d6 : Int) (d7 : Int) (d8 : Int) (d9 : Int) (d10 : Int) (d11 : Int) t xs = hb14 (d0 : Int) (d1 : Int) (d2 : Int) (d3 : Int) (d4 : Int) (d5 : Int) (d6 : Int) (d7 : Int) (d8 : Int) (d9 : Int) (d10 : Int) (d11 : Int) t ++ xs := by unfold wrP; rw [if_pos (by omega)]
  have HX := Lib.hid hx
  have HB := Lib.hid hb
  have HD := Lib.hid hd
  have HEn := Lib.hid hE
  have HPV := Lib.hid hpv
  have HL : Hid (∀ b, o = some b → 0 < xs.length → b.block < w.heap.size) := fun b hb h0 => by subst hb; exact At.lt hp h0
  have HS0 : Hid (WrS w (w.alloc (.cells #[.int .u8 (d0 : Int), .int .u8 (d1 : Int), .int .u8 (d2 : Int), .int .u8 (d3 : Int), .int .u8 (d4 : Int), .int .u8 (d5 : Int), .int .u8 (d6 : Int), .int .u8 (d7 : Int), .int .u8 (d8 : Int), .int .u8 (d9 : Int), .int .u8 (d10 : Int), .int .u8 (d11 : Int), .int .u16 t] 31)) w.heap.size #[.int .u8 (d0 : Int), .int .u8 (d1 : Int), .int .u8 (d2 : Int), .int .u8 (d3 : Int), .int .u8 (d4 : Int), .int .u8 (d5 : Int), .int .u8 (d6 : Int), .int .u8 (d7 : Int), .int .u8 (d8 : Int), .int .u8 (d9 : Int), .int .u8 (d10 : Int), .int .u8 (d11 : Int), .int .u16 t] o xs) := ⟨Blk.new w 31 _, hp.below ((Below.refl _ w).alloc (Nat.le_refl _) (.cells #[.int .u8 (d0 : Int), .int .u8 (d1 : Int), .int .u8 (d2 : Int), .int .u8 (d3 : Int), .int .u8 (d4 : Int), .int .u8 (d5 : Int), .int .u8 (d6 : Int), .int .u8 (d7 : Int), .int .u8 (d8 : Int), .int .u8 (d9 : Int), .int .u8 (d10 : Int), .int .u8 (d11 : Int), .int .u16 t] 31)) HL.out, (Below.refl _ _).alloc (Nat.le_refl _) _, rfl, HL.out⟩
  have heq := eq31g (d0 : Int) (d1 : Int) (d2 : Int) (d3 : Int) (d4 : Int) (d5 : Int) (d6 : Int) (d7 : Int) (d8 : Int) (d9 : Int) (d10 : Int) (d11 : Int) t
  have HK := Lib.hid hK
  clear hx hb hd hE hpv hp hK
  go_enter Tryd.func5, Tryd.ntmps5
  go_wp2_with fail
  have S0 := HS0.out
  clear HS0
  generalize (w.alloc (.cells #[.int .u8 (d0 : Int), .int .u8 (d1 : Int), .int .u8 (d2 : Int), .int .u8 (d3 : Int), .int .u8 (d4 : Int), .int .u8 (d5 : Int), .int .u8 (d6 : Int), .int .u8 (d7 : Int), .int .u8 (d8 : Int), .int .u8 (d9 : Int), .int .u8 (d10 : Int), .int .u8 (d11 : Int), .int .u16 t] 31)) = W0 at *
  refine (write_all (d0 : Int) (d1 : Int) (d2 : Int) (d3 : Int) (d4 : Int) (d5 : Int) (d6 : Int) (d7 : Int) (d8 : Int) (d9 : Int) (d10 : Int) (d11 : Int) t ht0 ht1 o n c xs _ HX.out S0.p hn).mono ?_
  rintro e W1 ⟨vu, rfl, ou, b1⟩
  have S1 := S0.below b1
  rw [HK.out]
  clear S0 b1
  have hl : (wrP (d0 : Int) (d1 : Int) (d2 : Int) (d3 : Int) (d4 : Int) (d5 : Int) (d6 : Int) (d7 : Int) (d8 : Int) (d9 : Int) (d10 : Int) (d11 : Int) t xs).length = 14 + n := by rw [hwp, List.length_append, HX.out]; rfl
  rw [hl, hwp] at ou
  obtain ⟨uo, uc, rfl, pu, lu, ucn, _⟩ := own_pay ou
  clear hl hwp ou
  have b5 : (14 : Int) + (n : Int) ≤ 100000 := by omega
  go_wp2_with fail
  refine (read_all uo (14 + n) uc (hb14 (d0 : Int) (d1 : Int) (d2 : Int) (d3 : Int) (d4 : Int) (d5 : Int) (d6 : Int) (d7 : Int) (d8 : Int) (d9 : Int) (d10 : Int) (d11 : Int) t ++ xs) _ lu pu (Bs_wr d0 d1 d2 d3 d4 d5 d6 d7 d8 d9 d10 d11 t xs HD.out ht0 ht1 HB.out) ucn).mono ?_
  rintro e W2 ⟨vp, rfl, op, b2'⟩
  have q3 : rdK (hb14 (d0 : Int) (d1 : Int) (d2 : Int) (d3 : Int) (d4 : Int) (d5 : Int) (d6 : Int) (d7 : Int) (d8 : Int) (d9 : Int) (d10 : Int) (d11 : Int) t ++ xs) = 3 := by unfold rdK; rw [if_pos (by have := HX.out; simp [hb14]; omega)]
  rw [q3]
  unfold rdV
  have HS := Lib.hid (S1.below b2')
  clear S1 op b2' q3 pu lu
  go_wp2_with fail
  have S1 := HS.out.alloc (.cells #[.int .u8 (rh (hb14 (d0 : Int) (d1 : Int) (d2 : Int) (d3 : Int) (d4 : Int) (d5 : Int) (d6 : Int) (d7 : Int) (d8 : Int) (d9 : Int) (d10 : Int) (d11 : Int) t ++ xs) 0), .int .u8 (rh (hb14 (d0 : Int) (d1 : Int) (d2 : Int) (d3 : Int) (d4 : Int) (d5 : Int) (d6 : Int) (d7 : Int) (d8 : Int) (d9 : Int) (d10 : Int) (d11 : Int) t ++ xs) 1), .int .u8 (rh (hb14 (d0 : Int) (d1 : Int) (d2 : Int) (d3 : Int) (d4 : Int) (d5 : Int) (d6 : Int) (d7 : Int) (d8 : Int) (d9 : Int) (d10 : Int) (d11 : Int) t ++ xs) 2), .int .u8 (rh (hb14 (d0 : Int) (d1 : Int) (d2 : Int) (d3 : Int) (d4 : Int) (d5 : Int) (d6 : Int) (d7 : Int) (d8 : Int) (d9 : Int) (d10 : Int) (d11 : Int) t ++ xs) 3), .int .u8 (rh (hb14 (d0 : Int) (d1 : Int) (d2 : Int) (d3 : Int) (d4 : Int) (d5 : Int) (d6 : Int) (d7 : Int) (d8 : Int) (d9 : Int) (d10 : Int) (d11 : Int) t ++ xs) 4), .int .u8 (rh (hb14 (d0 : Int) (d1 : Int) (d2 : Int) (d3 : Int) (d4 : Int) (d5 : Int) (d6 : Int) (d7 : Int) (d8 : Int) (d9 : Int) (d10 : Int) (d11 : Int) t ++ xs) 5), .int .u8 (rh (hb14 (d0 : Int) (d1 : Int) (d2 : Int) (d3 : Int) (d4 : Int) (d5 : Int) (d6 : Int) (d7 : Int) (d8 : Int) (d9 : Int) (d10 : Int) (d11 : Int) t ++ xs) 6), .int .u8 (rh (hb14 (d0 : Int) (d1 : Int) (d2 : Int) (d3 : Int) (d4 : Int) (d5 : Int) (d6 : Int) (d7 : Int) (d8 : Int) (d9 : Int) (d10 : Int) (d11 : Int) t ++ xs) 7), .int .u8 (rh (hb14 (d0 : Int) (d1 : Int) (d2 : Int) (d3 : Int) (d4 : Int) (d5 : Int) (d6 : Int) (d7 : Int) (d8 : Int) (d9 : Int) (d10 : Int) (d11 : Int) t ++ xs) 8), .int .u8 (rh (hb14 (d0 : Int) (d1 : Int) (d2 : Int) (d3 : Int) (d4 : Int) (d5 : Int) (d6 : Int) (d7 : Int) (d8 : Int) (d9 : Int) (d10 : Int) (d11 : Int) t ++ xs) 9), .int .u8 (rh (hb14 (d0 : Int) (d1 : Int) (d2 : Int) (d3 : Int) (d4 : Int) (d5 : Int) (d6 : Int) (d7 : Int) (d8 : Int) (d9 : Int) (d10 : Int) (d11 : Int) t ++ xs) 10), .int .u8 (rh (hb14 (d0 : Int) (d1 : Int) (d2 : Int) (d3 : Int) (d4 : Int) (d5 : Int) (d6 : Int) (d7 : Int) (d8 : Int) (d9 : Int) (d10 : Int) (d11 : Int) t ++ xs) 11), .int .u16 (rt (hb14 (d0 : Int) (d1 : Int) (d2 : Int) (d3 : Int) (d4 : Int) (d5 : Int) (d6 : Int) (d7 : Int) (d8 : Int) (d9 : Int) (d10 : Int) (d11 : Int) t ++ xs))] 31)
  clear HS
  generalize W2.alloc (.cells #[.int .u8 (rh (hb14 (d0 : Int) (d1 : Int) (d2 : Int) (d3 : Int) (d4 : Int) (d5 : Int) (d6 : Int) (d7 : Int) (d8 : Int) (d9 : Int) (d10 : Int) (d11 : Int) t ++ xs) 0), .int .u8 (rh (hb14 (d0 : Int) (d1 : Int) (d2 : Int) (d3 : Int) (d4 : Int) (d5 : Int) (d6 : Int) (d7 : Int) (d8 : Int) (d9 : Int) (d10 : Int) (d11 : Int) t ++ xs) 1), .int .u8 (rh (hb14 (d0 : Int) (d1 : Int) (d2 : Int) (d3 : Int) (d4 : Int) (d5 : Int) (d6 : Int) (d7 : Int) (d8 : Int) (d9 : Int) (d10 : Int) (d11 : Int) t ++ xs) 2), .int .u8 (rh (hb14 (d0 : Int) (d1 : Int) (d2 : Int) (d3 : Int) (d4 : Int) (d5 : Int) (d6 : Int) (d7 : Int) (d8 : Int) (d9 : Int) (d10 : Int) (d11 : Int) t ++ xs) 3), .int .u8 (rh (hb14 (d0 : Int) (d1 : Int) (d2 : Int) (d3 : Int) (d4 : Int) (d5 : Int) (d6 : Int) (d7 : Int) (d8 : Int) (d9 : Int) (d10 : Int) (d11 : Int) t ++ xs) 4), .int .u8 (rh (hb14 (d0 : Int) (d1 : Int) (d2 : Int) (d3 : Int) (d4 : Int) (d5 : Int) (d6 : Int) (d7 : Int) (d8 : Int) (d9 : Int) (d10 : Int) (d11 : Int) t ++ xs) 5), .int .u8 (rh (hb14 (d0 : Int) (d1 : Int) (d2 : Int) (d3 : Int) (d4 : Int) (d5 : Int) (d6 : Int) (d7 : Int) (d8 : Int) (d9 : Int) (d10 : Int) (d11 : Int) t ++ xs) 6), .int .u8 (rh (hb14 (d0 : Int) (d1 : Int) (d2 : Int) (d3 : Int) (d4 : Int) (d5 : Int) (d6 : Int) (d7 : Int) (d8 : Int) (d9 : Int) (d10 : Int) (d11 : Int) t ++ xs) 7), .int .u8 (rh (hb14 (d0 : Int) (d1 : Int) (d2 : Int) (d3 : Int) (d4 : Int) (d5 : Int) (d6 : Int) (d7 : Int) (d8 : Int) (d9 : Int) (d10 : Int) (d11 : Int) t ++ xs) 8), .int .u8 (rh (hb14 (d0 : Int) (d1 : Int) (d2 : Int) (d3 : Int) (d4 : Int) (d5 : Int) (d6 : Int) (d7 : Int) (d8 : Int) (d9 : Int) (d10 : Int) (d11 : Int) t ++ xs) 9), .int .u8 (rh (hb14 (d0 : Int) (d1 : Int) (d2 : Int) (d3 : Int) (d4 : Int) (d5 : Int) (d6 : Int) (d7 : Int) (d8 : Int) (d9 : Int) (d10 : Int) (d11 : Int) t ++ xs) 10), .int .u8 (rh (hb14 (d0 : Int) (d1 : Int) (d2 : Int) (d3 : Int) (d4 : Int) (d5 : Int) (d6 : Int) (d7 : Int) (d8 : Int) (d9 : Int) (d10 : Int) (d11 : Int) t ++ xs) 11), .int .u16 (rt (hb14 (d0 : Int) (d1 : Int) (d2 : Int) (d3 : Int) (d4 : Int) (d5 : Int) (d6 : Int) (d7 : Int) (d8 : Int) (d9 : Int) (d10 : Int) (d11 : Int) t ++ xs))] 31) = W2' at *
  refine (read_all o n c xs _ HX.out S1.p HB.out hnc).mono ?_
  rintro e W3 ⟨vq, rfl, oq, b3'⟩
  have S3 := (S1.below b3').alloc (.cells #[.int .u8 (rh xs 0), .int .u8 (rh xs 1), .int .u8 (rh xs 2), .int .u8 (rh xs 3), .int .u8 (rh xs 4), .int .u8 (rh xs 5), .int .u8 (rh xs 6), .int .u8 (rh xs 7), .int .u8 (rh xs 8), .int .u8 (rh xs 9), .int .u8 (rh xs 10), .int .u8 (rh xs 11), .int .u16 (rt xs)] 31)
  unfold rdV
  obtain ⟨K, hKK⟩ : ∃ K, rdK xs = K := ⟨_, rfl⟩
  have hK0 : (K == 0) = false := by rw [← hKK]; exact rdK_no hf
  rw [hKK]
  have x0 : (W3.alloc (.cells #[.int .u8 (rh xs 0), .int .u8 (rh xs 1), .int .u8 (rh xs 2), .int .u8 (rh xs 3), .int .u8 (rh xs 4), .int .u8 (rh xs 5), .int .u8 (rh xs 6), .int .u8 (rh xs 7), .int .u8 (rh xs 8), .int .u8 (rh xs 9), .int .u8 (rh xs 10), .int .u8 (rh xs 11), .int .u16 (rt xs)] 31)).cell? ⟨w.heap.size, 6, none⟩ = some (.int .u8 (d6 : Int)) := S3.r.cell 6
  have x1 : (W3.alloc (.cells #[.int .u8 (rh xs 0), .int .u8 (rh xs 1), .int .u8 (rh xs 2), .int .u8 (rh xs 3), .int .u8 (rh xs 4), .int .u8 (rh xs 5), .int .u8 (rh xs 6), .int .u8 (rh xs 7), .int .u8 (rh xs 8), .int .u8 (rh xs 9), .int .u8 (rh xs 10), .int .u8 (rh xs 11), .int .u16 (rt xs)] 31)).cell? ⟨w.heap.size, 7, none⟩ = some (.int .u8 (d7 : Int)) := S3.r.cell 7
  have x2 : (W3.alloc (.cells #[.int .u8 (rh xs 0), .int .u8 (rh xs 1), .int .u8 (rh xs 2), .int .u8 (rh xs 3), .int .u8 (rh xs 4), .int .u8 (rh xs 5), .int .u8 (rh xs 6), .int .u8 (rh xs 7), .int .u8 (rh xs 8), .int .u8 (rh xs 9), .int .u8 (rh xs 10), .int .u8 (rh xs 11), .int .u16 (rt xs)] 31)).cell? ⟨w.heap.size, 8, none⟩ = some (.int .u8 (d8 : Int)) := S3.r.cell 8
  have x3 : (W3.alloc (.cells #[.int .u8 (rh xs 0), .int .u8 (rh xs 1), .int .u8 (rh xs 2), .int .u8 (rh xs 3), .int .u8 (rh xs 4), .int .u8 (rh xs 5), .int .u8 (rh xs 6), .int .u8 (rh xs 7), .int .u8 (rh xs 8), .int .u8 (rh xs 9), .int .u8 (rh xs 10), .int .u8 (rh xs 11), .int .u16 (rt xs)] 31)).cell? ⟨w.heap.size, 9, none⟩ = some (.int .u8 (d9 : Int)) := S3.r.cell 9
  have x4 : (W3.alloc (.cells #[.int .u8 (rh xs 0), .int .u8 (rh xs 1), .int .u8 (rh xs 2), .int .u8 (rh xs 3), .int .u8 (rh xs 4), .int .u8 (rh xs 5), .int .u8 (rh xs 6), .int .u8 (rh xs 7), .int .u8 (rh xs 8), .int .u8 (rh xs 9), .int .u8 (rh xs 10), .int .u8 (rh xs 11), .int .u16 (rt xs)] 31)).cell? ⟨w.heap.size, 10, none⟩ = some (.int .u8 (d10 : Int)) := S3.r.cell 10
  have x5 : (W3.alloc (.cells #[.int .u8 (rh xs 0), .int .u8 (rh xs 1), .int .u8 (rh xs 2), .int .u8 (rh xs 3), .int .u8 (rh xs 4), .int .u8 (rh xs 5), .int .u8 (rh xs 6), .int .u8 (rh xs 7), .int .u8 (rh xs 8), .int .u8 (rh xs 9), .int .u8 (rh xs 10), .int .u8 (rh xs 11), .int .u16 (rt xs)] 31)).cell? ⟨w.heap.size, 11, none⟩ = some (.int .u8 (d11 : Int)) := S3.r.cell 11
  have HS := Lib.hid S3
  clear S1 S3 oq b3' hKK
  go_wp2_with fail
  have S5 := HS.out
  clear HS x0 x1 x2 x3 x4 x5 hK0
  generalize W3.alloc (.cells #[.int .u8 (rh xs 0), .int .u8 (rh xs 1), .int .u8 (rh xs 2), .int .u8 (rh xs 3), .int .u8 (rh xs 4), .int .u8 (rh xs 5), .int .u8 (rh xs 6), .int .u8 (rh xs 7), .int .u8 (rh xs 8), .int .u8 (rh xs 9), .int .u8 (rh xs 10), .int .u8 (rh xs 11), .int .u16 (rt xs)] 31) = W6 at *
  obtain ⟨_, _, _, _, _, _, u6, u7, u8, u9, u10, u11⟩ := HD.out
  refine (text_any d6 d7 d8 d9 d10 d11 _ (HEn.out.below S5.b) u6 u7 u8 u9 u10 u11).mono ?_
  rintro e W7 ⟨rfl, b7⟩
  have S7 := S5.below b7
  clear S5 b7
  obtain ⟨TX, hTX⟩ : ∃ TX, txt ⟨d6, d7, d8, d9, d10, d11⟩ = TX := ⟨_, rfl⟩
  rw [hTX]
  have HTX := Lib.hid hTX
  clear hTX
  go_wp2_with fail
  refine (parse_pv TX (some ⟨d6, d7, d8, d9, d10, d11⟩) _ ⟨⟨u6, u7, u8, u9, u10, u11⟩, HTX.out.symm⟩ (by rw [← HTX.out]; show (txt _).size ≤ 1000; rw [txt_size]; decide) (HEn.out.below S7.b)).mono ?_
  rintro e W8 ⟨rfl, b8⟩
  have S8 := (S7.below b8).alloc (.cells #[.int .u8 (d6 : Int), .int .u8 (d7 : Int), .int .u8 (d8 : Int), .int .u8 (d9 : Int), .int .u8 (d10 : Int), .int .u8 (d11 : Int)] 22)
  have X8 : Blk (W8.alloc (.cells #[.int .u8 (d6 : Int), .int .u8 (d7 : Int), .int .u8 (d8 : Int), .int .u8 (d9 : Int), .int .u8 (d10 : Int), .int .u8 (d11 : Int)] 22)) W8.heap.size 22 #[.int .u8 (d6 : Int), .int .u8 (d7 : Int), .int .u8 (d8 : Int), .int .u8 (d9 : Int), .int .u8 (d10 : Int), .int .u8 (d11 : Int)] := Blk.new _ _ _
  have HS := Lib.hid (And.intro S8 X8)
  clear S7 S8 X8 b8
  unfold pr Six.vals
  go_wp2_with fail
  obtain ⟨S8, X8⟩ := HS.out
  clear HS
  generalize (W8.alloc (.cells #[.int .u8 (d6 : Int), .int .u8 (d7 : Int), .int .u8 (d8 : Int), .int .u8 (d9 : Int), .int .u8 (d10 : Int), .int .u8 (d11 : Int)] 22)) = W9 at *
  generalize W8.heap.size = N8 at *
  refine (parse_pv s none _ HPV.out (by omega) (HEn.out.below S8.b)).mono ?_
  rintro e W10 ⟨rfl, b10⟩
  unfold pr
  have S10 := (S8.below b10).alloc (.cells #[.int .u8 0, .int .u8 0, .int .u8 0, .int .u8 0, .int .u8 0, .int .u8 0] 22)
  have X10 := (X8.below b10 X8.lt).alloc (.cells #[.int .u8 0, .int .u8 0, .int .u8 0, .int .u8 0, .int .u8 0, .int .u8 0] 22)
  have x0 : (W10.alloc (.cells #[.int .u8 0, .int .u8 0, .int .u8 0, .int .u8 0, .int .u8 0, .int .u8 0] 22)).cell? ⟨w.heap.size, 6, none⟩ = some (.int .u8 (d6 : Int)) := S10.r.cell 6
  have x1 : (W10.alloc (.cells #[.int .u8 0, .int .u8 0, .int .u8 0, .int .u8 0, .int .u8 0, .int .u8 0] 22)).cell? ⟨w.heap.size, 7, none⟩ = some (.int .u8 (d7 : Int)) := S10.r.cell 7
  have x2 : (W10.alloc (.cells #[.int .u8 0, .int .u8 0, .int .u8 0, .int .u8 0, .int .u8 0, .int .u8 0] 22)).cell? ⟨w.heap.size, 8, none⟩ = some (.int .u8 (d8 : Int)) := S10.r.cell 8
  have x3 : (W10.alloc (.cells #[.int .u8 0, .int .u8 0, .int .u8 0, .int .u8 0, .int .u8 0, .int .u8 0] 22)).cell? ⟨w.heap.size, 9, none⟩ = some (.int .u8 (d9 : Int)) := S10.r.cell 9
  have x4 : (W10.alloc (.cells #[.int .u8 0, .int .u8 0, .int .u8 0, .int .u8 0, .int .u8 0, .int .u8 0] 22)).cell? ⟨w.heap.size, 10, none⟩ = some (.int .u8 (d10 : Int)) := S10.r.cell 10
  have x5 : (W10.alloc (.cells #[.int .u8 0, .int .u8 0, .int .u8 0, .int .u8 0, .int .u8 0, .int .u8 0] 22)).cell? ⟨w.heap.size, 11, none⟩ = some (.int .u8 (d11 : Int)) := S10.r.cell 11
  obtain ⟨y0, y1, y2, y3, y4, y5⟩ := SixBlk.cells X10
  have heq2 := eq22 d6 d7 d8 d9 d10 d11
  have HS := Lib.hid S10
  clear S8 X8 S10 X10 b10
  go_wp2_with fail
  have S10 := HS.out
  clear HS x0 x1 x2 x3 x4 x5 y0 y1 y2 y3 y4 y5 heq2
  generalize (W10.alloc (.cells #[.int .u8 0, .int .u8 0, .int .u8 0, .int .u8 0, .int .u8 0, .int .u8 0] 22)) = W11 at *
  refine (known_any _ (HEn.out.below S10.b)).mono ?_
  rintro e w9 ⟨rfl, b9⟩
  have b10 := S10.b.trans (b9.mono S10.b.size)
  clear b9
  go_wp2_with fail
  go_ret
  exact ⟨rfl, b10⟩
end Go.Proofs.YteiaojapolpjaaaDoor
