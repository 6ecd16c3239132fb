/- Ether, part 3: a text as a number of base 16 of eight bits. -/
import Derived.Test.YteiaojapolpjaaaDoorEthB
import Derived.Lib.ConvBytes
import Derived.Lib.Walk
import Derived.Lib.Strings
import Derived.Lib.AtoiAllMem
import Derived.Lib.AtoiErrMem
import Derived.BigCall
import Derived.BigGuard
namespace Go.Proofs.YteiaojapolpjaaaDoor
open Go.RowKit Go.WB

/-- A byte's letter made small. -/
def lw (c : Int) : Int := bits BinOp.or IntKind.u8 c 32
theorem lw_all : ∀ k : Fin 256, 0 ≤ lw (k.val : Int) ∧ lw (k.val : Int) ≤ 255 := by decide +kernel
theorem lw_bd (c : Int) (h0 : 0 ≤ c) (h1 : c ≤ 255) : 0 ≤ lw c ∧ lw c ≤ 255 := by
  have := lw_all ⟨c.toNat, by omega⟩
  simp only at this
  rwa [Int.toNat_of_nonneg h0] at this
theorem lower_any (c : Int) (w : World) : Calls Tryd.prog 30 #[.int .u8 c] w fun e w' => e = .returned (.int .u8 (lw c)) ∧ w = w' := by
  unfold lw
  go_enter Tryd.func30, Tryd.ntmps30
  go_wp2
  go_ret
  exact ⟨rfl, rfl⟩

/-- What a byte adds: 99: it is no digit. -/
def dg (c : Int) : Int := if 48 ≤ c ∧ c ≤ 57 then c - 48 else if 97 ≤ lw c ∧ lw c ≤ 122 then lw c - 97 + 10 else 99
/-- The number of base 16 of at most 255, and what is wrong (0: nothing). -/
def pu (m : Int) : List UInt8 → Int × Int
  | [] => (m, 0)
  | c :: r => if 16 ≤ dg c.toNat then (0, 2) else if 255 < m * 16 + dg c.toNat then (255, 1) else pu (m * 16 + dg c.toNat) r

def errOf (k : Int) : Value := if k = 0 then .nilIface else .iface 57 (.int .i64 k)

set_option maxRecDepth 100000 in
theorem pu_in_empty (w : World) : Calls Tryd.prog 24 #[.string ⟨#[]⟩, .int .i64 16, .int .i64 8] w fun e w' => e = .returned (.tuple #[.int .u64 0, .iface 57 (.int .i64 2)]) ∧ w = w' := by
  go_enter Tryd.func24, Tryd.ntmps24
  go_wp2
  go_ret2
  exact ⟨rfl, rfl⟩

/-- What ParseUint hands back. -/
def PuPost (r : Int × Int) (w : World) (e : Ending) (w' : World) : Prop := e = .returned (.tuple #[.int .u64 r.1, errOf r.2]) ∧ Below w.heap.size w w'

set_option maxHeartbeats 4000000 in
set_option maxRecDepth 100000 in
theorem pu_in (s : ByteArray) (w : World) (hne : s.size ≠ 0) (hs : s.size ≤ 1000) :
    Calls Tryd.prog 24 #[.string s, .int .i64 16, .int .i64 8] w (PuPost (pu 0 s.data.toList) w) := by
  have hemp : s.toList.isEmpty = false := by
    rw [← decide_eq_emptyBytes]
    exact decide_eq_false (fun h => hne (by rw [h]; rfl))
  have hcv := Lib.run_convert_string_bytes (P := Tryd.prog) w 9 32 5 s (u := .string) Tryd.underlying9 Tryd.underlying32 Tryd.underlying5
  have hB : ∀ j, j < s.size → (Lib.bytesWorld w 5 s).cell? ⟨w.heap.size, j, none⟩ = some (.int .u8 (s.data.toList.getD j 0).toNat) := fun j hj => Lib.bytesWorld_cell w 5 s j hj
  have hbel : Below w.heap.size w (Lib.bytesWorld w 5 s) := Lib.bytesWorld_below w 5 s
  have BL := Lib.hid hbel
  clear hbel
  obtain ⟨W1, hW1⟩ : ∃ W1, W1 = Lib.bytesWorld w 5 s := ⟨_, rfl⟩
  rw [← hW1] at hcv hB BL
  clear hW1
  obtain ⟨bs, hL⟩ : ∃ bs, bs = s.data.toList := ⟨_, rfl⟩
  have hLn : bs.length = s.size := by rw [hL, Lib.size_eq]
  rw [← hL] at hB ⊢
  clear hL hne
  go_enter Tryd.func24, Tryd.ntmps24
  go_wp2
  go_loop [12, 13, 101] (fun vu vn vi => ∃ (k : Nat) (m : Int), vu = .bool false ∧ vn = .int .u64 m ∧ vi = .int .i64 k ∧ k ≤ s.size ∧ 0 ≤ m ∧ m ≤ 255 ∧ Hid (pu 0 bs = pu m (bs.drop k)))
    (fun _ _ vi => s.size - (intOf vi).toNat)
  case atStart => exact ⟨0, 0, rfl, rfl, rfl, by omega, by omega, by omega, rfl⟩
  case round =>
    obtain ⟨k, m, rfl, rfl, rfl, hk, hm0, hm1, hh⟩ := hrel
    have hdec := hh.out
    clear hh
    by_cases hkn : k < s.size
    · have hc := hB k hkn
      have hdrop : bs.drop k = bs[k]'(by omega) :: bs.drop (k + 1) := List.drop_eq_getElem_cons (by omega)
      have hget : bs.getD k 0 = bs[k]'(by omega) := by simp [List.getD, List.getElem?_eq_getElem (show k < bs.length by omega)]
      rw [hdrop] at hdec
      rw [hget] at hc
      generalize bs[k]'(by omega) = c at hc hdec
      have hc256 : c.toNat < 256 := c.toNat_lt
      clear hB hdrop hget
      obtain ⟨hw0, hw1⟩ := lw_bd (c.toNat : Int) (by omega) (by omega)
      by_cases hdig : 48 ≤ (c.toNat : Int) ∧ (c.toNat : Int) ≤ 57
      · have hdg : dg c.toNat = (c.toNat : Int) - 48 := by unfold dg; rw [if_pos hdig]
        obtain ⟨hd0, hd1⟩ := hdig
        by_cases hov : 255 < m * 16 + ((c.toNat : Int) - 48)
        · have hF : pu m (c :: bs.drop (k + 1)) = (255, 1) := by unfold pu; rw [hdg, if_neg (by omega), if_pos hov]
          have HD := Lib.hid (hdec.trans hF)
          clear hdec hF hdg
          go_wp2
          go_ret2
          exact ⟨by rw [HD.out]; rfl, BL.out⟩
        · have hF : pu m (c :: bs.drop (k + 1)) = pu (m * 16 + ((c.toNat : Int) - 48)) (bs.drop (k + 1)) := by conv => lhs; unfold pu; rw [hdg, if_neg (by omega), if_neg hov]
          have HD := Lib.hid (hdec.trans hF)
          have hov' : m * 16 + ((c.toNat : Int) - 48) ≤ 255 := by omega
          clear hdec hF hdg hov
          go_wp2
          exact ⟨⟨k + 1, m * 16 + ((c.toNat : Int) - 48), rfl, rfl, (by first | rfl | (congr 1; omega)), by omega, by omega, by omega, HD⟩, by simp [intOf]; omega⟩
      · by_cases hlet : 97 ≤ lw (c.toNat : Int) ∧ lw (c.toNat : Int) ≤ 122
        · have hdg : dg c.toNat = lw (c.toNat : Int) - 97 + 10 := by unfold dg; rw [if_neg hdig, if_pos hlet]
          have h95 : (c.toNat : Int) ≠ 95 := fun h => by rw [h] at hlet; exact absurd hlet (by decide +kernel)
          obtain ⟨hl0, hl1⟩ := hlet
          have hnd : (c.toNat : Int) < 48 ∨ 57 < (c.toNat : Int) := by omega
          obtain ⟨l, hl⟩ : ∃ l, lw (c.toNat : Int) = l := ⟨_, rfl⟩
          have hlow : ∀ W : World, Calls Tryd.prog 30 #[.int .u8 (c.toNat : Int)] W fun e w' => e = .returned (.int .u8 l) ∧ W = w' := fun W => by rw [← hl]; exact lower_any _ W
          have HL := Lib.hid hlow
          rw [hl] at hl0 hl1 hdg hw0 hw1
          clear hl hlow hdig
          by_cases h16 : 16 ≤ l - 97 + 10
          · have hF : pu m (c :: bs.drop (k + 1)) = (0, 2) := by unfold pu; rw [hdg, if_pos h16]
            have HD := Lib.hid (hdec.trans hF)
            clear hdec hF hdg
            rcases hnd with hnd | hnd
            all_goals
              go_wp2_with (go_at_call 30; refine (HL.out _).mono ?_; rintro e w' ⟨rfl, rfl⟩)
              go_ret2
              exact ⟨by rw [HD.out]; rfl, BL.out⟩
          · by_cases hov : 255 < m * 16 + (l - 97 + 10)
            · have hF : pu m (c :: bs.drop (k + 1)) = (255, 1) := by unfold pu; rw [hdg, if_neg h16, if_pos hov]
              have HD := Lib.hid (hdec.trans hF)
              clear hdec hF hdg
              rcases hnd with hnd | hnd
              all_goals
                go_wp2_with (go_at_call 30; refine (HL.out _).mono ?_; rintro e w' ⟨rfl, rfl⟩)
                go_ret2
                exact ⟨by rw [HD.out]; rfl, BL.out⟩
            · have hF : pu m (c :: bs.drop (k + 1)) = pu (m * 16 + (l - 97 + 10)) (bs.drop (k + 1)) := by conv => lhs; unfold pu; rw [hdg, if_neg h16, if_neg hov]
              have HD := Lib.hid (hdec.trans hF)
              have hov' : m * 16 + (l - 97 + 10) ≤ 255 := by omega
              clear hdec hF hdg hov
              rcases hnd with hnd | hnd
              all_goals
                go_wp2_with (go_at_call 30; refine (HL.out _).mono ?_; rintro e w' ⟨rfl, rfl⟩)
                exact ⟨⟨k + 1, m * 16 + (l - 97 + 10), rfl, (by first | rfl | (congr 1; omega)), (by first | rfl | (congr 1; omega)), by omega, by omega, by omega, HD⟩, by simp [intOf]; omega⟩
        · have hdg : dg c.toNat = 99 := by unfold dg; rw [if_neg hdig, if_neg hlet]
          have hF : pu m (c :: bs.drop (k + 1)) = (0, 2) := by unfold pu; rw [hdg, if_pos (by omega)]
          have HD := Lib.hid (hdec.trans hF)
          clear hdec hF hdg
          obtain ⟨l, hl⟩ : ∃ l, lw (c.toNat : Int) = l := ⟨_, rfl⟩
          have hlow : ∀ W : World, Calls Tryd.prog 30 #[.int .u8 (c.toNat : Int)] W fun e w' => e = .returned (.int .u8 l) ∧ W = w' := fun W => by rw [← hl]; exact lower_any _ W
          have HL := Lib.hid hlow
          rw [hl] at hlet hw0 hw1
          have hnl : l < 97 ∨ 122 < l := by omega
          have hnd : (c.toNat : Int) < 48 ∨ 57 < (c.toNat : Int) := by omega
          have HH := Lib.hid hl
          clear hl hlow hdig hlet
          by_cases h95 : (c.toNat : Int) = 95
          · have h127 : l = 127 := by rw [← HH.out, h95]; decide +kernel
            subst h127
            rw [h95] at hc HL
            clear hnd hnl hw0 hw1 h95 HH hc256
            go_wp2_with (go_at_call 30; refine (HL.out _).mono ?_; rintro e w' ⟨rfl, rfl⟩)
            go_ret2
            exact ⟨by rw [HD.out]; rfl, BL.out⟩
          · rcases hnd with hnd | hnd
            all_goals
              rcases hnl with hnl | hnl
              all_goals
                go_wp2_with (go_at_call 30; refine (HL.out _).mono ?_; rintro e w' ⟨rfl, rfl⟩)
                go_ret2
                exact ⟨by rw [HD.out]; rfl, BL.out⟩
    · have hkk : k = s.size := by omega
      subst hkk
      have hF : pu m (bs.drop s.size) = (m, 0) := by rw [List.drop_eq_nil_of_le (by omega)]; rfl
      have HD := Lib.hid (hdec.trans hF)
      clear hdec hF hB
      go_wp2
      go_ret2
      exact ⟨by rw [HD.out]; rfl, BL.out⟩

theorem pu_bd : ∀ (l : List UInt8) (m : Int), 0 ≤ m → m ≤ 255 → 0 ≤ (pu m l).1 ∧ (pu m l).1 ≤ 255 ∧ ((pu m l).2 = 0 ∨ (pu m l).2 = 1 ∨ (pu m l).2 = 2)
  | [], m, h0, h1 => ⟨h0, h1, .inl rfl⟩
  | c :: r, m, h0, h1 => by
    have hd : 0 ≤ dg c.toNat := by
      unfold dg
      split
      · omega
      · split <;> omega
    unfold pu
    split
    · exact ⟨by simp, by simp, .inr (.inr rfl)⟩
    · split
      · exact ⟨by simp, by simp, .inr (.inl rfl)⟩
      · exact pu_bd r _ (by omega) (by omega)

set_option maxHeartbeats 1000000 in
set_option maxRecDepth 100000 in
theorem pu_out_ok' (s : ByteArray) (n : Int) (w : World) (hs : s.size ≤ 1000) (h1 : Calls Tryd.prog 24 #[.string s, .int .i64 16, .int .i64 8] w (PuPost (n, 0) w)) :
    Calls Tryd.prog 18 #[.string s, .int .i64 16, .int .i64 8] w fun e w' => e = .returned (.tuple #[.int .u64 n, .nilIface]) ∧ Below w.heap.size w w' := by
  have H1 := Lib.hid h1
  clear h1
  go_enter Tryd.func18, Tryd.ntmps18
  go_wp2_with fail
  refine H1.out.mono ?_
  rintro e w1 ⟨rfl, hb⟩
  simp only [errOf, if_true]
  go_wp2_with fail
  go_ret2
  exact ⟨rfl, hb⟩

theorem pu_out_ok (s : ByteArray) (n : Int) (w : World) (hne : s.size ≠ 0) (hs : s.size ≤ 1000) (hp : pu 0 s.data.toList = (n, 0)) :
    Calls Tryd.prog 18 #[.string s, .int .i64 16, .int .i64 8] w fun e w' => e = .returned (.tuple #[.int .u64 n, .nilIface]) ∧ Below w.heap.size w w' :=
  pu_out_ok' s n w hs (by have h1 := pu_in s w hne hs; rwa [hp] at h1)

end Go.Proofs.YteiaojapolpjaaaDoor
