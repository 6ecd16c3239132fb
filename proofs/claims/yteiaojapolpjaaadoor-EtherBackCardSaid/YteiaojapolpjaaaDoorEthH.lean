/- Ether, part 8: plain laws: a text is an address's just where the reference says so, and then it is read as it. -/
import Derived.Test.YteiaojapolpjaaaDoorEthE
import Derived.Test.YteiaojapolpjaaaDoorEthG
import Derived.Lib.IndexBytes
namespace Go.Proofs.YteiaojapolpjaaaDoor
open Go.RowKit Go.WB

theorem hexc_rd : ∀ h : Fin 16, rd (hexc h.val).toNat = h.val ∧ hexc h.val ≠ 58 ∧ dg ((hexc h.val).toNat : Int) = h.val := by decide +kernel
theorem rd_hexc : ∀ c : Fin 256, rd c.val ≤ 15 → hexc (rd c.val) = UInt8.ofNat c.val := by decide +kernel
theorem txt_list (x : Six) : (txt x).data.toList = [hexc (x.a / 16), hexc (x.a % 16), 58, hexc (x.b / 16), hexc (x.b % 16), 58, hexc (x.c / 16), hexc (x.c % 16), 58, hexc (x.d / 16), hexc (x.d % 16), 58, hexc (x.e / 16), hexc (x.e % 16), 58, hexc (x.f / 16), hexc (x.f % 16)] := by
  simp [txt, two, colon, ByteArray.data_append]
theorem txt_size (x : Six) : (txt x).size = 17 := by
  have := congrArg List.length (txt_list x)
  rw [Array.length_toList] at this
  exact this
theorem rd_hi (n : Nat) (h : n < 256) : rd (hexc (n / 16)).toNat = n / 16 ∧ rd (hexc (n % 16)).toNat = n % 16 :=
  ⟨(hexc_rd ⟨n / 16, by omega⟩).1, (hexc_rd ⟨n % 16, by omega⟩).1⟩
theorem txt_good (x : Six) (hx : x.ok) : ∀ j, j < 6 → good (txt x) j := by
  obtain ⟨h0, h1, h2, h3, h4, h5⟩ := hx
  have r0 := rd_hi _ h0
  have r1 := rd_hi _ h1
  have r2 := rd_hi _ h2
  have r3 := rd_hi _ h3
  have r4 := rd_hi _ h4
  have r5 := rd_hi _ h5
  intro j hj
  unfold good byt
  rw [txt_list]
  match j, hj with
  | 0, _ => exact ⟨by show rd (hexc (x.a / 16)).toNat ≤ 15; omega, by show rd (hexc (x.a % 16)).toNat ≤ 15; omega, fun _ => rfl⟩
  | 1, _ => exact ⟨by show rd (hexc (x.b / 16)).toNat ≤ 15; omega, by show rd (hexc (x.b % 16)).toNat ≤ 15; omega, fun _ => rfl⟩
  | 2, _ => exact ⟨by show rd (hexc (x.c / 16)).toNat ≤ 15; omega, by show rd (hexc (x.c % 16)).toNat ≤ 15; omega, fun _ => rfl⟩
  | 3, _ => exact ⟨by show rd (hexc (x.d / 16)).toNat ≤ 15; omega, by show rd (hexc (x.d % 16)).toNat ≤ 15; omega, fun _ => rfl⟩
  | 4, _ => exact ⟨by show rd (hexc (x.e / 16)).toNat ≤ 15; omega, by show rd (hexc (x.e % 16)).toNat ≤ 15; omega, fun _ => rfl⟩
  | 5, _ => exact ⟨by show rd (hexc (x.f / 16)).toNat ≤ 15; omega, by show rd (hexc (x.f % 16)).toNat ≤ 15; omega, fun h => by omega⟩
theorem txt_rnum (x : Six) (hx : x.ok) : rnum (txt x) 6 0 = x.a ∧ rnum (txt x) 6 1 = x.b ∧ rnum (txt x) 6 2 = x.c ∧ rnum (txt x) 6 3 = x.d ∧ rnum (txt x) 6 4 = x.e ∧ rnum (txt x) 6 5 = x.f := by
  obtain ⟨h0, h1, h2, h3, h4, h5⟩ := hx
  have r0 := rd_hi _ h0
  have r1 := rd_hi _ h1
  have r2 := rd_hi _ h2
  have r3 := rd_hi _ h3
  have r4 := rd_hi _ h4
  have r5 := rd_hi _ h5
  unfold rnum byt
  rw [txt_list]
  refine ⟨?_, ?_, ?_, ?_, ?_, ?_⟩
  · show rd (hexc (x.a / 16)).toNat * 16 + rd (hexc (x.a % 16)).toNat = x.a
    omega
  · show rd (hexc (x.b / 16)).toNat * 16 + rd (hexc (x.b % 16)).toNat = x.b
    omega
  · show rd (hexc (x.c / 16)).toNat * 16 + rd (hexc (x.c % 16)).toNat = x.c
    omega
  · show rd (hexc (x.d / 16)).toNat * 16 + rd (hexc (x.d % 16)).toNat = x.d
    omega
  · show rd (hexc (x.e / 16)).toNat * 16 + rd (hexc (x.e % 16)).toNat = x.e
    omega
  · show rd (hexc (x.f / 16)).toNat * 16 + rd (hexc (x.f % 16)).toNat = x.f
    omega

/-- A good text is an address's. -/
def rs (s : ByteArray) : Six := ⟨rnum s 6 0, rnum s 6 1, rnum s 6 2, rnum s 6 3, rnum s 6 4, rnum s 6 5⟩
theorem back_hi (u v : UInt8) (hu : rd u.toNat ≤ 15) (hv : rd v.toNat ≤ 15) : hexc ((rd u.toNat * 16 + rd v.toNat) / 16) = u ∧ hexc ((rd u.toNat * 16 + rd v.toNat) % 16) = v := by
  have e1 : (rd u.toNat * 16 + rd v.toNat) / 16 = rd u.toNat := by omega
  have e2 : (rd u.toNat * 16 + rd v.toNat) % 16 = rd v.toNat := by omega
  rw [e1, e2]
  have g1 := rd_hexc ⟨u.toNat, u.toNat_lt⟩ hu
  have g2 := rd_hexc ⟨v.toNat, v.toNat_lt⟩ hv
  exact ⟨by rw [g1]; simp, by rw [g2]; simp⟩
theorem good_txt (s : ByteArray) (hs : s.size = 17) (hg : ∀ j, j < 6 → good s j) : s = txt (rs s) := by
  have hl : s.data.toList.length = 17 := by rw [Array.length_toList]; exact hs
  obtain ⟨c0, c1, c2, c3, c4, c5, c6, c7, c8, c9, c10, c11, c12, c13, c14, c15, c16, hc⟩ : ∃ c0 c1 c2 c3 c4 c5 c6 c7 c8 c9 c10 c11 c12 c13 c14 c15 c16, s.data.toList = [c0, c1, c2, c3, c4, c5, c6, c7, c8, c9, c10, c11, c12, c13, c14, c15, c16] := by
    match h : s.data.toList, hl with
    | [c0, c1, c2, c3, c4, c5, c6, c7, c8, c9, c10, c11, c12, c13, c14, c15, c16], _ => exact ⟨c0, c1, c2, c3, c4, c5, c6, c7, c8, c9, c10, c11, c12, c13, c14, c15, c16, rfl⟩
  have g0 := hg 0 (by omega)
  have g1 := hg 1 (by omega)
  have g2 := hg 2 (by omega)
  have g3 := hg 3 (by omega)
  have g4 := hg 4 (by omega)
  have g5 := hg 5 (by omega)
  unfold good byt at g0 g1 g2 g3 g4 g5
  rw [hc] at g0 g1 g2 g3 g4 g5
  obtain ⟨a0, b0, d0⟩ := g0
  obtain ⟨a1, b1, d1⟩ := g1
  obtain ⟨a2, b2, d2⟩ := g2
  obtain ⟨a3, b3, d3⟩ := g3
  obtain ⟨a4, b4, d4⟩ := g4
  obtain ⟨a5, b5, _⟩ := g5
  have q0 := back_hi c0 c1 a0 b0
  have q1 := back_hi c3 c4 a1 b1
  have q2 := back_hi c6 c7 a2 b2
  have q3 := back_hi c9 c10 a3 b3
  have q4 := back_hi c12 c13 a4 b4
  have q5 := back_hi c15 c16 a5 b5
  have e0 : c2 = 58 := UInt8.toNat_inj.1 (d0 (by omega))
  have e1 : c5 = 58 := UInt8.toNat_inj.1 (d1 (by omega))
  have e2 : c8 = 58 := UInt8.toNat_inj.1 (d2 (by omega))
  have e3 : c11 = 58 := UInt8.toNat_inj.1 (d3 (by omega))
  have e4 : c14 = 58 := UInt8.toNat_inj.1 (d4 (by omega))
  have hr : rs s = ⟨rd c0.toNat * 16 + rd c1.toNat, rd c3.toNat * 16 + rd c4.toNat, rd c6.toNat * 16 + rd c7.toNat, rd c9.toNat * 16 + rd c10.toNat, rd c12.toNat * 16 + rd c13.toNat, rd c15.toNat * 16 + rd c16.toNat⟩ := by
    unfold rs rnum byt
    rw [hc]
    rfl
  apply ByteArray.ext
  apply Array.toList_inj.1
  rw [hr, txt_list, hc, e0, e1, e2, e3, e4]
  simp only [q0.1, q0.2, q1.1, q1.2, q2.1, q2.2, q3.1, q3.2, q4.1, q4.2, q5.1, q5.2]

theorem rs_ok (s : ByteArray) (hg : ∀ j, j < 6 → good s j) : (rs s).ok := by
  have f : ∀ j, j < 6 → rnum s 6 j < 256 := by
    intro j hj
    obtain ⟨h1, h2, _⟩ := hg j hj
    unfold rnum
    rw [if_pos hj]
    omega
  exact ⟨f 0 (by omega), f 1 (by omega), f 2 (by omega), f 3 (by omega), f 4 (by omega), f 5 (by omega)⟩
end Go.Proofs.YteiaojapolpjaaaDoor
