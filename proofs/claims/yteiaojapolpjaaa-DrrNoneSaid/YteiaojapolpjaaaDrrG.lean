/- DrrNone, part 7: searches; a key that is there already. -/
import Derived.Test.YteiaojapolpjaaaDrrBb
namespace Go.Proofs.Yteiaojapolpjaaa
open Go.RowKit Go.WB

theorem finds_none (B : Nat) (k : ByteArray) : Finds B 0 [] k 0 false := by
  intro a c W _
  refine (Any2.slices_BinarySearch_string_empty Try.laysBsS a c k W).mono ?_
  rintro e w' ⟨rfl, rfl⟩
  exact ⟨rfl, 0, rfl⟩

theorem finds_some (B n : Nat) (ss : List ByteArray) (k : ByteArray) (i : Nat) (f : Bool) (hn : n < 1000) (hl : ss.length = n) (h0 : 0 < n)
    (hb : Lib.bsGo (fun t => Op.bytesLess (ss.getD t ByteArray.empty).toList k.toList) n 0 n = i) (hf : decide (i < n ∧ ss.getD i ByteArray.empty = k) = f) : Finds B n (ss.map Value.string) k i f := by
  intro a c W hown
  rcases own_form hown with ⟨_, h, _⟩ | ⟨g, cap, cur, he, _, hg, hnc, _, hcl, ht, hxl⟩
  · omega
  · injection he with h1 h2 h3
    subst h1 h3
    refine (Any2.slices_BinarySearch_string Try.laysBsS g 0 n c (fun t => ss.getD t ByteArray.empty) k W (by omega) (fun j hj => ?_)).mono ?_
    · rw [Nat.zero_add, hg.cell j, List.getElem?_toArray, ← List.getElem?_take_of_lt hj, ht, List.getElem?_map, List.getElem?_eq_getElem (by omega)]
      simp [List.getD_eq_getElem?_getD, List.getElem?_eq_getElem (show j < ss.length by omega)]
    · rintro e w' ⟨rfl, hw⟩
      refine ⟨?_, hw⟩
      rw [hb, hf]

theorem finds_b (B : Nat) : Finds B 1 [.string ⟨#[98]⟩] ⟨#[97]⟩ 0 false :=
  finds_some B 1 [⟨#[98]⟩] ⟨#[97]⟩ 0 false (by omega) rfl (by omega) (by decide +kernel) (by decide +kernel)
theorem finds_ab (B : Nat) : Finds B 2 [.string ⟨#[97]⟩, .string ⟨#[98]⟩] ⟨#[97]⟩ 0 true :=
  finds_some B 2 [⟨#[97]⟩, ⟨#[98]⟩] ⟨#[97]⟩ 0 true (by omega) rfl (by omega) (by decide +kernel) (by decide +kernel)

set_option maxHeartbeats 1000000 in
theorem add_twice (B r n i : Nat) (K Q D : List Value) (k : ByteArray) (q0 t : Int) (bg : Bool) (w : World) (h : Rnd B w r n K Q D t bg) (hf : Finds B n K k i true) (hq0 : 1600 ≤ q0) (hq1 : q0 ≤ 65536) :
    Calls Try.prog 9 #[.pointer (some ⟨r, 0, none⟩), .string k, .int .i64 q0] w fun e w' => e = .returned (.int .i64 8) ∧ Below B w w' ∧ Rnd B w' r n K Q D t bg := by
  have hR := h
  obtain ⟨ka, kc, qa, qc, da, dc, hB, hr, ok, oq, od, hqd⟩ := h
  have HF := Lib.hid hf
  have HR := Lib.hid hR
  have c0 := hr.cell 0
  have c4 := hr.cell 4
  simp only [List.getElem?_toArray, List.getElem?_cons_zero, List.getElem?_cons_succ] at c0 c4
  clear hf hR hr oq od hqd
  go_enter Try.func9, Try.ntmps9
  go_wp2_with (first | (go_at_call 28; refine (none_at _ true _ c4).mono ?_; rintro e w' ⟨rfl, rfl⟩))
  refine (HF.out ka kc _ ok).mono ?_
  rintro e w' ⟨rfl, nq, rfl⟩
  go_wp2_with (first | (go_at_call 33; refine (may_yes _ (by omega) (by omega) _).mono ?_; rintro e w' ⟨rfl, rfl⟩))
  go_ret
  exact ⟨rfl, below_drewN (Below.refl _ _) _, HR.out⟩
end Go.Proofs.Yteiaojapolpjaaa
