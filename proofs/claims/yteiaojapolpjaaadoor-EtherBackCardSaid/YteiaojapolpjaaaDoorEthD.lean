/- Ether, part 4: strconv.ParseUint of whatever text; a text's address. -/
import Derived.Test.YteiaojapolpjaaaDoorEthC
import Derived.Test.YteiaojapolpjaaaDoorLay
namespace Go.Proofs.YteiaojapolpjaaaDoor
open Go.RowKit Go.WB

/-- The number that ParseUint(s, 16, 8) hands back, right or wrong. -/
def vl (s : ByteArray) : Nat := (pu 0 s.data.toList).1.toNat
theorem vl_le (s : ByteArray) : vl s ≤ 255 := by
  have := pu_bd s.data.toList 0 (by omega) (by omega)
  unfold vl
  omega
def SomeU (n : Int) (w : World) (e : Ending) (w' : World) : Prop := ∃ ev : Value, e = .returned (.tuple #[.int .u64 n, ev]) ∧ Below w.heap.size w w'

set_option maxHeartbeats 1000000 in
set_option maxRecDepth 100000 in
theorem pu_out_err (s : ByteArray) (n k : Int) (w : World) (hs : s.size ≤ 1000) (hk : (k = 1 ∨ k = 2)) (hE : Env w)
    (h1 : Calls Tryd.prog 24 #[.string s, .int .i64 16, .int .i64 8] w fun e w' => e = .returned (.tuple #[.int .u64 n, .iface 57 (.int .i64 k)]) ∧ Below w.heap.size w w') :
    Calls Tryd.prog 18 #[.string s, .int .i64 16, .int .i64 8] w (SomeU n w) := by
  have H1 := Lib.hid h1
  clear h1
  obtain ⟨ts, ps, hes⟩ := hE.es
  obtain ⟨tr, pr, her⟩ := hE.er
  have h0 : 0 < w.heap.size := by have := hE.lt; omega
  have h1 : 1 < w.heap.size := by have := hE.lt; omega
  rcases hk with rfl | rfl
  · go_enter Tryd.func18, Tryd.ntmps18
    go_wp2_with fail
    refine H1.out.mono ?_
    rintro e w1 ⟨rfl, hb⟩
    have her1 := (hb.cell (p := ⟨1, 0, none⟩) h1).trans her
    clear hes her
    go_wp2_with fail
    refine (Any.strconv_toError_range Tryd.laysC245 _ s 16 8 _ w1 (by omega) her1 (.inr ⟨_, _, rfl⟩)).mono ?_
    rintro e w2 ⟨N, rfl, _, _, hb2⟩
    go_wp2_with fail
    go_ret2
    exact ⟨_, rfl, hb.trans (hb2.mono hb.size)⟩
  · go_enter Tryd.func18, Tryd.ntmps18
    go_wp2_with fail
    refine H1.out.mono ?_
    rintro e w1 ⟨rfl, hb⟩
    have hes1 := (hb.cell (p := ⟨0, 0, none⟩) h0).trans hes
    clear hes her
    go_wp2_with fail
    refine (Any.strconv_toError_syntax Tryd.laysC245 _ s 16 8 _ w1 (by omega) hes1 (.inr ⟨_, _, rfl⟩)).mono ?_
    rintro e w2 ⟨N, rfl, _, _, hb2⟩
    go_wp2_with fail
    go_ret2
    exact ⟨_, rfl, hb.trans (hb2.mono hb.size)⟩

theorem pu_out_any (s : ByteArray) (w : World) (hs : s.size ≤ 1000) (hE : Env w) : Calls Tryd.prog 18 #[.string s, .int .i64 16, .int .i64 8] w (SomeU (vl s) w) := by
  obtain ⟨h0, h1, hk⟩ := pu_bd s.data.toList 0 (by omega) (by omega)
  have hv : ((vl s : Nat) : Int) = (pu 0 s.data.toList).1 := by unfold vl; omega
  rw [hv]
  by_cases hne : s.size = 0
  · have hs0 : s = ⟨#[]⟩ := by
      cases s with
      | mk d => exact congrArg ByteArray.mk (Array.eq_empty_of_size_eq_zero hne)
    subst hs0
    exact pu_out_err _ _ 2 w hs (.inr rfl) hE ((pu_in_empty w).mono fun e w' ⟨he, hw⟩ => ⟨he, hw ▸ Below.refl _ _⟩)
  · have hin := pu_in s w hne hs
    generalize pu 0 s.data.toList = r at *
    obtain ⟨n, k⟩ := r
    simp only at h0 h1 hk
    rcases hk with rfl | rfl | rfl
    · refine (pu_out_ok' s n w hs hin).mono ?_
      rintro e w' ⟨he, hb⟩
      exact ⟨_, he, hb⟩
    · exact pu_out_err s n 1 w hs (.inl rfl) hE hin
    · exact pu_out_err s n 2 w hs (.inr rfl) hE hin

end Go.Proofs.YteiaojapolpjaaaDoor
