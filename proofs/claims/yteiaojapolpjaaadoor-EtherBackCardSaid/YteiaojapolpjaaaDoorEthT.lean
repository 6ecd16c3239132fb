/- EtherFrames: what stands ahead in any bytes, their payload, and any frame, are the document's, or refused: the row, and its tied card. -/
import Derived.Test.YteiaojapolpjaaaDoorWp
import Derived.Test.YteiaojapolpjaaaDoorEthS
import Derived.Test.YteiaojapolpjaaaDoorEthL
import Derived.Test.YteiaojapolpjaaaDoorTie
import Derived.Test.YteiaojapolpjaaaDoorCards
import Derived.ShutString
import Derived.ChangeOld
namespace Go.Proofs.YteiaojapolpjaaaDoor
open Go.ChangeShapes Go.WideShapes Go.ChangeAt Go.RowKit Go.WB

theorem laidOut : laidOutB Tryd.prog = true := by kernel_rfl
section
variable {H : Type} {enc : TypeId × Value → H} {w : World} {base b0 : Nat} {sp : Nat → Bool} {held : Bool}
theorem u8_le {n : Int} (h : (Lit.int .u8 n).wf = true) : 0 ≤ n ∧ n ≤ 255 := bounds_u8 h
theorem six_ints {m : Nat} {l : List Value} {x : DataW H × List MemPlace} (hl : l.length = 6) (h : DataW.trod enc Tryd.prog w base sp held m 22 l = some x) : ∃ a b c d e f : Int, l = [.int .u8 a, .int .u8 b, .int .u8 c, .int .u8 d, .int .u8 e, .int .u8 f] := by
  have hc5 : Tryd.prog.cellsOf 5 = 1 := by kernel_rfl
  obtain ⟨xs, m, _, _, _, hxl, hel⟩ := DataW.trod_array Tryd.underlying22 h
  rw [hc5] at hel
  match l, hl, xs, hxl, hel with
  | [v0, v1, v2, v3, v4, v5], _, [x0, x1, x2, x3, x4, x5], _, hel =>
    obtain ⟨n0, f0, _, _⟩ := DataW.trod_int Tryd.underlying5 (hel 0 (by omega))
    obtain ⟨n1, f1, _, _⟩ := DataW.trod_int Tryd.underlying5 (hel 1 (by omega))
    obtain ⟨n2, f2, _, _⟩ := DataW.trod_int Tryd.underlying5 (hel 2 (by omega))
    obtain ⟨n3, f3, _, _⟩ := DataW.trod_int Tryd.underlying5 (hel 3 (by omega))
    obtain ⟨n4, f4, _, _⟩ := DataW.trod_int Tryd.underlying5 (hel 4 (by omega))
    obtain ⟨n5, f5, _, _⟩ := DataW.trod_int Tryd.underlying5 (hel 5 (by omega))
    obtain rfl : v0 = .int .u8 n0 := (List.cons.inj f0).1
    obtain rfl : v1 = .int .u8 n1 := (List.cons.inj f1).1
    obtain rfl : v2 = .int .u8 n2 := (List.cons.inj f2).1
    obtain rfl : v3 = .int .u8 n3 := (List.cons.inj f3).1
    obtain rfl : v4 = .int .u8 n4 := (List.cons.inj f4).1
    obtain rfl : v5 = .int .u8 n5 := (List.cons.inj f5).1
    exact ⟨_, _, _, _, _, _, rfl⟩
/-- A head that came in: twelve bytes, and a number of two. -/
theorem open_head {v : Value} {x : DataW H} {p : List MemPlace} (hval : Value.okWide Tryd.prog w .any b0 31 v) (hd : DataW.Trod enc Tryd.prog w base sp held 31 v x p) :
    ∃ d0 d1 d2 d3 d4 d5 d6 d7 d8 d9 d10 d11 t : Int, v = .agg #[.int .u8 d0, .int .u8 d1, .int .u8 d2, .int .u8 d3, .int .u8 d4, .int .u8 d5, .int .u8 d6, .int .u8 d7, .int .u8 d8, .int .u8 d9, .int .u8 d10, .int .u8 d11, .int .u16 t] ∧ 0 ≤ t ∧ t ≤ 65535 := by
  obtain ⟨cs, rfl, hsz⟩ := okWide_struct Tryd.underlying31 hval
  obtain ⟨fuel, hf⟩ := hd
  have hce : Tryd.prog.cellsOf 31 = 13 := by kernel_rfl
  have hc22 : Tryd.prog.cellsOf 22 = 6 := by kernel_rfl
  have hc29 : Tryd.prog.cellsOf 29 = 1 := by kernel_rfl
  rw [hce] at hsz
  obtain ⟨l⟩ := cs
  have hsz' : l.length = 13 := hsz
  obtain ⟨xs, m, _, _, _, hxl, hel⟩ := DataW.trod_struct Tryd.underlying31 hf
  match l, hsz', xs, hxl, hel with
  | [v0, v1, v2, v3, v4, v5, v6, v7, v8, v9, v10, v11, v12], _, [x0, x1, x2], _, hel =>
    have e0 : DataW.trod enc Tryd.prog w base sp held m 22 (([v0, v1, v2, v3, v4, v5, v6, v7, v8, v9, v10, v11, v12].drop 0).take (Tryd.prog.cellsOf 22)) = some x0 := hel 0 _ rfl
    have e1 : DataW.trod enc Tryd.prog w base sp held m 22 (([v0, v1, v2, v3, v4, v5, v6, v7, v8, v9, v10, v11, v12].drop 6).take (Tryd.prog.cellsOf 22)) = some x1 := hel 1 _ rfl
    have e2 : DataW.trod enc Tryd.prog w base sp held m 29 (([v0, v1, v2, v3, v4, v5, v6, v7, v8, v9, v10, v11, v12].drop 12).take (Tryd.prog.cellsOf 29)) = some x2 := hel 2 _ rfl
    rw [hc22] at e0 e1
    rw [hc29] at e2
    obtain ⟨a, b, c, d, e, f, q1⟩ := six_ints rfl e0
    obtain ⟨a', b', c', d', e', f', q2⟩ := six_ints rfl e1
    obtain ⟨n, q3, _, k3⟩ := DataW.trod_int Tryd.underlying29 e2
    have hb := bounds_u16 k3
    simp only [List.drop_zero, List.drop_succ_cons, List.take_succ_cons, List.take_zero, List.cons.injEq, and_true] at q1 q2 q3
    obtain ⟨rfl, rfl, rfl, rfl, rfl, rfl⟩ := q1
    obtain ⟨rfl, rfl, rfl, rfl, rfl, rfl⟩ := q2
    subst q3
    exact ⟨_, _, _, _, _, _, _, _, _, _, _, _, _, rfl, hb.1, hb.2⟩
/-- What a walk is told of a slice of bytes that came in. -/
theorem pay_of {W : World} {v : Value} {x : DataW H} {p : List MemPlace} (hval : Value.okWide Tryd.prog W .any b0 32 v) (hd : DataW.Trod enc Tryd.prog W base sp held 32 v x p) :
    ∃ (o : Option Addr) (n c : Nat) (xs : List Int), v = .slice o n c ∧ xs.length = n ∧ Pay W o xs ∧ Bs xs ∧ (o = none → n = 0 ∧ c = 0) ∧ n ≤ c := by
  obtain ⟨o, n, c, rfl⟩ := okWide_slice Tryd.underlying32 hval
  obtain ⟨fuel, hf⟩ := hd
  rcases open_ints Tryd.underlying32 Tryd.underlying5 (by kernel_rfl) hf with ⟨hcs, _⟩ | ⟨a, l, c', zs, hcs, _, hl, hm, hz, _, hcell, hwz⟩
  · simp [Value.cells] at hcs
    obtain ⟨rfl, rfl, rfl⟩ := hcs
    exact ⟨none, 0, 0, [], rfl, rfl, rfl, fun i => by simp, fun _ => ⟨rfl, rfl⟩, Nat.le_refl _⟩
  · simp [Value.cells] at hcs
    obtain ⟨rfl, rfl, rfl⟩ := hcs
    have hlz : n ≤ zs.length := by rw [hz]; split <;> omega
    refine ⟨some a, n, c, zs.take n, rfl, by simp; omega, ?_, ?_, (fun h => by cases h), hl⟩
    · show At W a (zs.take n)
      intro i hi
      have hi2 : i < n := by simp at hi; omega
      rw [hcell i (by omega)]
      simp [List.getD, List.getElem?_take_of_lt hi2]
    · intro i
      by_cases hi : i < (zs.take n).length
      · have e : (zs.take n).getD i 0 = (zs.take n)[i] := by simp [List.getD, List.getElem?_eq_getElem hi]
        rw [e]
        exact bounds_u8 (hwz _ (List.mem_of_mem_take (List.getElem_mem hi)))
      · have e : (zs.take n).getD i 0 = 0 := by rw [List.getD_eq_getElem?_getD, List.getElem?_eq_none (by omega)]; rfl
        rw [e]
        omega
end

namespace etherFrames
theorem walk (d0 d1 d2 d3 d4 d5 d6 d7 d8 d9 d10 d11 t : Int) (ht0 : 0 ≤ t) (ht1 : t ≤ 65535) (o : Option Addr) (n c : Nat) (xs : List Int) (w : World) (hx : xs.length = n) (hp : Pay w o xs) (hb : Bs xs) (hn : o = none → n = 0 ∧ c = 0) (hnc : n ≤ c) (hE : Env w) :
    Calls Tryd.prog 4 #[.agg #[.int .u8 d0, .int .u8 d1, .int .u8 d2, .int .u8 d3, .int .u8 d4, .int .u8 d5, .int .u8 d6, .int .u8 d7, .int .u8 d8, .int .u8 d9, .int .u8 d10, .int .u8 d11, .int .u16 t], .slice o n c] w fun e w' => e = .returned (.bool true) ∧ Below w.heap.size w w' := by
  rcases Nat.lt_or_ge 4000 n with hs | hs
  · exact frames_long d0 d1 d2 d3 d4 d5 d6 d7 d8 d9 d10 d11 t o n c w hs hE
  · exact frames_short d0 d1 d2 d3 d4 d5 d6 d7 d8 d9 d10 d11 t ht0 ht1 o n c xs w hx hs hp hb hn hnc hE

set_option maxRecDepth 100000 in
theorem lifted (os : Os) (started : os.Started) (H : Type) (enc : TypeId × Value → H) :
    ReturnsInHanded {} Tryd.checked os 4 .any (fun w args => (Rows.etherFramesSpec.pre enc Tryd.prog Tryd.f4 Rows.etherFramesRow.domain false w args ∧ laidMetH Tryd.prog Rows.etherFramesRow.laid w) ∧ sizedMet enc Tryd.prog Tryd.f4 (OpenSpec.ofChange Rows.etherFramesSpec) false w args)
      (Rows.etherFramesSpec.post enc Tryd.prog Tryd.f4 false true false false) := by
  refine wrap (C := Tryd.checked) (X := fun w _ => laidMetH Tryd.prog Rows.etherFramesRow.laid w) (fun _ _ _ hh h => h.of_heap hh) own started (by kernel_rfl) Tryd.func4
    (ChangeSpec.witness_shaped (enc := enc) (C := Tryd.checked) (os := os) (X := fun w _ => laidMetH Tryd.prog Rows.etherFramesRow.laid w) false (World.laidAll Tryd.prog os Rows.etherFramesRow.laid) #[.agg #[.int .u8 0, .int .u8 0, .int .u8 0, .int .u8 0, .int .u8 0, .int .u8 0, .int .u8 0, .int .u8 0, .int .u8 0, .int .u8 0, .int .u8 0, .int .u8 0, .int .u16 0], .slice none 0 0] 8 (World.laidAll_os _ _ _)
      (World.shaped_of_ZipB (by kernel_rfl) (by kernel_rfl)) (by kernel_rfl) (by kernel_rfl) (by kernel_rfl)
      (by rw [MakeChecks.laidMetH_plain _ _ _ (by kernel_rfl)]; exact laidMet_laidAll _ (by kernel_rfl) (by kernel_rfl))) ?_
  intro W base args ds gs before hval0 hW hL hS
  have hval : ∀ (j : Nat) t v, Tryd.f4.params[j]? = some t → args[j]? = some v → Value.okWide Tryd.prog W .any base t v := hval0
  have hE := env_of_laid hL hS
  have hW' := hW
  obtain ⟨p, q, hA0, hV, rfl, _, _⟩ := hW
  have hA : DataW.TrodAll enc Tryd.prog W 0 (fun _ => true) true Tryd.f4.params.toList args.toList ds p := hA0
  rw [Tryd.params4] at hA hval
  obtain ⟨v0, vs0, d0, ds0, p0, q0, hargs, rfl, rfl, h0, r0⟩ := trodAll_cons hA
  obtain ⟨v1, vs1, d1, ds1, p1, q1, rfl, rfl, rfl, h1, r1⟩ := trodAll_cons r0
  obtain ⟨rfl, rfl, rfl⟩ := trodAll_nil r1
  obtain rfl : args = #[v0, v1] := by cases args; simp_all
  obtain ⟨rfl, rfl⟩ := trodVars_none hV
  have k0 := h0
  have k1 := h1
  have lt0 : ∀ x ∈ p0, x.block < W.heap.size := by obtain ⟨m, hm⟩ := k0; exact DataW.trod_lt m _ _ _ hm
  have lt1 : ∀ x ∈ p1, x.block < W.heap.size := by obtain ⟨m, hm⟩ := k1; exact DataW.trod_lt m _ _ _ hm
  obtain ⟨d0, d1, d2, d3, d4, d5, d6, d7, d8, d9, d10, d11, t, rfl, ht0, ht1⟩ := open_head (hval 0 31 v0 rfl rfl) h0
  obtain ⟨o, n, c, xs, rfl, hx, hp, hb, hn, hnc⟩ := pay_of (hval 1 32 v1 rfl rfl) h1
  clear hA0 hval0
  refine (walk d0 d1 d2 d3 d4 d5 d6 d7 d8 d9 d10 d11 t ht0 ht1 o n c xs W hx hp hb hn hnc hE).mono fun e W' ⟨he, bel⟩ => ?_
  subst he
  exact ⟨_, rfl, _, _, _, [], _, [], hW', trodAll_mk1 (shut_bool Tryd.underlying4 _), (trodAll_cons_mk (Below.trod laidOut (by kernel_rfl) (of_decide_eq_true (by kernel_rfl)) k0 bel lt0) (trodAll_cons_mk (Below.trod laidOut (by kernel_rfl) (of_decide_eq_true (by kernel_rfl)) k1 bel lt1) trodAll_mk0)), rfl, bel.frame _, fun h => by cases h⟩

theorem over : Rows.EtherFramesSaid :=
  OpenClaim.holds_of_wide 4 Tryd.f4 rfl rfl rfl rfl rfl rfl rfl ⟨rfl, rfl, rfl, rfl, rfl⟩ rfl rfl rfl rfl rfl (by kernel_rfl) Tryd.func4 (by kernel_rfl)
    (of_decide_eq_true (by kernel_rfl)) (by unfold Func.isWrapper; first | (rw [if_pos (by decide +kernel)]; kernel_rfl) | (rw [if_neg (by decide +kernel)]; exact ⟨rfl, rfl⟩))
    (fun os started H enc _ => lifted os started H enc)

/-- ████ THE STATEMENT ████ -/
theorem proved : Rows.EtherFramesCardSaid :=
  Claim7.holds_tied_plain_at .later [] [.data, .data, .data, .data, .sentinel, .sentinel, .pinned] true (true, "65c4d15e254e1bca4f70e706a97e9ea92529609e8790a904c037de15510e5750") true over (fun _ h => by cases h) (by kernel_rfl) (fun _ h => by cases h) etherFrames_row_tie rfl ⟨rfl, rfl⟩ (by kernel_rfl) rfl
    (fun f fn hf hfn => by
      obtain rfl : f = 4 := Option.some.inj ((show Tryd.prog.funcNamed "weighbridge/weighbridgelaw02.EtherFrames" = some 4 by kernel_rfl).symm.trans hf) |>.symm
      obtain rfl : fn = Tryd.f4 := (Option.some.inj (Tryd.func4.symm.trans hfn)).symm
      exact ⟨by kernel_rfl, fun j t ht => by
        rw [Tryd.params4] at ht
        have hm : t ∈ [31, 32] := by simpa using Array.mem_of_getElem? ht
        have hall : ([31, 32].all fun u => !Tryd.prog.wantsStandIn u) = true := by kernel_rfl
        exact (show Tryd.prog.wantsStandIn t = false by simpa using List.all_eq_true.1 hall t hm)⟩)
    (by kernel_rfl)

end etherFrames
end Go.Proofs.YteiaojapolpjaaaDoor
