/- EtherBack: a frame that is written is read as it was, if it may come, and one that is read is written as it was; so with addresses: the row, and its tied card. -/
import Derived.Test.YteiaojapolpjaaaDoorEthT
import Derived.Test.YteiaojapolpjaaaDoorEthU
namespace Go.Proofs.YteiaojapolpjaaaDoor
open Go.ChangeShapes Go.WideShapes Go.ChangeAt Go.RowKit Go.WB
open Go.ChangeMaps (open_string shut_string)
section
variable {H : Type} {enc : TypeId × Value → H} {w : World} {base b0 : Nat} {sp : Nat → Bool} {held : Bool}
theorem six_nats {m : Nat} {l : List Value} {x : DataW H × List MemPlace} (hl : l.length = 6) (h : DataW.trod enc Tryd.prog w base sp held m 22 l = some x) : ∃ a b c d e f : Nat, l = [.int .u8 (a : Int), .int .u8 (b : Int), .int .u8 (c : Int), .int .u8 (d : Int), .int .u8 (e : Int), .int .u8 (f : Int)] ∧ a < 256 ∧ b < 256 ∧ c < 256 ∧ d < 256 ∧ e < 256 ∧ f < 256 := by
  have hc5 : Tryd.prog.cellsOf 5 = 1 := by kernel_rfl
  obtain ⟨xs, m, _, _, _, hxl, hel⟩ := DataW.trod_array Tryd.underlying22 h
  rw [hc5] at hel
  match l, hl, xs, hxl, hel with
  | [v0, v1, v2, v3, v4, v5], _, [x0, x1, x2, x3, x4, x5], _, hel =>
    obtain ⟨n0, f0, _, k0⟩ := DataW.trod_int Tryd.underlying5 (hel 0 (by omega))
    obtain ⟨n1, f1, _, k1⟩ := DataW.trod_int Tryd.underlying5 (hel 1 (by omega))
    obtain ⟨n2, f2, _, k2⟩ := DataW.trod_int Tryd.underlying5 (hel 2 (by omega))
    obtain ⟨n3, f3, _, k3⟩ := DataW.trod_int Tryd.underlying5 (hel 3 (by omega))
    obtain ⟨n4, f4, _, k4⟩ := DataW.trod_int Tryd.underlying5 (hel 4 (by omega))
    obtain ⟨n5, f5, _, k5⟩ := DataW.trod_int Tryd.underlying5 (hel 5 (by omega))
    obtain rfl : v0 = .int .u8 n0 := (List.cons.inj f0).1
    obtain rfl : v1 = .int .u8 n1 := (List.cons.inj f1).1
    obtain rfl : v2 = .int .u8 n2 := (List.cons.inj f2).1
    obtain rfl : v3 = .int .u8 n3 := (List.cons.inj f3).1
    obtain rfl : v4 = .int .u8 n4 := (List.cons.inj f4).1
    obtain rfl : v5 = .int .u8 n5 := (List.cons.inj f5).1
    obtain ⟨m0, rfl, l0⟩ := u8_lt k0
    obtain ⟨m1, rfl, l1⟩ := u8_lt k1
    obtain ⟨m2, rfl, l2⟩ := u8_lt k2
    obtain ⟨m3, rfl, l3⟩ := u8_lt k3
    obtain ⟨m4, rfl, l4⟩ := u8_lt k4
    obtain ⟨m5, rfl, l5⟩ := u8_lt k5
    exact ⟨_, _, _, _, _, _, rfl, l0, l1, l2, l3, l4, l5⟩
theorem open_head2 {v : Value} {x : DataW H} {p : List MemPlace} (hval : Value.okWide Tryd.prog w .any b0 31 v) (hd : DataW.Trod enc Tryd.prog w base sp held 31 v x p) :
    ∃ (d0 d1 d2 d3 d4 d5 d6 d7 d8 d9 d10 d11 : Nat) (t : Int), v = .agg #[.int .u8 (d0 : Int), .int .u8 (d1 : Int), .int .u8 (d2 : Int), .int .u8 (d3 : Int), .int .u8 (d4 : Int), .int .u8 (d5 : Int), .int .u8 (d6 : Int), .int .u8 (d7 : Int), .int .u8 (d8 : Int), .int .u8 (d9 : Int), .int .u8 (d10 : Int), .int .u8 (d11 : Int), .int .u16 t] ∧ (d0 < 256 ∧ d1 < 256 ∧ d2 < 256 ∧ d3 < 256 ∧ d4 < 256 ∧ d5 < 256 ∧ d6 < 256 ∧ d7 < 256 ∧ d8 < 256 ∧ d9 < 256 ∧ d10 < 256 ∧ d11 < 256) ∧ 0 ≤ t ∧ t ≤ 65535 := by
  obtain ⟨cs, rfl, hsz⟩ := okWide_struct Tryd.underlying31 hval
  obtain ⟨fuel, hf⟩ := hd
  have hce : Tryd.prog.cellsOf 31 = 13 := by kernel_rfl
  have hc22 : Tryd.prog.cellsOf 22 = 6 := by kernel_rfl
  have hc29 : Tryd.prog.cellsOf 29 = 1 := by kernel_rfl
  rw [hce] at hsz
  obtain ⟨l⟩ := cs
  have hsz' : l.length = 13 := hsz
  obtain ⟨xs, m, _, _, _, hxl, hel⟩ := DataW.trod_struct Tryd.underlying31 hf
  match l, hsz', xs, hxl, hel with
  | [v0, v1, v2, v3, v4, v5, v6, v7, v8, v9, v10, v11, v12], _, [x0, x1, x2], _, hel =>
    have e0 : DataW.trod enc Tryd.prog w base sp held m 22 (([v0, v1, v2, v3, v4, v5, v6, v7, v8, v9, v10, v11, v12].drop 0).take (Tryd.prog.cellsOf 22)) = some x0 := hel 0 _ rfl
    have e1 : DataW.trod enc Tryd.prog w base sp held m 22 (([v0, v1, v2, v3, v4, v5, v6, v7, v8, v9, v10, v11, v12].drop 6).take (Tryd.prog.cellsOf 22)) = some x1 := hel 1 _ rfl
    have e2 : DataW.trod enc Tryd.prog w base sp held m 29 (([v0, v1, v2, v3, v4, v5, v6, v7, v8, v9, v10, v11, v12].drop 12).take (Tryd.prog.cellsOf 29)) = some x2 := hel 2 _ rfl
    rw [hc22] at e0 e1
    rw [hc29] at e2
    obtain ⟨a, b, c, d, e, f, q1, h0, h1, h2, h3, h4, h5⟩ := six_nats rfl e0
    obtain ⟨a', b', c', d', e', f', q2, h6, h7, h8, h9, h10, h11⟩ := six_nats rfl e1
    obtain ⟨n, q3, _, k3⟩ := DataW.trod_int Tryd.underlying29 e2
    have hb := bounds_u16 k3
    simp only [List.drop_zero, List.drop_succ_cons, List.take_succ_cons, List.take_zero, List.cons.injEq, and_true] at q1 q2 q3
    obtain ⟨rfl, rfl, rfl, rfl, rfl, rfl⟩ := q1
    obtain ⟨rfl, rfl, rfl, rfl, rfl, rfl⟩ := q2
    subst q3
    exact ⟨_, _, _, _, _, _, _, _, _, _, _, _, _, rfl, ⟨h0, h1, h2, h3, h4, h5, h6, h7, h8, h9, h10, h11⟩, hb.1, hb.2⟩
end

namespace etherBack
theorem walk (d0 d1 d2 d3 d4 d5 d6 d7 d8 d9 d10 d11 : Nat) (t : Int) (hd : d0 < 256 ∧ d1 < 256 ∧ d2 < 256 ∧ d3 < 256 ∧ d4 < 256 ∧ d5 < 256 ∧ d6 < 256 ∧ d7 < 256 ∧ d8 < 256 ∧ d9 < 256 ∧ d10 < 256 ∧ d11 < 256) (ht0 : 0 ≤ t) (ht1 : t ≤ 65535) (o : Option Addr) (n c : Nat) (xs : List Int) (s : ByteArray) (w : World) (hx : xs.length = n) (hp : Pay w o xs) (hb : Bs xs) (hn : o = none → n = 0 ∧ c = 0) (hnc : n ≤ c) (hE : Env w) :
    Calls Tryd.prog 5 #[.agg #[.int .u8 (d0 : Int), .int .u8 (d1 : Int), .int .u8 (d2 : Int), .int .u8 (d3 : Int), .int .u8 (d4 : Int), .int .u8 (d5 : Int), .int .u8 (d6 : Int), .int .u8 (d7 : Int), .int .u8 (d8 : Int), .int .u8 (d9 : Int), .int .u8 (d10 : Int), .int .u8 (d11 : Int), .int .u16 t], .slice o n c, .string s] w fun e w' => e = .returned (.bool true) ∧ Below w.heap.size w w' := by
  by_cases h0 : 4000 < n ∨ 100 < s.size
  · exact back_long (d0 : Int) (d1 : Int) (d2 : Int) (d3 : Int) (d4 : Int) (d5 : Int) (d6 : Int) (d7 : Int) (d8 : Int) (d9 : Int) (d10 : Int) (d11 : Int) t o n c s w h0 hE
  have hs : s.size ≤ 100 := by omega
  have hn' : o = none → c = 0 := fun h => (hn h).2
  obtain ⟨x, hpv⟩ := pv_any s
  by_cases h1 : 1646 < n
  · have hf : ¬ fits xs := by unfold fits; omega
    cases x with
    | none => exact back_ANN d0 d1 d2 d3 d4 d5 d6 d7 d8 d9 d10 d11 t hd ht0 ht1 o n c xs s w hx h1 (by omega) hf hpv hs hp hb hn' hnc hE
    | some x => exact back_ANS d0 d1 d2 d3 d4 d5 d6 d7 d8 d9 d10 d11 t hd ht0 ht1 o n c xs s x w hx h1 (by omega) hf hpv hs hp hb hn' hnc hE
  by_cases h2 : n ≤ 1586
  · by_cases hf : fits xs
    · cases x with
      | none => exact back_BYN d0 d1 d2 d3 d4 d5 d6 d7 d8 d9 d10 d11 t hd ht0 ht1 o n c xs s w hx h2 hf hpv hs hp hb hn' hnc hE
      | some x => exact back_BYS d0 d1 d2 d3 d4 d5 d6 d7 d8 d9 d10 d11 t hd ht0 ht1 o n c xs s x w hx h2 hf hpv hs hp hb hn' hnc hE
    · cases x with
      | none => exact back_BNN d0 d1 d2 d3 d4 d5 d6 d7 d8 d9 d10 d11 t hd ht0 ht1 o n c xs s w hx h2 hf hpv hs hp hb hn' hnc hE
      | some x => exact back_BNS d0 d1 d2 d3 d4 d5 d6 d7 d8 d9 d10 d11 t hd ht0 ht1 o n c xs s x w hx h2 hf hpv hs hp hb hn' hnc hE
  · by_cases hf : fits xs
    · cases x with
      | none => exact back_CYN d0 d1 d2 d3 d4 d5 d6 d7 d8 d9 d10 d11 t hd ht0 ht1 o n c xs s w hx (by omega) (by omega) hf hpv hs hp hb hn' hnc hE
      | some x => exact back_CYS d0 d1 d2 d3 d4 d5 d6 d7 d8 d9 d10 d11 t hd ht0 ht1 o n c xs s x w hx (by omega) (by omega) hf hpv hs hp hb hn' hnc hE
    · cases x with
      | none => exact back_CNN d0 d1 d2 d3 d4 d5 d6 d7 d8 d9 d10 d11 t hd ht0 ht1 o n c xs s w hx (by omega) (by omega) hf hpv hs hp hb hn' hnc hE
      | some x => exact back_CNS d0 d1 d2 d3 d4 d5 d6 d7 d8 d9 d10 d11 t hd ht0 ht1 o n c xs s x w hx (by omega) (by omega) hf hpv hs hp hb hn' hnc hE

set_option maxRecDepth 100000 in
theorem lifted (os : Os) (started : os.Started) (H : Type) (enc : TypeId × Value → H) :
    ReturnsInHanded {} Tryd.checked os 5 .any (fun w args => (Rows.etherBackSpec.pre enc Tryd.prog Tryd.f5 Rows.etherBackRow.domain false w args ∧ laidMetH Tryd.prog Rows.etherBackRow.laid w) ∧ sizedMet enc Tryd.prog Tryd.f5 (OpenSpec.ofChange Rows.etherBackSpec) false w args)
      (Rows.etherBackSpec.post enc Tryd.prog Tryd.f5 false true false false) := by
  refine wrap (C := Tryd.checked) (X := fun w _ => laidMetH Tryd.prog Rows.etherBackRow.laid w) (fun _ _ _ hh h => h.of_heap hh) own started (by kernel_rfl) Tryd.func5
    (ChangeSpec.witness_shaped (enc := enc) (C := Tryd.checked) (os := os) (X := fun w _ => laidMetH Tryd.prog Rows.etherBackRow.laid w) false (World.laidAll Tryd.prog os Rows.etherBackRow.laid) #[.agg #[.int .u8 0, .int .u8 0, .int .u8 0, .int .u8 0, .int .u8 0, .int .u8 0, .int .u8 0, .int .u8 0, .int .u8 0, .int .u8 0, .int .u8 0, .int .u8 0, .int .u16 0], .slice none 0 0, .string ByteArray.empty] 8 (World.laidAll_os _ _ _)
      (World.shaped_of_ZipB (by kernel_rfl) (by kernel_rfl)) (by kernel_rfl) (by kernel_rfl) (by kernel_rfl)
      (by rw [MakeChecks.laidMetH_plain _ _ _ (by kernel_rfl)]; exact laidMet_laidAll _ (by kernel_rfl) (by kernel_rfl))) ?_
  intro W base args ds gs before hval0 hW hL hS
  have hval : ∀ (j : Nat) t v, Tryd.f5.params[j]? = some t → args[j]? = some v → Value.okWide Tryd.prog W .any base t v := hval0
  have hE := env_of_laid hL hS
  have hW' := hW
  obtain ⟨p, q, hA0, hV, rfl, _, _⟩ := hW
  have hA : DataW.TrodAll enc Tryd.prog W 0 (fun _ => true) true Tryd.f5.params.toList args.toList ds p := hA0
  rw [Tryd.params5] at hA hval
  obtain ⟨v0, vs0, d0, ds0, p0, q0, hargs, rfl, rfl, h0, r0⟩ := trodAll_cons hA
  obtain ⟨v1, vs1, d1, ds1, p1, q1, rfl, rfl, rfl, h1, r1⟩ := trodAll_cons r0
  obtain ⟨v2, vs2, d2, ds2, p2, q2, rfl, rfl, rfl, h2, r2⟩ := trodAll_cons r1
  obtain ⟨rfl, rfl, rfl⟩ := trodAll_nil r2
  obtain rfl : args = #[v0, v1, v2] := by cases args; simp_all
  obtain ⟨rfl, rfl⟩ := trodVars_none hV
  have k0 := h0
  have k1 := h1
  have lt0 : ∀ x ∈ p0, x.block < W.heap.size := by obtain ⟨m, hm⟩ := k0; exact DataW.trod_lt m _ _ _ hm
  have lt1 : ∀ x ∈ p1, x.block < W.heap.size := by obtain ⟨m, hm⟩ := k1; exact DataW.trod_lt m _ _ _ hm
  obtain ⟨d0, d1, d2, d3, d4, d5, d6, d7, d8, d9, d10, d11, t, rfl, hd, ht0, ht1⟩ := open_head2 (hval 0 31 v0 rfl rfl) h0
  obtain ⟨o, n, c, xs, rfl, hx, hp, hb, hn, hnc⟩ := pay_of (hval 1 32 v1 rfl rfl) h1
  obtain ⟨s, rfl, rfl, rfl, ws⟩ := open_string Tryd.underlying9 (hval 2 9 v2 rfl rfl) h2
  clear hA0 hval0
  refine (walk d0 d1 d2 d3 d4 d5 d6 d7 d8 d9 d10 d11 t hd ht0 ht1 o n c xs s W hx hp hb hn hnc hE).mono fun e W' ⟨he, bel⟩ => ?_
  subst he
  exact ⟨_, rfl, _, _, _, [], _, [], hW', trodAll_mk1 (shut_bool Tryd.underlying4 _), (trodAll_cons_mk (Below.trod laidOut (by kernel_rfl) (of_decide_eq_true (by kernel_rfl)) k0 bel lt0) (trodAll_cons_mk (Below.trod laidOut (by kernel_rfl) (of_decide_eq_true (by kernel_rfl)) k1 bel lt1) (trodAll_cons_mk (shut_string Tryd.underlying9 ws) trodAll_mk0))), rfl, bel.frame _, fun h => by cases h⟩

theorem over : Rows.EtherBackSaid :=
  OpenClaim.holds_of_wide 5 Tryd.f5 rfl rfl rfl rfl rfl rfl rfl ⟨rfl, rfl, rfl, rfl, rfl⟩ rfl rfl rfl rfl rfl (by kernel_rfl) Tryd.func5 (by kernel_rfl)
    (of_decide_eq_true (by kernel_rfl)) (by unfold Func.isWrapper; first | (rw [if_pos (by decide +kernel)]; kernel_rfl) | (rw [if_neg (by decide +kernel)]; exact ⟨rfl, rfl⟩))
    (fun os started H enc _ => lifted os started H enc)

/-- ████ THE STATEMENT ████ -/
theorem proved : Rows.EtherBackCardSaid :=
  Claim7.holds_tied_plain_at .later [] [.data, .data, .data, .data, .sentinel, .sentinel, .pinned] true (true, "65c4d15e254e1bca4f70e706a97e9ea92529609e8790a904c037de15510e5750") true over (fun _ h => by cases h) (by kernel_rfl) (fun _ h => by cases h) etherBack_row_tie rfl ⟨rfl, rfl⟩ (by kernel_rfl) rfl
    (fun f fn hf hfn => by
      obtain rfl : f = 5 := Option.some.inj ((show Tryd.prog.funcNamed "weighbridge/weighbridgelaw02.EtherBack" = some 5 by kernel_rfl).symm.trans hf) |>.symm
      obtain rfl : fn = Tryd.f5 := (Option.some.inj (Tryd.func5.symm.trans hfn)).symm
      exact ⟨by kernel_rfl, fun j t ht => by
        rw [Tryd.params5] at ht
        have hm : t ∈ [31, 32, 9] := by simpa using Array.mem_of_getElem? ht
        have hall : ([31, 32, 9].all fun u => !Tryd.prog.wantsStandIn u) = true := by kernel_rfl
        exact (show Tryd.prog.wantsStandIn t = false by simpa using List.all_eq_true.1 hall t hm)⟩)
    (by kernel_rfl)

end etherBack
end Go.Proofs.YteiaojapolpjaaaDoor
