/- DrrNone, part 5: Serve, of a round of two keys. -/
import Derived.Test.YteiaojapolpjaaaDrrD
import Derived.Deep.Light
namespace Go.Proofs.Yteiaojapolpjaaa
open Go.RowKit Go.WB
attribute [local go_sem ↓] Go.wp_at_zero Go.wp_at_succ

def kab : List Value := [.string ⟨#[97]⟩, .string ⟨#[98]⟩]
def q2 : List Value := [.int .i64 1600, .int .i64 1600]
def d2 (a b : Int) : List Value := [.int .i64 a, .int .i64 b]

/-- The list that a head is made of, and its function value. -/
structure HeadAt (w : World) (h lb : Nat) : Prop where
  h : Blk w h 34 #[.slice (some ⟨lb, 0, none⟩) 2 2]
  l : Blk w lb 33 #[.string ⟨#[97]⟩, .int .i64 1000, .string ⟨#[98]⟩, .int .i64 600]

def ServePost (B r : Nat) (k : ByteArray) (d0 d1 t : Int) (w : World) (e : Ending) (w' : World) : Prop :=
  e = .returned (.tuple #[.string k, .bool true]) ∧ Below B w w' ∧ Rnd B w' r 2 kab q2 (d2 d0 d1) t true

theorem own_two {B : Nat} {t : TypeId} {a : Option Addr} {c : Nat} {x y : Value} {w : World} (h : w.ownsRow B t 1 (.slice a 2 c) 2 [x, y]) :
    ∃ g cur, a = some ⟨g, 0, none⟩ ∧ B ≤ g ∧ 2 ≤ c ∧ c ≤ maxLen ∧ Blk w g t (List.toArray (x :: y :: cur)) ∧ cur.length + 2 = c := by
  rcases own_form h with ⟨_, h, _⟩ | ⟨g, cap, cur, he, hb, hg, hn, hc, hl, ht, _⟩
  · cases h
  · injection he with h1 h2 h3
    subst h1 h3
    match cur, ht, hl, hg with
    | x' :: y' :: r, ht, hl, hg =>
      simp only [List.take_succ_cons, List.take_zero, List.cons.injEq, and_true] at ht
      obtain ⟨rfl, rfl⟩ := ht
      exact ⟨g, r, rfl, hb, hn, hc, hg, by simpa using hl⟩
    | [], ht, _, _ => simp at ht
    | [_], ht, _, _ => simp at ht

theorem own_of_two {B g : Nat} {t : TypeId} {c : Nat} {x y : Value} {cur : List Value} {w : World} (hg : Blk w g t (List.toArray (x :: y :: cur))) (hb : B ≤ g) (hn : 2 ≤ c) (hc : c ≤ maxLen) (hl : cur.length + 2 = c) :
    w.ownsRow B t 1 (.slice (some ⟨g, 0, none⟩) 2 c) 2 [x, y] := own_of_blk hg hb hn hc (by simpa using hl) (by simp)

/-- All that a call of Serve reads. -/
structure SAt (W : World) (N r g1 g2 g3 h lb kc qc dc : Nat) (u1 u2 u3 : List Value) (d0 d1 t : Int) (bg : Bool) (x y : Int) : Prop where
  sb : Blk W N 30 #[.func (Fn.func 31) #[] #[.pointer (some ⟨h, 0, none⟩)]]
  cb : Blk W (N + 1) 3 #[.int .i64 x, .int .i64 y]
  rb : Blk W r 25 #[.slice (some ⟨g1, 0, none⟩) 2 kc, .slice (some ⟨g2, 0, none⟩) 2 qc, .slice (some ⟨g3, 0, none⟩) 2 dc, .int .i64 t, .bool true, .bool bg]
  kb : Blk W g1 9 (List.toArray (.string ⟨#[97]⟩ :: .string ⟨#[98]⟩ :: u1))
  qb : Blk W g2 3 (List.toArray (.int .i64 1600 :: .int .i64 1600 :: u2))
  db : Blk W g3 3 (List.toArray (.int .i64 d0 :: .int .i64 d1 :: u3))
  hh : HeadAt W h lb

theorem SAt.below {W W' : World} {N r g1 g2 g3 h lb kc qc dc : Nat} {u1 u2 u3 : List Value} {d0 d1 t : Int} {bg : Bool} {x y : Int} (s : SAt W N r g1 g2 g3 h lb kc qc dc u1 u2 u3 d0 d1 t bg x y) (hb : Below W.heap.size W W') :
    SAt W' N r g1 g2 g3 h lb kc qc dc u1 u2 u3 d0 d1 t bg x y :=
  ⟨s.sb.below hb s.sb.lt, s.cb.below hb s.cb.lt, s.rb.below hb s.rb.lt, s.kb.below hb s.kb.lt, s.qb.below hb s.qb.lt, s.db.below hb s.db.lt, ⟨s.hh.h.below hb s.hh.h.lt, s.hh.l.below hb s.hh.l.lt⟩⟩

/-- The cells, as the walk reads them. -/
theorem SAt.cells {W : World} {N r g1 g2 g3 h lb kc qc dc : Nat} {u1 u2 u3 : List Value} {d0 d1 t : Int} {bg : Bool} {x y : Int} (s : SAt W N r g1 g2 g3 h lb kc qc dc u1 u2 u3 d0 d1 t bg x y) :
    W.cell? ⟨r, 0, none⟩ = some (.slice (some ⟨g1, 0, none⟩) 2 kc) ∧ W.cell? ⟨r, 1, none⟩ = some (.slice (some ⟨g2, 0, none⟩) 2 qc) ∧ W.cell? ⟨r, 2, none⟩ = some (.slice (some ⟨g3, 0, none⟩) 2 dc) ∧
    W.cell? ⟨r, 3, none⟩ = some (.int .i64 t) ∧ W.cell? ⟨r, 5, none⟩ = some (.bool bg) ∧ W.cell? ⟨g1, 0, none⟩ = some (.string ⟨#[97]⟩) ∧ W.cell? ⟨g1, 1, none⟩ = some (.string ⟨#[98]⟩) ∧
    W.cell? ⟨g2, 0, none⟩ = some (.int .i64 1600) ∧ W.cell? ⟨g2, 1, none⟩ = some (.int .i64 1600) ∧ W.cell? ⟨g3, 0, none⟩ = some (.int .i64 d0) ∧ W.cell? ⟨g3, 1, none⟩ = some (.int .i64 d1) ∧
    W.cell? ⟨N + 1, 0, none⟩ = some (.int .i64 x) ∧ W.cell? ⟨N + 1, 1, none⟩ = some (.int .i64 y) ∧
    W.frozen? ⟨r, 5, none⟩ = false ∧ W.frozen? ⟨g3, 0, none⟩ = false ∧ W.frozen? ⟨g3, 1, none⟩ = false ∧ W.frozen? ⟨N + 1, 0, none⟩ = false ∧ W.frozen? ⟨N + 1, 1, none⟩ = false :=
  ⟨s.rb.cell 0, s.rb.cell 1, s.rb.cell 2, s.rb.cell 3, s.rb.cell 5, s.kb.cell 0, s.kb.cell 1, s.qb.cell 0, s.qb.cell 1, s.db.cell 0, s.db.cell 1, s.cb.cell 0, s.cb.cell 1, s.rb.frozen 5, s.db.frozen 0, s.db.frozen 1, s.cb.frozen 0, s.cb.frozen 1⟩

theorem SAt.cost0 {W : World} {N r g1 g2 g3 h lb kc qc dc : Nat} {u1 u2 u3 : List Value} {d0 d1 t : Int} {bg : Bool} {x y : Int} (s : SAt W N r g1 g2 g3 h lb kc qc dc u1 u2 u3 d0 d1 t bg x y) (z : Int) (hne : g3 ≠ N + 1 ∧ g2 ≠ N + 1) :
    SAt (W.setCell ⟨N + 1, 0, none⟩ (.int .i64 z)) N r g1 g2 g3 h lb kc qc dc u1 u2 u3 d0 d1 t bg z y :=
  ⟨s.sb.far (s.sb.ne_ s.cb (by decide)) _, by simpa using s.cb.set_ 0 (.int .i64 z), s.rb.far (s.rb.ne_ s.cb (by decide)) _, s.kb.far (s.kb.ne_ s.cb (by decide)) _, s.qb.far hne.2 _, s.db.far hne.1 _, ⟨s.hh.h.far (s.hh.h.ne_ s.cb (by decide)) _, s.hh.l.far (s.hh.l.ne_ s.cb (by decide)) _⟩⟩
theorem SAt.cost1 {W : World} {N r g1 g2 g3 h lb kc qc dc : Nat} {u1 u2 u3 : List Value} {d0 d1 t : Int} {bg : Bool} {x y : Int} (s : SAt W N r g1 g2 g3 h lb kc qc dc u1 u2 u3 d0 d1 t bg x y) (z : Int) (hne : g3 ≠ N + 1 ∧ g2 ≠ N + 1) :
    SAt (W.setCell ⟨N + 1, 1, none⟩ (.int .i64 z)) N r g1 g2 g3 h lb kc qc dc u1 u2 u3 d0 d1 t bg x z :=
  ⟨s.sb.far (s.sb.ne_ s.cb (by decide)) _, by simpa using s.cb.set_ 1 (.int .i64 z), s.rb.far (s.rb.ne_ s.cb (by decide)) _, s.kb.far (s.kb.ne_ s.cb (by decide)) _, s.qb.far hne.2 _, s.db.far hne.1 _, ⟨s.hh.h.far (s.hh.h.ne_ s.cb (by decide)) _, s.hh.l.far (s.hh.l.ne_ s.cb (by decide)) _⟩⟩

theorem SAt.dep {W : World} {N r g1 g2 g3 h lb kc qc dc : Nat} {u1 u2 u3 : List Value} {d0 d1 t : Int} {bg : Bool} {x y : Int} (s : SAt W N r g1 g2 g3 h lb kc qc dc u1 u2 u3 d0 d1 t bg x y) (hne : g3 ≠ N + 1) (h23 : g2 ≠ g3) :
    (∀ z, SAt (W.setCell ⟨g3, 0, none⟩ (.int .i64 z)) N r g1 g2 g3 h lb kc qc dc u1 u2 u3 z d1 t bg x y) ∧ (∀ z, SAt (W.setCell ⟨g3, 1, none⟩ (.int .i64 z)) N r g1 g2 g3 h lb kc qc dc u1 u2 u3 d0 z t bg x y) :=
  ⟨fun z => ⟨s.sb.far (s.sb.ne_ s.db (by decide)) _, s.cb.far (Ne.symm hne) _, s.rb.far (s.rb.ne_ s.db (by decide)) _, s.kb.far (s.kb.ne_ s.db (by decide)) _, s.qb.far h23 _, by simpa using s.db.set_ 0 (.int .i64 z), ⟨s.hh.h.far (s.hh.h.ne_ s.db (by decide)) _, s.hh.l.far (s.hh.l.ne_ s.db (by decide)) _⟩⟩,
   fun z => ⟨s.sb.far (s.sb.ne_ s.db (by decide)) _, s.cb.far (Ne.symm hne) _, s.rb.far (s.rb.ne_ s.db (by decide)) _, s.kb.far (s.kb.ne_ s.db (by decide)) _, s.qb.far h23 _, by simpa using s.db.set_ 1 (.int .i64 z), ⟨s.hh.h.far (s.hh.h.ne_ s.db (by decide)) _, s.hh.l.far (s.hh.l.ne_ s.db (by decide)) _⟩⟩⟩
theorem SAt.beg {W : World} {N r g1 g2 g3 h lb kc qc dc : Nat} {u1 u2 u3 : List Value} {d0 d1 t : Int} {bg : Bool} {x y : Int} (s : SAt W N r g1 g2 g3 h lb kc qc dc u1 u2 u3 d0 d1 t bg x y) :
    SAt (W.setCell ⟨r, 5, none⟩ (.bool true)) N r g1 g2 g3 h lb kc qc dc u1 u2 u3 d0 d1 t true x y :=
  ⟨s.sb.far (s.sb.ne_ s.rb (by decide)) _, s.cb.far (s.cb.ne_ s.rb (by decide)) _, by simpa using s.rb.set_ 5 (.bool true), s.kb.far (s.kb.ne_ s.rb (by decide)) _, s.qb.far (s.qb.ne_ s.rb (by decide)) _, s.db.far (s.db.ne_ s.rb (by decide)) _, ⟨s.hh.h.far (s.hh.h.ne_ s.rb (by decide)) _, s.hh.l.far (s.hh.l.ne_ s.rb (by decide)) _⟩⟩
theorem SAt.drewN {W : World} {N r g1 g2 g3 h lb kc qc dc : Nat} {u1 u2 u3 : List Value} {d0 d1 t : Int} {bg : Bool} {x y : Int} (s : SAt W N r g1 g2 g3 h lb kc qc dc u1 u2 u3 d0 d1 t bg x y) (n : Nat) : SAt (W.drewN n) N r g1 g2 g3 h lb kc qc dc u1 u2 u3 d0 d1 t bg x y :=
  ⟨s.sb, s.cb, s.rb, s.kb, s.qb, s.db, ⟨s.hh.h, s.hh.l⟩⟩
theorem SAt.on {W W' : World} {N r g1 g2 g3 h lb kc qc dc : Nat} {u1 u2 u3 : List Value} {d0 d1 t t' : Int} {bg : Bool} {x y : Int} (s : SAt W N r g1 g2 g3 h lb kc qc dc u1 u2 u3 d0 d1 t bg x y) {e : Ending}
    (ho : OnPost r (.slice (some ⟨g1, 0, none⟩) 2 kc) (.slice (some ⟨g2, 0, none⟩) 2 qc) (.slice (some ⟨g3, 0, none⟩) 2 dc) t' W e W') : SAt W' N r g1 g2 g3 h lb kc qc dc u1 u2 u3 d0 d1 t' false x y := by
  obtain ⟨_, hr, hm⟩ := ho
  exact ⟨s.sb.mods hm (s.sb.ne_ s.rb (by decide)), s.cb.mods hm (s.cb.ne_ s.rb (by decide)), hr, s.kb.mods hm (s.kb.ne_ s.rb (by decide)), s.qb.mods hm (s.qb.ne_ s.rb (by decide)), s.db.mods hm (s.db.ne_ s.rb (by decide)), ⟨s.hh.h.mods hm (s.hh.h.ne_ s.rb (by decide)), s.hh.l.mods hm (s.hh.l.ne_ s.rb (by decide))⟩⟩
theorem SAt.rnd {W : World} {N r g1 g2 g3 h lb kc qc dc : Nat} {u1 u2 u3 : List Value} {d0 d1 t : Int} {bg : Bool} {x y : Int} (s : SAt W N r g1 g2 g3 h lb kc qc dc u1 u2 u3 d0 d1 t bg x y) {B : Nat} (hBr : B ≤ r) (hB1 : B ≤ g1) (hB2 : B ≤ g2) (hB3 : B ≤ g3)
    (hk1 : 2 ≤ kc) (hk2 : kc ≤ maxLen) (hk3 : u1.length + 2 = kc) (hq1 : 2 ≤ qc) (hq2 : qc ≤ maxLen) (hq3 : u2.length + 2 = qc) (hd3 : 2 ≤ dc) (hd4 : dc ≤ maxLen) (hd5 : u3.length + 2 = dc) (hg23 : g2 ≠ g3) : Rnd B W r 2 kab q2 (d2 d0 d1) t bg :=
  ⟨_, _, _, _, _, _, hBr, s.rb, own_of_two s.kb hB1 hk1 hk2 hk3, own_of_two s.qb hB2 hq1 hq2 hq3, own_of_two s.db hB3 hd3 hd4 hd5, fun g h1 h2 => by
    have e1 : g2 = g := by simpa [Value.ownBlock] using h1
    have e2 : g3 = g := by simpa [Value.ownBlock] using h2
    exact hg23 (by omega)⟩
theorem rnd_drewN {B r n : Nat} {K Q D : List Value} {t : Int} {bg : Bool} {w : World} (h : Rnd B w r n K Q D t bg) (m : Nat) : Rnd B (w.drewN m) r n K Q D t bg := h
end Go.Proofs.Yteiaojapolpjaaa
