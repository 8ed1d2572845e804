/- SagaMirrors: what the walk carries. -/
import Derived.Test.YtaamjpeehejafaaDoorMir1
import Derived.Test.YtaamjpeehejafaaDoorAnch4
set_option linter.unusedSimpArgs false
set_option linter.unusedVariables false
namespace Go.Proofs.YtaamjpeehejafaaDoor
open Go Go.RowKit

/-- the row that grows is one of elements of type X -/
def RowOf (W : World) (X : TypeId) (row : Option Nat) : Prop := ∀ g, row = some g → ∃ c fr, W.heap[g]? = some (.cells c X fr)
theorem rowOf_own {w : World} {base : Nat} {e : TypeId} {size : Nat} {v : Value} {n : Nat} {xs : List Value} (h : w.ownsRow base e size v n xs) : RowOf w e v.ownBlock := by
  intro g hg
  rcases h.2 with ⟨rfl, _⟩ | ⟨k, cap, cur, rfl, _, hk, _⟩
  · simp [Value.ownBlock] at hg
  · simp [Value.ownBlock] at hg
    subst hg
    exact ⟨_, _, hk⟩
theorem rowOf_box {w : World} {g : Nat} {c : Array Value} {X : TypeId} {fr : Nat × Nat} (h : w.heap[g]? = some (.cells c X fr)) : RowOf w X (some g) := fun k hk => by injection hk with hk; subst hk; exact ⟨_, _, h⟩
theorem own_keptX {w w' : World} {row : Option Nat} {X : TypeId} {base : Nat} {e : TypeId} {size : Nat} {v : Value} {n : Nat} {xs : List Value} (h : w.ownsRow base e size v n xs) (hg : w.grownBy w' row) (hT : RowOf w X row) (hne : X ≠ e) : w'.ownsRow base e size v n xs := by
  refine h.kept hg ?_
  rcases h.2 with ⟨rfl, _⟩ | ⟨k, cap, cur, rfl, _, hk, _⟩
  · exact .inl rfl
  · refine .inr ?_
    intro e1
    obtain ⟨c, fr, hc⟩ := hT k e1.symm
    rw [hk] at hc
    injection hc with hc
    injection hc with _ h2
    exact hne h2.symm
theorem box_keptX {w w' : World} {row : Option Nat} {X T : TypeId} {k : Nat} {c : Array Value} {fr : Nat × Nat} (h : w.heap[k]? = some (.cells c T fr)) (hg : w.grownBy w' row) (hT : RowOf w X row) (hne : X ≠ T) : w'.heap[k]? = some (.cells c T fr) := by
  rw [hg.block k (Array.getElem?_eq_some_iff.1 h).1 (fun e => ?_)]
  · exact h
  · obtain ⟨c', fr', hc⟩ := hT k e.symm
    rw [h] at hc
    injection hc with hc
    injection hc with _ h2
    exact hne h2.symm
theorem RowSt.keptX {w w' : World} {row : Option Nat} {X : TypeId} {base : Nat} {u1 u2 u3 u4 u5 u6 : Value} {s : St} (h : RowSt w base u1 u2 u3 u4 u5 u6 s) (hg : w.grownBy w' row) (hT : RowOf w X row) (h1 : X ≠ 3) (h2 : X ≠ 69) (h3 : X ≠ 70) : RowSt w' base u1 u2 u3 u4 u5 u6 s :=
  ⟨⟨own_keptX h.plan.fr hg hT h1, own_keptX h.plan.to hg hT h1, own_keptX h.plan.steps hg hT h2, own_keptX h.plan.before hg hT h3⟩, own_keptX h.opn hg hT h1, own_keptX h.done hg hT h1⟩

structure MirW (w0 : World) (P1 : Option Addr) (p1 : Nat) (P2 : Option Addr) (p2 : Nat) (P3 : Option Addr) (p3 : Nat) (P4 : Option Addr) (p4 : Nat) (gb : Nat) (s : St) (v9 : Value) (D : List Int) (A1 : Option Addr) (d1 : Nat) (A2 : Option Addr) (d2 : Nat) (A3 : Option Addr) (d3 : Nat) (A4 : Option Addr) (d4 : Nat) (A5 : Option Addr) (d5 : Nat) (A6 : Option Addr) (d6 : Nat) (W : World) : Prop where
  hp : W.heap[w0.heap.size]? = some (.cells #[.slice P1 s.plan.fr.length p1, .slice P2 s.plan.to.length p2, .slice P3 s.plan.steps.length p3, .slice P4 s.plan.before.length p4] 29 (0, 0))
  hg : W.heap[gb]? = some (.cells #[.int .i64 s.number, .int .i64 s.phase, .slice A1 s.plan.fr.length d1, .slice A2 s.plan.to.length d2, .slice A3 s.plan.steps.length d3, .slice A4 s.plan.before.length d4, .slice A5 s.opn.length d5, .slice A6 s.done.length d6] 31 (0, 0))
  row : RowSt W w0.heap.size (.slice A1 s.plan.fr.length d1) (.slice A2 s.plan.to.length d2) (.slice A3 s.plan.steps.length d3) (.slice A4 s.plan.before.length d4) (.slice A5 s.opn.length d5) (.slice A6 s.done.length d6) s
  sets : W.ownsRow w0.heap.size 39 1 v9 (setsOf D).length (u64s (setsOf D))
  below : Below w0.heap.size w0 W
  lt : w0.heap.size < gb
section
variable {w0 : World} {P1 P2 P3 P4 : Option Addr} {p1 p2 p3 p4 gb : Nat} {s : St} {v9 : Value} {D : List Int} {A1 A2 A3 A4 A5 A6 : Option Addr} {d1 d2 d3 d4 d5 d6 : Nat} {W W' : World}
theorem MirW.bd (h : MirW w0 P1 p1 P2 p2 P3 p3 P4 p4 gb s v9 D A1 d1 A2 d2 A3 d3 A4 d4 A5 d5 A6 d6 W) : w0.heap.size < W.heap.size ∧ gb < W.heap.size :=
  ⟨(Array.getElem?_eq_some_iff.1 h.hp).1, (Array.getElem?_eq_some_iff.1 h.hg).1⟩
theorem MirW.keep (h : MirW w0 P1 p1 P2 p2 P3 p3 P4 p4 gb s v9 D A1 d1 A2 d2 A3 d3 A4 d4 A5 d5 A6 d6 W) (hb : Below W.heap.size W W') : MirW w0 P1 p1 P2 p2 P3 p3 P4 p4 gb s v9 D A1 d1 A2 d2 A3 d3 A4 d4 A5 d5 A6 d6 W' :=
  ⟨(hb.block _ h.bd.1).trans h.hp, (hb.block _ h.bd.2).trans h.hg, h.row.below hb, own_below h.sets hb, h.below.trans (hb.mono (by have := h.bd.1; omega)), h.lt⟩
theorem sets_ge {w : World} {base : Nat} {e : TypeId} {size : Nat} {v : Value} {n : Nat} {xs : List Value} (h : w.ownsRow base e size v n xs) : ∀ g, v.ownBlock = some g → base ≤ g := by
  intro g hg
  exact (h.lt g hg).1
theorem MirW.app (h : MirW w0 P1 p1 P2 p2 P3 p3 P4 p4 gb s v9 D A1 d1 A2 d2 A3 d3 A4 d4 A5 d5 A6 d6 W) (hg : W.grownBy W' v9.ownBlock) {v9' : Value} {D' : List Int} (ho : W'.ownsRow w0.heap.size 39 1 v9' (setsOf D').length (u64s (setsOf D'))) :
    MirW w0 P1 p1 P2 p2 P3 p3 P4 p4 gb s v9' D' A1 d1 A2 d2 A3 d3 A4 d4 A5 d5 A6 d6 W' :=
  ⟨box_keptX h.hp hg (rowOf_own h.sets) (by decide), box_keptX h.hg hg (rowOf_own h.sets) (by decide), h.row.keptX hg (rowOf_own h.sets) (by decide) (by decide) (by decide), ho, Below.grown h.below hg (by have := h.bd.1; omega) (fun k hk => sets_ge h.sets k hk), h.lt⟩
/-- a new state is stored into the box -/
theorem MirW.put {s' : St} {E1 E2 E3 E4 E5 E6 : Option Addr} {g1 g2 g3 g4 g5 g6 : Nat} (h : MirW w0 P1 p1 P2 p2 P3 p3 P4 p4 gb s v9 D A1 d1 A2 d2 A3 d3 A4 d4 A5 d5 A6 d6 W) (hpl : s'.plan = s.plan)
    (hrow : RowSt W w0.heap.size (.slice E1 s'.plan.fr.length g1) (.slice E2 s'.plan.to.length g2) (.slice E3 s'.plan.steps.length g3) (.slice E4 s'.plan.before.length g4) (.slice E5 s'.opn.length g5) (.slice E6 s'.done.length g6) s') :
    MirW w0 P1 p1 P2 p2 P3 p3 P4 p4 gb s' v9 D E1 g1 E2 g2 E3 g3 E4 g4 E5 g5 E6 g6 ((((((((W.setCell ⟨gb, 0, none⟩ (.int .i64 s'.number)).setCell ⟨gb, 1, none⟩ (.int .i64 s'.phase)).setCell ⟨gb, 2, none⟩ (.slice E1 s'.plan.fr.length g1)).setCell ⟨gb, 3, none⟩ (.slice E2 s'.plan.to.length g2)).setCell ⟨gb, 4, none⟩ (.slice E3 s'.plan.steps.length g3)).setCell ⟨gb, 5, none⟩ (.slice E4 s'.plan.before.length g4)).setCell ⟨gb, 6, none⟩ (.slice E5 s'.opn.length g5)).setCell ⟨gb, 7, none⟩ (.slice E6 s'.done.length g6)) := by
  have q := eight_grown W gb (.int .i64 s'.number) (.int .i64 s'.phase) (.slice E1 s'.plan.fr.length g1) (.slice E2 s'.plan.to.length g2) (.slice E3 s'.plan.steps.length g3) (.slice E4 s'.plan.before.length g4) (.slice E5 s'.opn.length g5) (.slice E6 s'.done.length g6)
  have hT := rowOf_box h.hg
  have hlt := h.lt
  refine ⟨by rw [hpl]; exact box_keptX h.hp (by rw [hpl] at q; exact q) hT (by decide), eight_same W gb _ _ _ _ _ _ _ _ _ _ _ _ _ _ _ _ _ h.hg, hrow.keptX q hT (by decide) (by decide) (by decide), own_keptX h.sets q hT (by decide), Below.grown h.below q (by have := h.bd.1; omega) (by intro k hk; injection hk with hk; omega), h.lt⟩
end
def MirB (w0 : World) (P1 : Option Addr) (p1 : Nat) (P2 : Option Addr) (p2 : Nat) (P3 : Option Addr) (p3 : Nat) (P4 : Option Addr) (p4 : Nat) (gb : Nat) (s : St) (v9 : Value) (D : List Int) (W : World) : Prop :=
  ∃ A1 d1 A2 d2 A3 d3 A4 d4 A5 d5 A6 d6, MirW w0 P1 p1 P2 p2 P3 p3 P4 p4 gb s v9 D A1 d1 A2 d2 A3 d3 A4 d4 A5 d5 A6 d6 W
end Go.Proofs.YtaamjpeehejafaaDoor
