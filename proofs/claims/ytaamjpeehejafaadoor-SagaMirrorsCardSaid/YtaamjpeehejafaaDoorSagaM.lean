/- The saga's machine as plain functions: no Go in it. -/
import Derived.Test.YtaamjpeehejafaaDoorSl1
set_option linter.unusedSimpArgs false
set_option linter.unusedVariables false
namespace Go.Proofs.YtaamjpeehejafaaDoor
open Go Go.RowKit

structure Plan where
  fr : List Int
  to : List Int
  steps : List (Int × Int)
  before : List (Int × Int)
structure St where
  number : Int
  phase : Int
  plan : Plan
  opn : List Int
  done : List Int
structure Rec where
  kind : Int
  step : Int
  plan : Plan

def Plan.none : Plan := ⟨[], [], [], []⟩
def Plan.bare (p : Plan) : Bool := decide (((p.fr.length : Int) + p.to.length + p.steps.length + p.before.length) = 0)
def stepped (k : Int) : Bool := (decide (k ≥ 2) && decide (k ≤ 4)) || k == 6
def Rec.formed (r : Rec) : Bool := (decide (r.kind ≥ 1) && decide (r.kind ≤ 8)) && (r.kind == 1 || r.plan.bare) && (stepped r.kind || r.step == 0)
def lastS (s : Int × Int) : Bool := s.2 == 3
def when (k ph : Int) : Bool :=
  if k = 1 then (ph == 0 || ph == 4 || ph == 5) else if k = 2 ∨ k = 3 then (ph == 1 || ph == 3) else if k = 4 ∨ k = 5 ∨ k = 7 then ph == 1 else if k = 6 then ph == 2 else (ph == 3 || ph == 2)
/-- what keeps a step waiting -/
def St.waits (s : St) (k : Int) (x : Int × Int) : Bool := x.2 == k && !has s.done x.1
def St.may (s : St) (k : Int) : Bool :=
  if k < 0 ∨ k ≥ s.plan.steps.length then false else
  if has s.opn k ∨ has s.done k then false else
  let l := lastS (s.plan.steps.getD k.toNat (0, 0))
  if !((s.phase == 1 && !l) || (s.phase == 3 && l)) then false else !s.plan.before.any (s.waits k)

structure RPlan (w : World) (v1 v2 v3 v4 : Value) (p : Plan) : Prop where
  fr : Sl w v1 p.fr.length (ints p.fr)
  to : Sl w v2 p.to.length (ints p.to)
  steps : Sl w v3 p.steps.length (pairs p.steps)
  before : Sl w v4 p.before.length (pairs p.before)
theorem RPlan.below {w w' : World} {v1 v2 v3 v4 : Value} {p : Plan} (h : RPlan w v1 v2 v3 v4 p) (hb : Below w.heap.size w w') : RPlan w' v1 v2 v3 v4 p :=
  ⟨h.fr.below hb, h.to.below hb, h.steps.below hb, h.before.below hb⟩
structure RSt (w : World) (v1 v2 v3 v4 v5 v6 : Value) (s : St) : Prop where
  plan : RPlan w v1 v2 v3 v4 s.plan
  opn : Sl w v5 s.opn.length (ints s.opn)
  done : Sl w v6 s.done.length (ints s.done)
theorem RSt.below {w w' : World} {v1 v2 v3 v4 v5 v6 : Value} {p : St} (h : RSt w v1 v2 v3 v4 v5 v6 p) (hb : Below w.heap.size w w') : RSt w' v1 v2 v3 v4 v5 v6 p :=
  ⟨h.plan.below hb, h.opn.below hb, h.done.below hb⟩
end Go.Proofs.YtaamjpeehejafaaDoor
