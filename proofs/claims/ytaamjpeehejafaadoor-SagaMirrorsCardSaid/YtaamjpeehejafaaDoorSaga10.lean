/- State.Take: the stages of the drawn statements. -/
import Derived.Test.YtaamjpeehejafaaDoorSaga9
import Derived.Test.YtaamjpeehejafaaDoorThrees
set_option linter.unusedSimpArgs false
set_option linter.unusedVariables false
namespace Go.Proofs.YtaamjpeehejafaaDoor
open Go Go.RowKit

/-- all but block g and one row are as they were -/
structure OffBy (row : Option Nat) (g : Nat) (a b : World) : Prop where
  size : a.heap.size ≤ b.heap.size
  block : ∀ k, k < a.heap.size → k ≠ g → row ≠ some k → b.heap[k]? = a.heap[k]?
theorem OffBy.refl (row : Option Nat) (g : Nat) (a : World) : OffBy row g a a := ⟨Nat.le_refl _, fun _ _ _ _ => rfl⟩
theorem OffBy.trans {row : Option Nat} {g : Nat} {a b c : World} (h : OffBy row g a b) (k : OffBy row g b c) : OffBy row g a c :=
  ⟨Nat.le_trans h.size k.size, fun i hi h1 h2 => (k.block i (Nat.lt_of_lt_of_le hi h.size) h1 h2).trans (h.block i hi h1 h2)⟩
theorem OffBy.of_below {row : Option Nat} {g : Nat} {a b : World} (h : Below a.heap.size a b) : OffBy row g a b := ⟨h.size, fun k hk _ _ => h.block k hk⟩
theorem OffBy.of_row {row : Option Nat} {g : Nat} {a b : World} (h : a.grownBy b row) : OffBy row g a b := ⟨h.size, fun k hk _ hr => h.block k hk (fun e => hr e.symm)⟩
theorem OffBy.of_set {row : Option Nat} {g : Nat} {a b : World} (h : a.grownBy b (some g)) : OffBy row g a b := ⟨h.size, fun k hk hg _ => h.block k hk (fun e => hg (by injection e))⟩
theorem OffBy.own {row : Option Nat} {g : Nat} {a b : World} {base : Nat} {e : TypeId} {size : Nat} {v : Value} {n : Nat} {xs : List Value} (hb : OffBy row g a b) (h : a.ownsRow base e size v n xs) (hlt : g < base) (hne : ∀ k, row = some k → v.ownBlock ≠ some k) : b.ownsRow base e size v n xs := by
  refine ⟨h.1, ?_⟩
  rcases h.2 with hn | ⟨i, cap, cur, rfl, hbg, hgg, rest⟩
  · exact .inl hn
  · refine .inr ⟨i, cap, cur, rfl, hbg, ?_, rest⟩
    rw [hb.block i (Array.getElem?_eq_some_iff.1 hgg).1 (by omega) (fun e => hne i e rfl)]
    exact hgg

structure Box (w0 : World) (k st : Int) (r1 r2 r3 r4 : Value) (n ph : Int) (x1 x2 x3 x4 x5 x6 : Value) (w : World) : Prop where
  below : Below w0.heap.size w0 w
  size : w0.heap.size + 3 ≤ w.heap.size
  state : w.heap[w0.heap.size]? = some (.cells #[.int .i64 n, .int .i64 ph, x1, x2, x3, x4, x5, x6] 31 (0, 0))
  rcd : w.heap[w0.heap.size + 1]? = some (.cells #[.int .i64 k, .int .i64 st, r1, r2, r3, r4] 33 (0, 0))
  out : w.heap[w0.heap.size + 2]? = some stZero
theorem TkS.box {w0 w : World} {k st : Int} {s : St} {r1 r2 r3 r4 u1 u2 u3 u4 u5 u6 : Value} (h : TkS w0 k st r1 r2 r3 r4 s u1 u2 u3 u4 u5 u6 w) : Box w0 k st r1 r2 r3 r4 s.number s.phase u1 u2 u3 u4 u5 u6 w := ⟨h.below, h.size, h.state, h.rcd, h.out⟩
theorem Box.later {w0 w w' : World} {k st n ph : Int} {r1 r2 r3 r4 u1 u2 u3 u4 u5 u6 : Value} {row : Option Nat} (h : Box w0 k st r1 r2 r3 r4 n ph u1 u2 u3 u4 u5 u6 w) (hg : w.grownBy w' row) (hr : ∀ k, row = some k → w0.heap.size + 3 ≤ k) : Box w0 k st r1 r2 r3 r4 n ph u1 u2 u3 u4 u5 u6 w' := by
  have hz := h.size
  refine ⟨Below.grown h.below hg h.below.size (fun k hk => by have := hr k hk; omega), Nat.le_trans h.size hg.size, ?_, ?_, ?_⟩
  · rw [hg.block _ (by omega) (by intro e; have := hr _ e.symm; omega)]; exact h.state
  · rw [hg.block _ (by omega) (by intro e; have := hr _ e.symm; omega)]; exact h.rcd
  · rw [hg.block _ (by omega) (by intro e; have := hr _ e.symm; omega)]; exact h.out
theorem Box.set5 {w0 w : World} {k st n ph : Int} {r1 r2 r3 r4 u1 u2 u3 u4 u5 u6 : Value} (h : Box w0 k st r1 r2 r3 r4 n ph u1 u2 u3 u4 u5 u6 w) (x : Value) : Box w0 k st r1 r2 r3 r4 n ph u1 u2 u3 u4 x u6 (w.setCell ⟨w0.heap.size, 6, none⟩ x) := by
  have hz := h.size
  have q := set_grown w w0.heap.size 6 x
  refine ⟨Below.setCell h.below (Nat.le_refl _) _, Nat.le_trans h.size q.size, heap_setCell_same _ _ 6 _ _ _ h.state, ?_, ?_⟩
  · rw [q.block _ (by omega) (by simp)]; exact h.rcd
  · rw [q.block _ (by omega) (by simp)]; exact h.out
theorem Box.set6 {w0 w : World} {k st n ph : Int} {r1 r2 r3 r4 u1 u2 u3 u4 u5 u6 : Value} (h : Box w0 k st r1 r2 r3 r4 n ph u1 u2 u3 u4 u5 u6 w) (x : Value) : Box w0 k st r1 r2 r3 r4 n ph u1 u2 u3 u4 u5 x (w.setCell ⟨w0.heap.size, 7, none⟩ x) := by
  have hz := h.size
  have q := set_grown w w0.heap.size 7 x
  refine ⟨Below.setCell h.below (Nat.le_refl _) _, Nat.le_trans h.size q.size, heap_setCell_same _ _ 7 _ _ _ h.state, ?_, ?_⟩
  · rw [q.block _ (by omega) (by simp)]; exact h.rcd
  · rw [q.block _ (by omega) (by simp)]; exact h.out

structure TurnS (w0 : World) (kd st : Int) (r1 r2 r3 r4 : Value) (s : St) (u1 u2 u3 u4 u5 u6 : Value) (D5 D6 : List Int) (k : Nat) (y : Value) (w : World) (x5 x6 : Value) : Prop where
  box : Box w0 kd st r1 r2 r3 r4 s.number s.phase u1 u2 u3 u4 x5 x6 w
  plan : OPlan w (w0.heap.size + 3) u1 u2 u3 u4 s.plan
  old : k ≤ 2 → x5 = u5 ∧ x6 = u6
  o5 : k ≤ 0 → w.ownsRow (w0.heap.size + 3) 3 1 u5 s.opn.length (ints s.opn)
  o6 : k ≤ 1 → w.ownsRow (w0.heap.size + 3) 3 1 u6 s.done.length (ints s.done)
  ny : 2 ≤ k → w.ownsRow (w0.heap.size + 3) 3 1 y D6.length (ints D6)
  n5 : 3 ≤ k → w.ownsRow (w0.heap.size + 3) 3 1 x5 D5.length (ints D5)
  n6 : 4 ≤ k → w.ownsRow (w0.heap.size + 3) 3 1 x6 D6.length (ints D6)
section
variable {w0 : World} {kd st : Int} {r1 r2 r3 r4 : Value} {s : St} {u1 u2 u3 u4 u5 u6 : Value} {D5 D6 : List Int}
theorem TurnS.later {k : Nat} {y y' : Value} {w w' : World} {x5 x6 : Value} (h : TurnS w0 kd st r1 r2 r3 r4 s u1 u2 u3 u4 u5 u6 D5 D6 k y w x5 x6) (hb : Below w.heap.size w w') (hy : 2 ≤ k → y' = y) : TurnS w0 kd st r1 r2 r3 r4 s u1 u2 u3 u4 u5 u6 D5 D6 k y' w' x5 x6 :=
  ⟨h.box.later (grown_of_below hb none) (by simp), h.plan.below hb, h.old, fun hk => own_below (h.o5 hk) hb, fun hk => own_below (h.o6 hk) hb, fun hk => by rw [hy hk]; exact own_below (h.ny hk) hb, fun hk => own_below (h.n5 hk) hb, fun hk => own_below (h.n6 hk) hb⟩
theorem TurnS.one {y y' : Value} {w : World} {x5 x6 : Value} (h : TurnS w0 kd st r1 r2 r3 r4 s u1 u2 u3 u4 u5 u6 D5 D6 0 y w x5 x6) : TurnS w0 kd st r1 r2 r3 r4 s u1 u2 u3 u4 u5 u6 D5 D6 1 y' w x5 x6 :=
  ⟨h.box, h.plan, fun _ => h.old (by omega), fun hk => by omega, fun _ => h.o6 (by omega), fun hk => by omega, fun hk => by omega, fun hk => by omega⟩
theorem TurnS.two {y y' : Value} {w w' : World} {x5 x6 : Value} {row : Option Nat} (h : TurnS w0 kd st r1 r2 r3 r4 s u1 u2 u3 u4 u5 u6 D5 D6 1 y w x5 x6) (hg : w.grownBy w' row) (hr : ∀ k, row = some k → w0.heap.size + 3 ≤ k) (hp : OPlan w' (w0.heap.size + 3) u1 u2 u3 u4 s.plan) (ho : w'.ownsRow (w0.heap.size + 3) 3 1 y' D6.length (ints D6)) : TurnS w0 kd st r1 r2 r3 r4 s u1 u2 u3 u4 u5 u6 D5 D6 2 y' w' x5 x6 :=
  ⟨h.box.later hg hr, hp, fun _ => h.old (by omega), fun hk => by omega, fun hk => by omega, fun _ => ho, fun hk => by omega, fun hk => by omega⟩
theorem TurnS.three {y x y' : Value} {w : World} {x5 x6 : Value} (h : TurnS w0 kd st r1 r2 r3 r4 s u1 u2 u3 u4 u5 u6 D5 D6 2 y w x5 x6) (hy : y' = y) (ho : w.ownsRow (w0.heap.size + 3) 3 1 x D5.length (ints D5)) : TurnS w0 kd st r1 r2 r3 r4 s u1 u2 u3 u4 u5 u6 D5 D6 3 y' (w.setCell ⟨w0.heap.size, 6, none⟩ x) x x6 := by
  have q := set_grown w w0.heap.size 6 x
  exact ⟨h.box.set5 x, h.plan.kept q (by omega), fun hk => by omega, fun hk => by omega, fun hk => by omega, fun _ => by rw [hy]; exact own_kept (h.ny (by omega)) q (by omega), fun _ => own_kept ho q (by omega), fun hk => by omega⟩
theorem TurnS.four {y y' x : Value} {w : World} {x5 x6 : Value} (h : TurnS w0 kd st r1 r2 r3 r4 s u1 u2 u3 u4 u5 u6 D5 D6 3 y w x5 x6) (hy : y' = y) (hx : y = x) : TurnS w0 kd st r1 r2 r3 r4 s u1 u2 u3 u4 u5 u6 D5 D6 4 y' (w.setCell ⟨w0.heap.size, 7, none⟩ x) x5 x := by
  subst hx
  have q := set_grown w w0.heap.size 7 y
  exact ⟨h.box.set6 y, h.plan.kept q (by omega), fun hk => by omega, fun hk => by omega, fun hk => by omega, fun _ => by rw [hy]; exact own_kept (h.ny (by omega)) q (by omega), fun _ => own_kept (h.n5 (by omega)) q (by omega), fun _ => own_kept (h.ny (by omega)) q (by omega)⟩
end
def TurnE (J : Nat) (w0 : World) (kd st : Int) (r1 r2 r3 r4 : Value) (s : St) (u1 u2 u3 u4 u5 u6 : Value) (D5 D6 : List Int) (k : Nat) (σ : Nat → Value) (w : World) : Prop := ∃ x5 x6, TurnS w0 kd st r1 r2 r3 r4 s u1 u2 u3 u4 u5 u6 D5 D6 k (σ J) w x5 x6
theorem TurnE.later {J : Nat} {w0 : World} {kd st : Int} {r1 r2 r3 r4 : Value} {s : St} {u1 u2 u3 u4 u5 u6 : Value} {D5 D6 : List Int} {k : Nat} {σ σ' : Nat → Value} {w w' : World} (h : TurnE J w0 kd st r1 r2 r3 r4 s u1 u2 u3 u4 u5 u6 D5 D6 k σ w) (hb : Below w.heap.size w w') (hy : σ' J = σ J) : TurnE J w0 kd st r1 r2 r3 r4 s u1 u2 u3 u4 u5 u6 D5 D6 k σ' w' := by
  obtain ⟨x5, x6, h⟩ := h
  exact ⟨x5, x6, h.later hb fun _ => hy⟩
/-- what the slots of the first nine operations hold -/
def SwF (g : Nat) (st : Int) (u5 u6 : Value) (D5 : List Int) (more : Nat → Value → World → Prop) : Nat → Value → World → Prop
  | 0, v, _ => v = .pointer (some ⟨g, 6, none⟩)
  | 1, v, _ => v = u5
  | 2, v, _ => v = .pointer (some ⟨g + 1, 1, none⟩)
  | 3, v, _ => v = .int .i64 st
  | 4, v, w => w.ownsRow (g + 3) 3 1 v D5.length (ints D5) ∧ ∀ k, u6.ownBlock = some k → v.ownBlock ≠ some k
  | 5, v, _ => v = .pointer (some ⟨g, 7, none⟩)
  | 6, v, _ => v = u6
  | 7, v, _ => v = .pointer (some ⟨g + 1, 1, none⟩)
  | 8, v, _ => v = .int .i64 st
  | i, v, w => more i v w
theorem SwF.keep {g : Nat} {st : Int} {u5 u6 : Value} {D5 : List Int} {more : Nat → Value → World → Prop} (hm : ∀ i v w w', more i v w → OffBy u6.ownBlock g w w' → more i v w') (i : Nat) (v : Value) (w w' : World) (h : SwF g st u5 u6 D5 more i v w) (hR : OffBy u6.ownBlock g w w') : SwF g st u5 u6 D5 more i v w' := by
  unfold SwF at h ⊢
  split at h <;> first | exact h | exact ⟨hR.own h.1 (by omega) h.2, h.2⟩ | exact hm _ _ _ _ h hR
def More6 (g : Nat) : Nat → Value → World → Prop
  | 10, v, _ => v = .pointer (some ⟨g, 6, none⟩)
  | 12, v, _ => v = .pointer (some ⟨g, 7, none⟩)
  | _, _, _ => True
theorem More6.keep {g : Nat} {row : Option Nat} (i : Nat) (v : Value) (w w' : World) (h : More6 g i v w) (_ : OffBy row g w w') : More6 g i v w' := by
  unfold More6 at h ⊢
  split at h <;> first | exact h | trivial
end Go.Proofs.YtaamjpeehejafaaDoor
