/- Contracts: State.Take, taken: the kinds 2, 4, 5, 7. -/
import Derived.Test.YtaamjpeehejafaaDoorSaga6
import Derived.Deep.Cut
set_option linter.unusedSimpArgs false
set_option linter.unusedVariables false
namespace Go.Proofs.YtaamjpeehejafaaDoor
open Go Go.RowKit

theorem own_set {w : World} {base : Nat} {e : TypeId} {size : Nat} {v : Value} {n : Nat} {xs : List Value} {g j : Nat} {u : Value} (h : w.ownsRow base e size v n xs) (hlt : g < base) : (w.setCell ⟨g, j, none⟩ u).ownsRow base e size v n xs := own_kept h (set_grown w g j u) hlt
theorem OPlan.set {w : World} {base : Nat} {u1 u2 u3 u4 : Value} {p : Plan} {g j : Nat} {u : Value} (h : OPlan w base u1 u2 u3 u4 p) (hlt : g < base) : OPlan (w.setCell ⟨g, j, none⟩ u) base u1 u2 u3 u4 p := h.kept (set_grown w g j u) hlt
theorem OSt.set {w : World} {base : Nat} {u1 u2 u3 u4 u5 u6 : Value} {s : St} {g j : Nat} {u : Value} (h : OSt w base u1 u2 u3 u4 u5 u6 s) (hlt : g < base) : OSt (w.setCell ⟨g, j, none⟩ u) base u1 u2 u3 u4 u5 u6 s :=
  ⟨h.plan.set hlt, own_set h.opn hlt, own_set h.done hlt, h.ap5, h.ap6⟩
theorem OSt.reads {w : World} {base : Nat} {u1 u2 u3 u4 u5 u6 : Value} {s : St} (h : OSt w base u1 u2 u3 u4 u5 u6 s) (hb : s.bd) : RSt w u1 u2 u3 u4 u5 u6 s :=
  ⟨h.plan.reads hb.plan, Sl.of_own h.opn (by have := hb.opn; omega), Sl.of_own h.done (by have := hb.done; omega)⟩
theorem OSt.slices {w : World} {base : Nat} {u1 u2 u3 u4 u5 u6 : Value} {s : St} (h : OSt w base u1 u2 u3 u4 u5 u6 s) : ∃ A1 c1 A2 c2 A3 c3 A4 c4 A5 c5 A6 c6, u1 = .slice A1 s.plan.fr.length c1 ∧ u2 = .slice A2 s.plan.to.length c2 ∧ u3 = .slice A3 s.plan.steps.length c3 ∧ u4 = .slice A4 s.plan.before.length c4 ∧ u5 = .slice A5 s.opn.length c5 ∧ u6 = .slice A6 s.done.length c6 := by
  obtain ⟨A1, c1, A2, c2, A3, c3, A4, c4, h1, h2, h3, h4⟩ := h.plan.slices
  obtain ⟨A5, c5, h5⟩ := own_slice h.opn
  obtain ⟨A6, c6, h6⟩ := own_slice h.done
  exact ⟨A1, c1, A2, c2, A3, c3, A4, c4, A5, c5, A6, c6, h1, h2, h3, h4, h5, h6⟩

theorem three_new (w : World) (o1 o2 o3 : Obj) : (((w.alloc o1).alloc o2).alloc o3).heap[w.heap.size]? = some o1 ∧ (((w.alloc o1).alloc o2).alloc o3).heap[w.heap.size + 1]? = some o2 ∧ (((w.alloc o1).alloc o2).alloc o3).heap[w.heap.size + 2]? = some o3 := by
  refine ⟨?_, ?_, ?_⟩
  · rw [Below.heap_alloc _ _ _ (by simp; omega)]; exact (two_new w o1 o2).1
  · rw [Below.heap_alloc _ _ _ (by simp)]; exact (two_new w o1 o2).2
  · have := heap_alloc_new ((w.alloc o1).alloc o2) o3
    simpa using this
def stCells (n ph : Int) (u1 u2 u3 u4 u5 u6 : Value) : Obj := .cells #[.int .i64 n, .int .i64 ph, u1, u2, u3, u4, u5, u6] 31 (0, 0)
def stZero : Obj := .cells #[.int .i64 0, .int .i64 0, .slice none 0 0, .slice none 0 0, .slice none 0 0, .slice none 0 0, .slice none 0 0, .slice none 0 0] 31 (0, 0)
theorem eight_grown (w : World) (g : Nat) (x0 x1 x2 x3 x4 x5 x6 x7 : Value) : w.grownBy ((((((((w.setCell ⟨g, 0, none⟩ x0).setCell ⟨g, 1, none⟩ x1).setCell ⟨g, 2, none⟩ x2).setCell ⟨g, 3, none⟩ x3).setCell ⟨g, 4, none⟩ x4).setCell ⟨g, 5, none⟩ x5).setCell ⟨g, 6, none⟩ x6).setCell ⟨g, 7, none⟩ x7) (some g) :=
  grown_trans (grown_trans (grown_trans (grown_trans (grown_trans (grown_trans (grown_trans (set_grown _ _ _ _) (set_grown _ _ _ _)) (set_grown _ _ _ _)) (set_grown _ _ _ _)) (set_grown _ _ _ _)) (set_grown _ _ _ _)) (set_grown _ _ _ _)) (set_grown _ _ _ _)
theorem eight_same (w : World) (g : Nat) (y0 y1 y2 y3 y4 y5 y6 y7 x0 x1 x2 x3 x4 x5 x6 x7 : Value) (t : TypeId) (h : w.heap[g]? = some (.cells #[y0, y1, y2, y3, y4, y5, y6, y7] t (0, 0))) :
    ((((((((w.setCell ⟨g, 0, none⟩ x0).setCell ⟨g, 1, none⟩ x1).setCell ⟨g, 2, none⟩ x2).setCell ⟨g, 3, none⟩ x3).setCell ⟨g, 4, none⟩ x4).setCell ⟨g, 5, none⟩ x5).setCell ⟨g, 6, none⟩ x6).setCell ⟨g, 7, none⟩ x7).heap[g]? = some (.cells #[x0, x1, x2, x3, x4, x5, x6, x7] t (0, 0)) := by
  replace h : (w.setCell ⟨g, 0, none⟩ x0).heap[g]? = some (.cells #[x0, y1, y2, y3, y4, y5, y6, y7] t (0, 0)) := heap_setCell_same w g 0 _ t x0 h
  generalize w.setCell ⟨g, 0, none⟩ x0 = w' at h ⊢
  clear w
  rename World => w
  replace h : (w.setCell ⟨g, 1, none⟩ x1).heap[g]? = some (.cells #[x0, x1, y2, y3, y4, y5, y6, y7] t (0, 0)) := heap_setCell_same w g 1 _ t x1 h
  generalize w.setCell ⟨g, 1, none⟩ x1 = w' at h ⊢
  clear w
  rename World => w
  replace h : (w.setCell ⟨g, 2, none⟩ x2).heap[g]? = some (.cells #[x0, x1, x2, y3, y4, y5, y6, y7] t (0, 0)) := heap_setCell_same w g 2 _ t x2 h
  generalize w.setCell ⟨g, 2, none⟩ x2 = w' at h ⊢
  clear w
  rename World => w
  replace h : (w.setCell ⟨g, 3, none⟩ x3).heap[g]? = some (.cells #[x0, x1, x2, x3, y4, y5, y6, y7] t (0, 0)) := heap_setCell_same w g 3 _ t x3 h
  generalize w.setCell ⟨g, 3, none⟩ x3 = w' at h ⊢
  clear w
  rename World => w
  replace h : (w.setCell ⟨g, 4, none⟩ x4).heap[g]? = some (.cells #[x0, x1, x2, x3, x4, y5, y6, y7] t (0, 0)) := heap_setCell_same w g 4 _ t x4 h
  generalize w.setCell ⟨g, 4, none⟩ x4 = w' at h ⊢
  clear w
  rename World => w
  replace h : (w.setCell ⟨g, 5, none⟩ x5).heap[g]? = some (.cells #[x0, x1, x2, x3, x4, x5, y6, y7] t (0, 0)) := heap_setCell_same w g 5 _ t x5 h
  generalize w.setCell ⟨g, 5, none⟩ x5 = w' at h ⊢
  clear w
  rename World => w
  replace h : (w.setCell ⟨g, 6, none⟩ x6).heap[g]? = some (.cells #[x0, x1, x2, x3, x4, x5, x6, y7] t (0, 0)) := heap_setCell_same w g 6 _ t x6 h
  generalize w.setCell ⟨g, 6, none⟩ x6 = w' at h ⊢
  clear w
  rename World => w
  replace h : (w.setCell ⟨g, 7, none⟩ x7).heap[g]? = some (.cells #[x0, x1, x2, x3, x4, x5, x6, x7] t (0, 0)) := heap_setCell_same w g 7 _ t x7 h
  exact h
structure TkS (w0 : World) (k st : Int) (r1 r2 r3 r4 : Value) (s : St) (u1 u2 u3 u4 u5 u6 : Value) (w : World) : Prop where
  below : Below w0.heap.size w0 w
  size : w0.heap.size + 3 ≤ w.heap.size
  state : w.heap[w0.heap.size]? = some (.cells #[.int .i64 s.number, .int .i64 s.phase, u1, u2, u3, u4, u5, u6] 31 (0, 0))
  rcd : w.heap[w0.heap.size + 1]? = some (.cells #[.int .i64 k, .int .i64 st, r1, r2, r3, r4] 33 (0, 0))
  out : w.heap[w0.heap.size + 2]? = some stZero
  own : OSt w (w0.heap.size + 3) u1 u2 u3 u4 u5 u6 s
theorem TkS.intro {w w1 w2 w3 : World} {k st : Int} {v1 v2 v3 v4 v5 v6 r1 r2 r3 r4 : Value} {s : St} {u1 u2 u3 u4 u5 u6 : Value}
    (h1 : Below (((w.alloc (.cells #[.int .i64 s.number, .int .i64 s.phase, v1, v2, v3, v4, v5, v6] 31 (0, 0))).alloc (.cells #[.int .i64 k, .int .i64 st, r1, r2, r3, r4] 33 (0, 0))).alloc stZero).heap.size (((w.alloc (.cells #[.int .i64 s.number, .int .i64 s.phase, v1, v2, v3, v4, v5, v6] 31 (0, 0))).alloc (.cells #[.int .i64 k, .int .i64 st, r1, r2, r3, r4] 33 (0, 0))).alloc stZero) w1)
    (h2 : Below w1.heap.size w1 w2) (h3 : Below w2.heap.size w2 w3) (ho : OSt w3 w2.heap.size u1 u2 u3 u4 u5 u6 s) :
    TkS w k st r1 r2 r3 r4 s u1 u2 u3 u4 u5 u6 ((((((((w3.setCell ⟨w.heap.size, 0, none⟩ (.int .i64 s.number)).setCell ⟨w.heap.size, 1, none⟩ (.int .i64 s.phase)).setCell ⟨w.heap.size, 2, none⟩ u1).setCell ⟨w.heap.size, 3, none⟩ u2).setCell ⟨w.heap.size, 4, none⟩ u3).setCell ⟨w.heap.size, 5, none⟩ u4).setCell ⟨w.heap.size, 6, none⟩ u5).setCell ⟨w.heap.size, 7, none⟩ u6) := by
  have z1 := h1.size
  have z2 := h2.size
  have z3 := h3.size
  obtain ⟨n1, n2, n3⟩ := three_new w (.cells #[.int .i64 s.number, .int .i64 s.phase, v1, v2, v3, v4, v5, v6] 31 (0, 0)) (.cells #[.int .i64 k, .int .i64 st, r1, r2, r3, r4] 33 (0, 0)) stZero
  simp at z1
  have hg : ∀ i o, i < 3 → (((w.alloc (.cells #[.int .i64 s.number, .int .i64 s.phase, v1, v2, v3, v4, v5, v6] 31 (0, 0))).alloc (.cells #[.int .i64 k, .int .i64 st, r1, r2, r3, r4] 33 (0, 0))).alloc stZero).heap[w.heap.size + i]? = some o → w3.heap[w.heap.size + i]? = some o := by
    intro i o hi h
    rw [h3.block _ (by omega), h2.block _ (by omega), h1.block _ (by simp; omega)]; exact h
  have q := eight_grown w3 w.heap.size (.int .i64 s.number) (.int .i64 s.phase) u1 u2 u3 u4 u5 u6
  have hb : Below w.heap.size w w3 := Below.step (Below.step (Below.trans ((((Below.refl _ _).alloc (Nat.le_refl _) _).alloc (by simp) _).alloc (by simp; omega) _) (h1.mono (by simp; omega))) h2) h3
  refine ⟨?_, ?_, ?_, ?_, ?_, ?_⟩
  · exact Below.grown hb q (by omega) (by intro k hk; injection hk with hk; omega)
  · have := q.size; omega
  · exact eight_same w3 w.heap.size _ _ _ _ _ _ _ _ _ _ _ _ _ _ _ _ _ (hg 0 _ (by omega) n1)
  · rw [q.block _ (by omega) (by simp)]; exact hg 1 _ (by omega) n2
  · rw [q.block _ (by omega) (by simp)]; exact hg 2 _ (by omega) n3
  · exact ⟨(ho.plan.kept q (by omega)).mono (by omega), own_mono (own_kept ho.opn q (by omega)) (by omega), own_mono (own_kept ho.done q (by omega)) (by omega), ho.ap5, ho.ap6⟩
theorem TkS.fin {w w5 : World} {base : Nat} {s : St} {u1 u2 u3 u4 u5 u6 : Value} (hb : Below w.heap.size w w5) (hz : w.heap.size + 3 ≤ w5.heap.size) (hp : OPlan w5 (w.heap.size + 3) u1 u2 u3 u4 s.plan) (hop : w5.ownsRow (w.heap.size + 3) 3 1 u5 s.opn.length (ints s.opn)) (hdn : w5.ownsRow (w.heap.size + 3) 3 1 u6 s.done.length (ints s.done)) (hbd : s.bd) (x0 x1 x2 x3 x4 x5 x6 x7 : Value) (e : Ending)
    (he : e = .returned (.tuple #[.agg #[.int .i64 s.number, .int .i64 s.phase, u1, u2, u3, u4, u5, u6], .int .i64 0])) :
    TakePost w s 0 e ((((((((w5.setCell ⟨w.heap.size + 1 + 1, 0, none⟩ x0).setCell ⟨w.heap.size + 1 + 1, 1, none⟩ x1).setCell ⟨w.heap.size + 1 + 1, 2, none⟩ x2).setCell ⟨w.heap.size + 1 + 1, 3, none⟩ x3).setCell ⟨w.heap.size + 1 + 1, 4, none⟩ x4).setCell ⟨w.heap.size + 1 + 1, 5, none⟩ x5).setCell ⟨w.heap.size + 1 + 1, 6, none⟩ x6).setCell ⟨w.heap.size + 1 + 1, 7, none⟩ x7) := by
  have q := eight_grown w5 (w.heap.size + 1 + 1) x0 x1 x2 x3 x4 x5 x6 x7
  refine ⟨u1, u2, u3, u4, u5, u6, he, ⟨(hp.kept q (by omega)).mono (by omega), own_mono (own_kept hop q (by omega)) (by omega), own_mono (own_kept hdn q (by omega)) (by omega)⟩, Below.grown hb q (by omega) (by intro k hk; injection hk with hk; omega)⟩
theorem TkS.put {w w4 : World} {k st : Int} {s : St} {r1 r2 r3 r4 u1 u2 u3 u4 u5 u6 : Value} (h : TkS w k st r1 r2 r3 r4 s u1 u2 u3 u4 u5 u6 w4) (j : Nat) (u : Value) : Below w.heap.size w (w4.setCell ⟨w.heap.size, j, none⟩ u) ∧ w.heap.size + 3 ≤ (w4.setCell ⟨w.heap.size, j, none⟩ u).heap.size ∧ OSt (w4.setCell ⟨w.heap.size, j, none⟩ u) (w.heap.size + 3) u1 u2 u3 u4 u5 u6 s := by
  have q := set_grown w4 w.heap.size j u
  exact ⟨Below.grown h.below q h.below.size (by intro k hk; injection hk with hk; omega), Nat.le_trans h.size q.size, ⟨h.own.plan.kept q (by omega), own_kept h.own.opn q (by omega), own_kept h.own.done q (by omega), h.own.ap5, h.own.ap6⟩⟩
theorem own_other {w w' : World} {base : Nat} {e : TypeId} {size : Nat} {v u : Value} {n : Nat} {xs : List Value} (h : w.ownsRow base e size v n xs) (hg : w.grownBy w' u.ownBlock) (ha : ∀ g, u.ownBlock = some g → v.ownBlock ≠ some g) : w'.ownsRow base e size v n xs :=
  h.kept hg (by
    cases hb : v.ownBlock with
    | none => exact .inl rfl
    | some g => exact .inr (fun e => ha g e.symm (by rw [hb])))
theorem OPlan.other {w w' : World} {base : Nat} {u1 u2 u3 u4 u : Value} {p : Plan} {l : List Value} (h : OPlan w base u1 u2 u3 u4 p) (hg : w.grownBy w' u.ownBlock) (ha : apartL u l) (hl : ∀ x ∈ [u1, u2, u3, u4], x ∈ l) : OPlan w' base u1 u2 u3 u4 p :=
  ⟨own_other h.fr hg fun g hgb => ha g hgb _ (hl _ (by simp)), own_other h.to hg fun g hgb => ha g hgb _ (hl _ (by simp)), own_other h.steps hg fun g hgb => ha g hgb _ (hl _ (by simp)), own_other h.before hg fun g hgb => ha g hgb _ (hl _ (by simp))⟩
/-- what the three boxes hold is kept where only later blocks turn -/
theorem TkS.later {w0 w w' : World} {k st : Int} {s : St} {r1 r2 r3 r4 u1 u2 u3 u4 u5 u6 : Value} {row : Option Nat} (h : TkS w0 k st r1 r2 r3 r4 s u1 u2 u3 u4 u5 u6 w) (hg : w.grownBy w' row) (hr : ∀ k, row = some k → w0.heap.size + 3 ≤ k) :
    w'.heap[w0.heap.size]? = some (.cells #[.int .i64 s.number, .int .i64 s.phase, u1, u2, u3, u4, u5, u6] 31 (0, 0)) ∧ w'.heap[w0.heap.size + 1]? = some (.cells #[.int .i64 k, .int .i64 st, r1, r2, r3, r4] 33 (0, 0)) ∧ w'.heap[w0.heap.size + 2]? = some stZero ∧ Below w0.heap.size w0 w' ∧ w0.heap.size + 3 ≤ w'.heap.size := by
  have hz := h.size
  refine ⟨?_, ?_, ?_, Below.grown h.below hg h.below.size (fun k hk => by have := hr k hk; omega), Nat.le_trans h.size hg.size⟩
  · rw [hg.block _ (by omega) (by intro e; have := hr _ e.symm; omega)]; exact h.state
  · rw [hg.block _ (by omega) (by intro e; have := hr _ e.symm; omega)]; exact h.rcd
  · rw [hg.block _ (by omega) (by intro e; have := hr _ e.symm; omega)]; exact h.out
theorem gen_wp {P : Program} {c : Code} {Q : Exit → Act → World → Prop} {f : Act} {W : World} (S : World → Prop) (h : S W) (k : ∀ w, S w → Code.wp P c Q f w) : Code.wp P c Q f W := k W h
set_option maxRecDepth 100000 in
set_option maxHeartbeats 2000000 in
theorem take4 (v1 v2 v3 v4 v5 v6 r1 r2 r3 r4 : Value) (s : St) (st : Int) (p : Plan) (w : World) (hs : RSt w v1 v2 v3 v4 v5 v6 s) (hr : RPlan w r1 r2 r3 r4 p) (hT : Tab w) (hb : p.bd) (hbd : s.bd) (hf : Rec.formed ⟨4, st, p⟩ = true) (hw : when 4 s.phase = true) (ha : s.ask ⟨4, st, p⟩ = 0) (hbs : (s.step ⟨4, st, p⟩).bd) (hnum : -1 ≤ s.number ∧ s.number ≤ 1099511627776) :
    Calls Tryd.prog 8 #[.agg #[.int .i64 s.number, .int .i64 s.phase, v1, v2, v3, v4, v5, v6], .agg #[.int .i64 4, .int .i64 st, r1, r2, r3, r4]] w (TakePost w (s.step ⟨4, st, p⟩) 0) := by
  have HA := hd (fun w' hs hr hT => ask_c s.number v1 v2 v3 v4 v5 v6 r1 r2 r3 r4 s ⟨4, st, p⟩ w' hs hr hT hb (formed_kind hf))
  have HR := hd hr; have HS := hd hs; have HT := hd hT; have HBD := hd hbd; have HPB := hd hb; have HBS := hd hbs
  have HF := hd hf
  have HW := hd hw
  rw [ha] at HA
  have HNUM := hd hnum
  clear hr hf hw hs hT hb ha hbd hbs hnum
  go_enter Tryd.func8, Tryd.ntmps8
  go_upto_region 9 with (first
    | (go_at_call 23; (with_reducible refine (formed_c _ _ _ _ _ _ p _ (HR.out.below (by repeat (first | (with_reducible refine hd ?_) | (with_reducible exact Below.refl _ _) | (with_reducible assumption) | (with_reducible refine Below.alloc ?_ (by first | (simp; done) | (simp; omega) | omega) _) | (with_reducible refine Below.setCell ?_ (by first | (simp; done) | (simp; omega) | omega) _) | (with_reducible refine Below.drew ?_) | (with_reducible refine Below.drewN ?_ _) | (with_reducible refine Below.step ?_ (by with_reducible assumption)))))).mono ?_); rintro e w1 ⟨rfl, hb1⟩; rw [HF.out]; obtain ⟨hc1, hf1⟩ := bcell hb1; have hz1 := bgt3 hb1; have hz1a := Nat.lt_of_succ_lt hz1; have hz1b := Nat.lt_of_succ_lt hz1a; have HB1 := hd hb1; clear hb1)
    | (go_at_call 24; (with_reducible refine (when_c _ _ _).mono ?_); rintro e w2 ⟨rfl, rfl⟩; rw [HW.out])
    | (go_at_call 25; have hx1 := HB1.out; (with_reducible refine (HA.out _ (HS.out.below (by repeat (first | (with_reducible refine hd ?_) | (with_reducible exact Below.refl _ _) | (with_reducible assumption) | (with_reducible refine Below.alloc ?_ (by first | (simp; done) | (simp; omega) | omega) _) | (with_reducible refine Below.setCell ?_ (by first | (simp; done) | (simp; omega) | omega) _) | (with_reducible refine Below.drew ?_) | (with_reducible refine Below.drewN ?_ _) | (with_reducible refine Below.step ?_ (by with_reducible assumption))))) (HR.out.below (by repeat (first | (with_reducible refine hd ?_) | (with_reducible exact Below.refl _ _) | (with_reducible assumption) | (with_reducible refine Below.alloc ?_ (by first | (simp; done) | (simp; omega) | omega) _) | (with_reducible refine Below.setCell ?_ (by first | (simp; done) | (simp; omega) | omega) _) | (with_reducible refine Below.drew ?_) | (with_reducible refine Below.drewN ?_ _) | (with_reducible refine Below.step ?_ (by with_reducible assumption))))) (HT.out.below (B := w.heap.size) (by repeat (first | (with_reducible refine hd ?_) | (with_reducible exact Below.refl _ _) | (with_reducible assumption) | (with_reducible refine Below.alloc ?_ (by first | (simp; done) | (simp; omega) | omega) _) | (with_reducible refine Below.setCell ?_ (by first | (simp; done) | (simp; omega) | omega) _) | (with_reducible refine Below.drew ?_) | (with_reducible refine Below.drewN ?_ _) | (with_reducible refine Below.step ?_ (by with_reducible assumption)))) HT.out.pos)).mono ?_); rintro e w2 ⟨rfl, hb2⟩; obtain ⟨hc2, hf2⟩ := bcell hb2; have hz2 := Nat.lt_of_lt_of_le hz1 (bge hb2); have hz2a := Nat.lt_of_succ_lt hz2; have hz2b := Nat.lt_of_succ_lt hz2a; have HB2 := hd hb2; clear hb2 hx1)
    | (go_at_call 26; have hx1 := HB1.out; have hx2 := HB2.out; (with_reducible refine (own_c _ _ _ _ _ _ _ _ s _ (HS.out.below (by repeat (first | (with_reducible refine hd ?_) | (with_reducible exact Below.refl _ _) | (with_reducible assumption) | (with_reducible refine Below.alloc ?_ (by first | (simp; done) | (simp; omega) | omega) _) | (with_reducible refine Below.setCell ?_ (by first | (simp; done) | (simp; omega) | omega) _) | (with_reducible refine Below.drew ?_) | (with_reducible refine Below.drewN ?_ _) | (with_reducible refine Below.step ?_ (by with_reducible assumption))))) HBD.out).mono ?_); rintro e w3 ⟨u1, u2, u3, u4, u5, u6, rfl, ho3, hb3⟩; obtain ⟨hc3, hf3⟩ := bcell hb3; have hz3 := Nat.lt_of_lt_of_le hz2 (bge hb3); have hz3a := Nat.lt_of_succ_lt hz3; have hz3b := Nat.lt_of_succ_lt hz3a; have HB3 := hd hb3; obtain ⟨A1, d1, A2, d2, A3, d3, A4, d4, A5, d5, A6, d6, rfl, rfl, rfl, rfl, rfl, rfl⟩ := ho3.slices; have HO3 := hd ho3; clear hb3 hx1 hx2 ho3))
  refine gen_wp (TkS w 4 st r1 r2 r3 r4 s (.slice A1 s.plan.fr.length d1) (.slice A2 s.plan.to.length d2) (.slice A3 s.plan.steps.length d3) (.slice A4 s.plan.before.length d4) (.slice A5 s.opn.length d5) (.slice A6 s.done.length d6)) (TkS.intro HB1.out HB2.out HB3.out HO3.out) ?_
  clear hc1 hf1 hz1 hz1a hz1b hc2 hf2 hz2 hz2a hz2b hc3 hf3 hz3 hz3a hz3b HB1 HB2 HB3 HO3 HF HW HA HT HS
  clear w1 w2 w3
  intro w4 h4
  have c0 := cell_of_row w4 _ 0 _ _ _ h4.state
  have c1 := cell_of_row w4 _ 1 _ _ _ h4.state
  have c2 := cell_of_row w4 _ 2 _ _ _ h4.state
  have c3 := cell_of_row w4 _ 3 _ _ _ h4.state
  have c4 := cell_of_row w4 _ 4 _ _ _ h4.state
  have c5 := cell_of_row w4 _ 5 _ _ _ h4.state
  have c6 := cell_of_row w4 _ 6 _ _ _ h4.state
  have c7 := cell_of_row w4 _ 7 _ _ _ h4.state
  have k0 := cell_of_row w4 _ 0 _ _ _ h4.rcd
  have k1 := cell_of_row w4 _ 1 _ _ _ h4.rcd
  have k2 := cell_of_row w4 _ 2 _ _ _ h4.rcd
  have k3 := cell_of_row w4 _ 3 _ _ _ h4.rcd
  have k4 := cell_of_row w4 _ 4 _ _ _ h4.rcd
  have k5 := cell_of_row w4 _ 5 _ _ _ h4.rcd
  have o0 := cell_of_row w4 _ 0 _ _ _ h4.out
  have o1 := cell_of_row w4 _ 1 _ _ _ h4.out
  have o2 := cell_of_row w4 _ 2 _ _ _ h4.out
  have o3 := cell_of_row w4 _ 3 _ _ _ h4.out
  have o4 := cell_of_row w4 _ 4 _ _ _ h4.out
  have o5 := cell_of_row w4 _ 5 _ _ _ h4.out
  have o6 := cell_of_row w4 _ 6 _ _ _ h4.out
  have o7 := cell_of_row w4 _ 7 _ _ _ h4.out
  have z0 := fun j => frozen_of_row w4 _ j _ _ h4.state
  have z2 := fun j => frozen_of_row w4 _ j _ _ h4.out
  have H4 := hd h4; clear h4
  go_wp2
  obtain ⟨q1, q2, q3⟩ := H4.out.put 1 (.int .i64 2)
  refine bodyPost_ret (v := .tuple #[.agg #[.int .i64 s.number, .int .i64 2, .slice A1 s.plan.fr.length d1, .slice A2 s.plan.to.length d2, .slice A3 s.plan.steps.length d3, .slice A4 s.plan.before.length d4, .slice A5 s.opn.length d5, .slice A6 s.done.length d6], .int .i64 0]) (by simp [results, Tryd.results8, go_sem, o0, o1, o2, o3, o4, o5, o6, o7]) rfl ?_
  exact TkS.fin (s := { s with phase := 2 }) (base := w.heap.size) q1 q2 q3.plan q3.opn q3.done HBS.out _ _ _ _ _ _ _ _ _ rfl
set_option maxRecDepth 100000 in
set_option maxHeartbeats 2000000 in
theorem take5 (v1 v2 v3 v4 v5 v6 r1 r2 r3 r4 : Value) (s : St) (st : Int) (p : Plan) (w : World) (hs : RSt w v1 v2 v3 v4 v5 v6 s) (hr : RPlan w r1 r2 r3 r4 p) (hT : Tab w) (hb : p.bd) (hbd : s.bd) (hf : Rec.formed ⟨5, st, p⟩ = true) (hw : when 5 s.phase = true) (ha : s.ask ⟨5, st, p⟩ = 0) (hbs : (s.step ⟨5, st, p⟩).bd) (hnum : -1 ≤ s.number ∧ s.number ≤ 1099511627776) :
    Calls Tryd.prog 8 #[.agg #[.int .i64 s.number, .int .i64 s.phase, v1, v2, v3, v4, v5, v6], .agg #[.int .i64 5, .int .i64 st, r1, r2, r3, r4]] w (TakePost w (s.step ⟨5, st, p⟩) 0) := by
  have HA := hd (fun w' hs hr hT => ask_c s.number v1 v2 v3 v4 v5 v6 r1 r2 r3 r4 s ⟨5, st, p⟩ w' hs hr hT hb (formed_kind hf))
  have HR := hd hr; have HS := hd hs; have HT := hd hT; have HBD := hd hbd; have HPB := hd hb; have HBS := hd hbs
  have HF := hd hf
  have HW := hd hw
  rw [ha] at HA
  have HNUM := hd hnum
  clear hr hf hw hs hT hb ha hbd hbs hnum
  go_enter Tryd.func8, Tryd.ntmps8
  go_upto_region 9 with (first
    | (go_at_call 23; (with_reducible refine (formed_c _ _ _ _ _ _ p _ (HR.out.below (by repeat (first | (with_reducible refine hd ?_) | (with_reducible exact Below.refl _ _) | (with_reducible assumption) | (with_reducible refine Below.alloc ?_ (by first | (simp; done) | (simp; omega) | omega) _) | (with_reducible refine Below.setCell ?_ (by first | (simp; done) | (simp; omega) | omega) _) | (with_reducible refine Below.drew ?_) | (with_reducible refine Below.drewN ?_ _) | (with_reducible refine Below.step ?_ (by with_reducible assumption)))))).mono ?_); rintro e w1 ⟨rfl, hb1⟩; rw [HF.out]; obtain ⟨hc1, hf1⟩ := bcell hb1; have hz1 := bgt3 hb1; have hz1a := Nat.lt_of_succ_lt hz1; have hz1b := Nat.lt_of_succ_lt hz1a; have HB1 := hd hb1; clear hb1)
    | (go_at_call 24; (with_reducible refine (when_c _ _ _).mono ?_); rintro e w2 ⟨rfl, rfl⟩; rw [HW.out])
    | (go_at_call 25; have hx1 := HB1.out; (with_reducible refine (HA.out _ (HS.out.below (by repeat (first | (with_reducible refine hd ?_) | (with_reducible exact Below.refl _ _) | (with_reducible assumption) | (with_reducible refine Below.alloc ?_ (by first | (simp; done) | (simp; omega) | omega) _) | (with_reducible refine Below.setCell ?_ (by first | (simp; done) | (simp; omega) | omega) _) | (with_reducible refine Below.drew ?_) | (with_reducible refine Below.drewN ?_ _) | (with_reducible refine Below.step ?_ (by with_reducible assumption))))) (HR.out.below (by repeat (first | (with_reducible refine hd ?_) | (with_reducible exact Below.refl _ _) | (with_reducible assumption) | (with_reducible refine Below.alloc ?_ (by first | (simp; done) | (simp; omega) | omega) _) | (with_reducible refine Below.setCell ?_ (by first | (simp; done) | (simp; omega) | omega) _) | (with_reducible refine Below.drew ?_) | (with_reducible refine Below.drewN ?_ _) | (with_reducible refine Below.step ?_ (by with_reducible assumption))))) (HT.out.below (B := w.heap.size) (by repeat (first | (with_reducible refine hd ?_) | (with_reducible exact Below.refl _ _) | (with_reducible assumption) | (with_reducible refine Below.alloc ?_ (by first | (simp; done) | (simp; omega) | omega) _) | (with_reducible refine Below.setCell ?_ (by first | (simp; done) | (simp; omega) | omega) _) | (with_reducible refine Below.drew ?_) | (with_reducible refine Below.drewN ?_ _) | (with_reducible refine Below.step ?_ (by with_reducible assumption)))) HT.out.pos)).mono ?_); rintro e w2 ⟨rfl, hb2⟩; obtain ⟨hc2, hf2⟩ := bcell hb2; have hz2 := Nat.lt_of_lt_of_le hz1 (bge hb2); have hz2a := Nat.lt_of_succ_lt hz2; have hz2b := Nat.lt_of_succ_lt hz2a; have HB2 := hd hb2; clear hb2 hx1)
    | (go_at_call 26; have hx1 := HB1.out; have hx2 := HB2.out; (with_reducible refine (own_c _ _ _ _ _ _ _ _ s _ (HS.out.below (by repeat (first | (with_reducible refine hd ?_) | (with_reducible exact Below.refl _ _) | (with_reducible assumption) | (with_reducible refine Below.alloc ?_ (by first | (simp; done) | (simp; omega) | omega) _) | (with_reducible refine Below.setCell ?_ (by first | (simp; done) | (simp; omega) | omega) _) | (with_reducible refine Below.drew ?_) | (with_reducible refine Below.drewN ?_ _) | (with_reducible refine Below.step ?_ (by with_reducible assumption))))) HBD.out).mono ?_); rintro e w3 ⟨u1, u2, u3, u4, u5, u6, rfl, ho3, hb3⟩; obtain ⟨hc3, hf3⟩ := bcell hb3; have hz3 := Nat.lt_of_lt_of_le hz2 (bge hb3); have hz3a := Nat.lt_of_succ_lt hz3; have hz3b := Nat.lt_of_succ_lt hz3a; have HB3 := hd hb3; obtain ⟨A1, d1, A2, d2, A3, d3, A4, d4, A5, d5, A6, d6, rfl, rfl, rfl, rfl, rfl, rfl⟩ := ho3.slices; have HO3 := hd ho3; clear hb3 hx1 hx2 ho3))
  refine gen_wp (TkS w 5 st r1 r2 r3 r4 s (.slice A1 s.plan.fr.length d1) (.slice A2 s.plan.to.length d2) (.slice A3 s.plan.steps.length d3) (.slice A4 s.plan.before.length d4) (.slice A5 s.opn.length d5) (.slice A6 s.done.length d6)) (TkS.intro HB1.out HB2.out HB3.out HO3.out) ?_
  clear hc1 hf1 hz1 hz1a hz1b hc2 hf2 hz2 hz2a hz2b hc3 hf3 hz3 hz3a hz3b HB1 HB2 HB3 HO3 HF HW HA HT HS
  clear w1 w2 w3
  intro w4 h4
  have c0 := cell_of_row w4 _ 0 _ _ _ h4.state
  have c1 := cell_of_row w4 _ 1 _ _ _ h4.state
  have c2 := cell_of_row w4 _ 2 _ _ _ h4.state
  have c3 := cell_of_row w4 _ 3 _ _ _ h4.state
  have c4 := cell_of_row w4 _ 4 _ _ _ h4.state
  have c5 := cell_of_row w4 _ 5 _ _ _ h4.state
  have c6 := cell_of_row w4 _ 6 _ _ _ h4.state
  have c7 := cell_of_row w4 _ 7 _ _ _ h4.state
  have k0 := cell_of_row w4 _ 0 _ _ _ h4.rcd
  have k1 := cell_of_row w4 _ 1 _ _ _ h4.rcd
  have k2 := cell_of_row w4 _ 2 _ _ _ h4.rcd
  have k3 := cell_of_row w4 _ 3 _ _ _ h4.rcd
  have k4 := cell_of_row w4 _ 4 _ _ _ h4.rcd
  have k5 := cell_of_row w4 _ 5 _ _ _ h4.rcd
  have o0 := cell_of_row w4 _ 0 _ _ _ h4.out
  have o1 := cell_of_row w4 _ 1 _ _ _ h4.out
  have o2 := cell_of_row w4 _ 2 _ _ _ h4.out
  have o3 := cell_of_row w4 _ 3 _ _ _ h4.out
  have o4 := cell_of_row w4 _ 4 _ _ _ h4.out
  have o5 := cell_of_row w4 _ 5 _ _ _ h4.out
  have o6 := cell_of_row w4 _ 6 _ _ _ h4.out
  have o7 := cell_of_row w4 _ 7 _ _ _ h4.out
  have z0 := fun j => frozen_of_row w4 _ j _ _ h4.state
  have z2 := fun j => frozen_of_row w4 _ j _ _ h4.out
  have H4 := hd h4; clear h4
  go_wp2
  obtain ⟨q1, q2, q3⟩ := H4.out.put 1 (.int .i64 2)
  refine bodyPost_ret (v := .tuple #[.agg #[.int .i64 s.number, .int .i64 2, .slice A1 s.plan.fr.length d1, .slice A2 s.plan.to.length d2, .slice A3 s.plan.steps.length d3, .slice A4 s.plan.before.length d4, .slice A5 s.opn.length d5, .slice A6 s.done.length d6], .int .i64 0]) (by simp [results, Tryd.results8, go_sem, o0, o1, o2, o3, o4, o5, o6, o7]) rfl ?_
  exact TkS.fin (s := { s with phase := 2 }) (base := w.heap.size) q1 q2 q3.plan q3.opn q3.done HBS.out _ _ _ _ _ _ _ _ _ rfl
set_option maxRecDepth 100000 in
set_option maxHeartbeats 2000000 in
theorem take7 (v1 v2 v3 v4 v5 v6 r1 r2 r3 r4 : Value) (s : St) (st : Int) (p : Plan) (w : World) (hs : RSt w v1 v2 v3 v4 v5 v6 s) (hr : RPlan w r1 r2 r3 r4 p) (hT : Tab w) (hb : p.bd) (hbd : s.bd) (hf : Rec.formed ⟨7, st, p⟩ = true) (hw : when 7 s.phase = true) (ha : s.ask ⟨7, st, p⟩ = 0) (hbs : (s.step ⟨7, st, p⟩).bd) (hnum : -1 ≤ s.number ∧ s.number ≤ 1099511627776) :
    Calls Tryd.prog 8 #[.agg #[.int .i64 s.number, .int .i64 s.phase, v1, v2, v3, v4, v5, v6], .agg #[.int .i64 7, .int .i64 st, r1, r2, r3, r4]] w (TakePost w (s.step ⟨7, st, p⟩) 0) := by
  have HA := hd (fun w' hs hr hT => ask_c s.number v1 v2 v3 v4 v5 v6 r1 r2 r3 r4 s ⟨7, st, p⟩ w' hs hr hT hb (formed_kind hf))
  have HR := hd hr; have HS := hd hs; have HT := hd hT; have HBD := hd hbd; have HPB := hd hb; have HBS := hd hbs
  have HF := hd hf
  have HW := hd hw
  rw [ha] at HA
  have HNUM := hd hnum
  clear hr hf hw hs hT hb ha hbd hbs hnum
  go_enter Tryd.func8, Tryd.ntmps8
  go_upto_region 9 with (first
    | (go_at_call 23; (with_reducible refine (formed_c _ _ _ _ _ _ p _ (HR.out.below (by repeat (first | (with_reducible refine hd ?_) | (with_reducible exact Below.refl _ _) | (with_reducible assumption) | (with_reducible refine Below.alloc ?_ (by first | (simp; done) | (simp; omega) | omega) _) | (with_reducible refine Below.setCell ?_ (by first | (simp; done) | (simp; omega) | omega) _) | (with_reducible refine Below.drew ?_) | (with_reducible refine Below.drewN ?_ _) | (with_reducible refine Below.step ?_ (by with_reducible assumption)))))).mono ?_); rintro e w1 ⟨rfl, hb1⟩; rw [HF.out]; obtain ⟨hc1, hf1⟩ := bcell hb1; have hz1 := bgt3 hb1; have hz1a := Nat.lt_of_succ_lt hz1; have hz1b := Nat.lt_of_succ_lt hz1a; have HB1 := hd hb1; clear hb1)
    | (go_at_call 24; (with_reducible refine (when_c _ _ _).mono ?_); rintro e w2 ⟨rfl, rfl⟩; rw [HW.out])
    | (go_at_call 25; have hx1 := HB1.out; (with_reducible refine (HA.out _ (HS.out.below (by repeat (first | (with_reducible refine hd ?_) | (with_reducible exact Below.refl _ _) | (with_reducible assumption) | (with_reducible refine Below.alloc ?_ (by first | (simp; done) | (simp; omega) | omega) _) | (with_reducible refine Below.setCell ?_ (by first | (simp; done) | (simp; omega) | omega) _) | (with_reducible refine Below.drew ?_) | (with_reducible refine Below.drewN ?_ _) | (with_reducible refine Below.step ?_ (by with_reducible assumption))))) (HR.out.below (by repeat (first | (with_reducible refine hd ?_) | (with_reducible exact Below.refl _ _) | (with_reducible assumption) | (with_reducible refine Below.alloc ?_ (by first | (simp; done) | (simp; omega) | omega) _) | (with_reducible refine Below.setCell ?_ (by first | (simp; done) | (simp; omega) | omega) _) | (with_reducible refine Below.drew ?_) | (with_reducible refine Below.drewN ?_ _) | (with_reducible refine Below.step ?_ (by with_reducible assumption))))) (HT.out.below (B := w.heap.size) (by repeat (first | (with_reducible refine hd ?_) | (with_reducible exact Below.refl _ _) | (with_reducible assumption) | (with_reducible refine Below.alloc ?_ (by first | (simp; done) | (simp; omega) | omega) _) | (with_reducible refine Below.setCell ?_ (by first | (simp; done) | (simp; omega) | omega) _) | (with_reducible refine Below.drew ?_) | (with_reducible refine Below.drewN ?_ _) | (with_reducible refine Below.step ?_ (by with_reducible assumption)))) HT.out.pos)).mono ?_); rintro e w2 ⟨rfl, hb2⟩; obtain ⟨hc2, hf2⟩ := bcell hb2; have hz2 := Nat.lt_of_lt_of_le hz1 (bge hb2); have hz2a := Nat.lt_of_succ_lt hz2; have hz2b := Nat.lt_of_succ_lt hz2a; have HB2 := hd hb2; clear hb2 hx1)
    | (go_at_call 26; have hx1 := HB1.out; have hx2 := HB2.out; (with_reducible refine (own_c _ _ _ _ _ _ _ _ s _ (HS.out.below (by repeat (first | (with_reducible refine hd ?_) | (with_reducible exact Below.refl _ _) | (with_reducible assumption) | (with_reducible refine Below.alloc ?_ (by first | (simp; done) | (simp; omega) | omega) _) | (with_reducible refine Below.setCell ?_ (by first | (simp; done) | (simp; omega) | omega) _) | (with_reducible refine Below.drew ?_) | (with_reducible refine Below.drewN ?_ _) | (with_reducible refine Below.step ?_ (by with_reducible assumption))))) HBD.out).mono ?_); rintro e w3 ⟨u1, u2, u3, u4, u5, u6, rfl, ho3, hb3⟩; obtain ⟨hc3, hf3⟩ := bcell hb3; have hz3 := Nat.lt_of_lt_of_le hz2 (bge hb3); have hz3a := Nat.lt_of_succ_lt hz3; have hz3b := Nat.lt_of_succ_lt hz3a; have HB3 := hd hb3; obtain ⟨A1, d1, A2, d2, A3, d3, A4, d4, A5, d5, A6, d6, rfl, rfl, rfl, rfl, rfl, rfl⟩ := ho3.slices; have HO3 := hd ho3; clear hb3 hx1 hx2 ho3))
  refine gen_wp (TkS w 7 st r1 r2 r3 r4 s (.slice A1 s.plan.fr.length d1) (.slice A2 s.plan.to.length d2) (.slice A3 s.plan.steps.length d3) (.slice A4 s.plan.before.length d4) (.slice A5 s.opn.length d5) (.slice A6 s.done.length d6)) (TkS.intro HB1.out HB2.out HB3.out HO3.out) ?_
  clear hc1 hf1 hz1 hz1a hz1b hc2 hf2 hz2 hz2a hz2b hc3 hf3 hz3 hz3a hz3b HB1 HB2 HB3 HO3 HF HW HA HT HS
  clear w1 w2 w3
  intro w4 h4
  have c0 := cell_of_row w4 _ 0 _ _ _ h4.state
  have c1 := cell_of_row w4 _ 1 _ _ _ h4.state
  have c2 := cell_of_row w4 _ 2 _ _ _ h4.state
  have c3 := cell_of_row w4 _ 3 _ _ _ h4.state
  have c4 := cell_of_row w4 _ 4 _ _ _ h4.state
  have c5 := cell_of_row w4 _ 5 _ _ _ h4.state
  have c6 := cell_of_row w4 _ 6 _ _ _ h4.state
  have c7 := cell_of_row w4 _ 7 _ _ _ h4.state
  have k0 := cell_of_row w4 _ 0 _ _ _ h4.rcd
  have k1 := cell_of_row w4 _ 1 _ _ _ h4.rcd
  have k2 := cell_of_row w4 _ 2 _ _ _ h4.rcd
  have k3 := cell_of_row w4 _ 3 _ _ _ h4.rcd
  have k4 := cell_of_row w4 _ 4 _ _ _ h4.rcd
  have k5 := cell_of_row w4 _ 5 _ _ _ h4.rcd
  have o0 := cell_of_row w4 _ 0 _ _ _ h4.out
  have o1 := cell_of_row w4 _ 1 _ _ _ h4.out
  have o2 := cell_of_row w4 _ 2 _ _ _ h4.out
  have o3 := cell_of_row w4 _ 3 _ _ _ h4.out
  have o4 := cell_of_row w4 _ 4 _ _ _ h4.out
  have o5 := cell_of_row w4 _ 5 _ _ _ h4.out
  have o6 := cell_of_row w4 _ 6 _ _ _ h4.out
  have o7 := cell_of_row w4 _ 7 _ _ _ h4.out
  have z0 := fun j => frozen_of_row w4 _ j _ _ h4.state
  have z2 := fun j => frozen_of_row w4 _ j _ _ h4.out
  have H4 := hd h4; clear h4
  go_wp2
  obtain ⟨q1, q2, q3⟩ := H4.out.put 1 (.int .i64 3)
  refine bodyPost_ret (v := .tuple #[.agg #[.int .i64 s.number, .int .i64 3, .slice A1 s.plan.fr.length d1, .slice A2 s.plan.to.length d2, .slice A3 s.plan.steps.length d3, .slice A4 s.plan.before.length d4, .slice A5 s.opn.length d5, .slice A6 s.done.length d6], .int .i64 0]) (by simp [results, Tryd.results8, go_sem, o0, o1, o2, o3, o4, o5, o6, o7]) rfl ?_
  exact TkS.fin (s := { s with phase := 3 }) (base := w.heap.size) q1 q2 q3.plan q3.opn q3.done HBS.out _ _ _ _ _ _ _ _ _ rfl
end Go.Proofs.YtaamjpeehejafaaDoor
