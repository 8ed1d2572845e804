/- Helper words: slices that read as lists, append, transport of facts. -/
import Derived.Test.YtaamjpeehejafaaDoorStages
import Derived.WalkKit
import Derived.WalkSpells
import Derived.WalkLawsBesides
import Derived.OwnWalk
import Derived.Deep.Draws
import Derived.Lib.LazyBuf

set_option linter.unusedSimpArgs false
set_option linter.unusedVariables false
namespace Go.Proofs.YtaamjpeehejafaaDoor
open Go Go.RowKit

/-- A slice value that reads as a list of cells. -/
structure Sl (w : World) (v : Value) (n : Nat) (cs : List Value) : Prop where mk ::
  out : ∃ A c, v = .slice A n c ∧ n ≤ c ∧ c ≤ maxLen ∧ ((A = none → c = 0) ∧ n ≤ 140737488355328) ∧
    (cs ≠ [] → ∃ b off, A = some ⟨b, off, none⟩ ∧ ∀ j u, cs[j]? = some u → w.cell? ⟨b, off + j, none⟩ = some u)

theorem hd {p : Prop} (h : p) : Hid p := h

def ints (xs : List Int) : List Value := xs.map (.int .i64)
def pairs (ps : List (Int × Int)) : List Value := ps.flatMap fun p => [.int .i64 p.1, .int .i64 p.2]

theorem ints_len (xs : List Int) : (ints xs).length = xs.length := by simp [ints]
theorem ints_get (xs : List Int) (j : Nat) (h : j < xs.length) : (ints xs)[j]? = some (.int .i64 xs[j]) := by simp [ints, h]
theorem ints_ne (xs : List Int) (j : Nat) (h : j < xs.length) : ints xs ≠ [] := by intro e; have := ints_len xs; rw [e] at this; simp at this; omega
theorem pairs_len (ps : List (Int × Int)) : (pairs ps).length = ps.length * 2 := by induction ps <;> simp_all [pairs]; omega
theorem pairs_ne (xs : List (Int × Int)) (j : Nat) (h : j < xs.length) : pairs xs ≠ [] := by intro e; have := pairs_len xs; rw [e] at this; simp at this; omega
theorem pairs_get0 : ∀ (ps : List (Int × Int)) (j : Nat) (h : j < ps.length), (pairs ps)[j*2]? = some (.int .i64 ps[j].1)
  | p :: r, 0, _ => by simp [pairs]
  | p :: r, j + 1, h => by
    have := pairs_get0 r j (by simpa using h)
    simp [pairs, Nat.add_mul] at this ⊢; exact this
theorem pairs_get1 : ∀ (ps : List (Int × Int)) (j : Nat) (h : j < ps.length), (pairs ps)[j*2+1]? = some (.int .i64 ps[j].2)
  | p :: r, 0, _ => by simp [pairs]
  | p :: r, j + 1, h => by
    have := pairs_get1 r j (by simpa using h)
    simp [pairs, Nat.add_mul] at this ⊢; exact this

theorem ints_one (xs : List Int) : ∀ u ∈ ints xs, u.oneCell' = true := ints_oneCell .i64 xs
theorem pairs_one (xs : List (Int × Int)) : ∀ u ∈ pairs xs, u.oneCell' = true := by
  intro u hu
  unfold pairs at hu
  obtain ⟨p, _, hp⟩ := List.mem_flatMap.1 hu
  simp at hp
  rcases hp with rfl | rfl <;> rfl

theorem Sl.le {w : World} {v : Value} {n : Nat} {cs : List Value} (h : Sl w v n cs) : n ≤ maxLen := by
  obtain ⟨⟨_, _, _, h1, h2, _⟩⟩ := h; omega

theorem Sl.small {w : World} {v : Value} {n : Nat} {cs : List Value} (h : Sl w v n cs) : n ≤ 140737488355328 := by
  obtain ⟨⟨_, _, _, h1, h2, h3, _⟩⟩ := h; exact h3.2
theorem Sl.nilCap {w : World} {A : Option Addr} {n c : Nat} {cs : List Value} (h : Sl w (.slice A n c) n cs) : A = none → n = 0 ∧ c = 0 := by
  obtain ⟨⟨_, _, e, h1, h2, h3, _⟩⟩ := h
  injection e with e1 _ e3
  subst e1; subst e3
  intro hA
  have := h3.1 hA
  omega
theorem Sl.at1 {w : World} {A : Option Addr} {n c : Nat} {cs : List Value} (h : Sl w (.slice A n c) n cs) : n ≤ c ∧ c ≤ maxLen := by
  obtain ⟨⟨_, _, e, h1, h2, _⟩⟩ := h
  injection e with _ _ e3
  subst e3
  exact ⟨h1, h2⟩

/-- Nothing below turns: the slice reads as it did. -/
theorem Sl.keep {w w' : World} {v : Value} {n : Nat} {cs : List Value} (h : Sl w v n cs) (hk : ∀ p : Addr, p.block < w.heap.size → w'.cell? p = w.cell? p) : Sl w' v n cs := by
  obtain ⟨⟨A, c, rfl, h1, h2, h3, h4⟩⟩ := h
  refine ⟨⟨A, c, rfl, h1, h2, h3, fun hn => ?_⟩⟩
  obtain ⟨b, off, hA, hc⟩ := h4 hn
  refine ⟨b, off, hA, fun j u hj => ?_⟩
  rw [hk _ (World.block_lt_of_cell? w ⟨b, off + j, none⟩ (hc j u hj))]
  exact hc j u hj
theorem Sl.below {w w' : World} {v : Value} {n : Nat} {cs : List Value} (h : Sl w v n cs) (hb : Below w.heap.size w w') : Sl w' v n cs :=
  h.keep fun _ hp => hb.cell hp
theorem Sl.nil (w : World) : Sl w (.slice none 0 0) 0 [] := ⟨⟨none, 0, rfl, Nat.le_refl _, Nat.zero_le _, ⟨fun _ => rfl, by omega⟩, fun h => absurd rfl h⟩⟩
theorem Sl.of_own {w : World} {base : Nat} {e : TypeId} {size : Nat} {v : Value} {n : Nat} {xs : List Value} (h : w.ownsRow base e size v n xs) (hn : n ≤ 140737488355328) : Sl w v n xs := by
  rcases h.2 with ⟨rfl, rfl⟩ | ⟨g, cap, cur, rfl, hb, hg, hnc, hcm, hcs, htake⟩
  · have : xs = [] := List.eq_nil_of_length_eq_zero (by have := h.1; omega)
    subst this; exact Sl.nil w
  · refine ⟨⟨_, _, rfl, hnc, hcm, ⟨fun h => by simp at h, hn⟩, fun _ => ⟨g, 0, rfl, fun j u hj => ?_⟩⟩⟩
    have hj' : j < n * size := by
      have := (List.getElem?_eq_some_iff.1 hj).1
      rw [h.1] at this; exact this
    rw [Nat.zero_add]
    exact (World.ownsRow.cellAt h j hj').trans hj

theorem bcell {W w1 : World} (hb : Below W.heap.size W w1) : (∀ b o, b < W.heap.size → w1.cell? ⟨b, o, none⟩ = W.cell? ⟨b, o, none⟩) ∧ (∀ b o, b < W.heap.size → w1.frozen? ⟨b, o, none⟩ = W.frozen? ⟨b, o, none⟩) :=
  ⟨fun b o h => hb.cell (p := ⟨b, o, none⟩) h, fun b o h => hb.frozen (p := ⟨b, o, none⟩) h⟩

theorem Sl.cells {w : World} {A : Option Addr} {n c : Nat} {cs : List Value} (h : Sl w (.slice A n c) n cs) (hne : cs ≠ []) : ∃ b off, A = some ⟨b, off, none⟩ ∧ ∀ j u, cs[j]? = some u → w.cell? ⟨b, off + j, none⟩ = some u := by
  obtain ⟨⟨A', c', e, _, _, _, h4⟩⟩ := h
  injection e with e1 e2 e3
  subst e1
  exact h4 hne
theorem Sl.ptr {w : World} {b off n c : Nat} {cs : List Value} (h : Sl w (.slice (some ⟨b, off, none⟩) n c) n cs) (j : Nat) (u : Value) (hj : cs[j]? = some u) : w.cell? ⟨b, off + j, none⟩ = some u := by
  obtain ⟨b', off', e, hc⟩ := h.cells (by intro e; subst e; simp at hj)
  simp only [Option.some.injEq, Addr.mk.injEq, and_true] at e
  obtain ⟨rfl, rfl⟩ := e
  exact hc j u hj
theorem bgt {w w1 : World} {o : Obj} (h : Below (w.alloc o).heap.size (w.alloc o) w1) : w.heap.size < w1.heap.size := by
  have := h.size; simp at this; omega
theorem bgt2 {w w1 : World} {o o2 : Obj} (h : Below ((w.alloc o).alloc o2).heap.size ((w.alloc o).alloc o2) w1) : w.heap.size + 1 < w1.heap.size := by
  have := h.size; simp at this; omega
theorem bge {w w1 : World} (h : Below w.heap.size w w1) : w.heap.size ≤ w1.heap.size := h.size
theorem ret_int {k : IntKind} {a b : Int} (h : a = b) : Ending.returned (.int k a) = .returned (.int k b) := by rw [h]
theorem ret_bool {a b : Bool} (h : a = b) : Ending.returned (.bool a) = .returned (.bool b) := by rw [h]
theorem Below.box (w : World) (o : Obj) : Below w.heap.size w (w.alloc o) := (Below.refl _ _).alloc (Nat.le_refl _) _
theorem Below.step {w w1 w2 : World} (h : Below w.heap.size w w1) (k : Below w1.heap.size w1 w2) : Below w.heap.size w w2 := h.trans (k.mono h.size)

theorem own_below {w w' : World} {base : Nat} {e : TypeId} {size : Nat} {v : Value} {n : Nat} {xs : List Value} (h : w.ownsRow base e size v n xs) (hb : Below w.heap.size w w') : w'.ownsRow base e size v n xs := by
  refine ⟨h.1, ?_⟩
  rcases h.2 with h2 | ⟨g, cap, cur, rfl, hbg, hg, hrest⟩
  · exact .inl h2
  · refine .inr ⟨g, cap, cur, rfl, hbg, ?_, hrest⟩
    rw [hb.block g (Array.getElem?_eq_some_iff.1 hg).1]; exact hg
theorem grown_of_below {w w' : World} (hb : Below w.heap.size w w') (row : Option Nat) : w.grownBy w' row := ⟨hb.os, hb.tape, hb.output, hb.size, fun k hk _ => hb.block k hk⟩
theorem grown_trans {w w1 w2 : World} {row : Option Nat} (h : w.grownBy w1 row) (k : w1.grownBy w2 row) : w.grownBy w2 row :=
  ⟨k.os.trans h.os, k.tape.trans h.tape, k.output.trans h.output, Nat.le_trans h.size k.size, fun i hi hr => (k.block i (Nat.lt_of_lt_of_le hi h.size) hr).trans (h.block i hi hr)⟩

theorem two_new (w : World) (o1 o2 : Obj) : ((w.alloc o1).alloc o2).heap[w.heap.size]? = some o1 ∧ ((w.alloc o1).alloc o2).heap[w.heap.size + 1]? = some o2 := by
  refine ⟨?_, ?_⟩
  · rw [Below.heap_alloc _ _ _ (by simp)]; exact heap_alloc_new _ _
  · have := heap_alloc_new (w.alloc o1) o2
    simpa using this
section
variable {P : Program} (w : World)
/-- append of any slice onto a row of the call's own. -/
theorem run_append_sl (base : Nat) (t ty e : TypeId) (i : TypeInfo) (z : Value) (size bytes : Nat) (ht : P.underlying t = some (.slice e)) (hi : P.info? e = some i) (hz : i.zero = some z)
    (hsize : i.size = size) (hby : i.bytes = bytes) (hzs : z.cells.size = size) (hsz : 0 < size)
    (v : Value) (n : Nat) (xs : List Value) (hown : w.ownsRow base e size v n xs)
    (src : Value) (m : Nat) (news : List Value) (hs : Sl w src m news) (hl : news.length = m * size) (h1 : ∀ u ∈ news, u.oneCell' = true)
    (h63 : n + m ≤ maxLen) (hbytes : (n + m) * bytes ≤ 140737488355328) (hbase : base ≤ w.heap.size) :
    ∃ v' w', (Builtin.append_ #[t, t] ty #[v, src]).run P w = .ok v' w' ∧ w'.ownsRow base e size v' (n + m) (xs ++ news) ∧ w.grownBy w' v.ownBlock := by
  obtain ⟨⟨A, c, rfl, hmc, hcm, hnil, hcell⟩⟩ := hs
  cases A with
  | some ad =>
    obtain ⟨v', w', h1, h2, h3, _⟩ := run_append_own (P := P) w base t ty e i z size bytes ht hi hz hsize hby hzs hsz v n xs hown ad m c news hl (by
      intro j u hj
      have hne : news ≠ [] := by intro e; subst e; simp at hj
      obtain ⟨b, off, hA, hc⟩ := hcell hne
      injection hA with hA
      subst hA
      rw [Addr.add_lit]
      exact hc j u hj) h1 h63 hbytes hbase
    exact ⟨v', w', h1, h2, h3⟩
  | none =>
    have hc0 := hnil.1 rfl
    subst hc0
    have hm0 : m = 0 := by omega
    subst hm0
    have : news = [] := List.eq_nil_of_length_eq_zero (by omega)
    subst this
    exact ⟨v, w, run_append_owned_none (P := P) w base t ty e i size ht hi v n xs hown, by simpa using hown, World.grownBy.refl _ _⟩
end

theorem wpList_append_sl {P : Program} {ops : Array Oper} {Q : Exit → Act → World → Prop} {rest : List Oper} {o : Oper} {a : Act} {w : World}
    (hg : o.guard = none) (s x : Operand) (t : TypeId) (hop : o.op = Op.call { callee := Callee.builtin Builtin.append, args := #[s, x], argTypes := #[t, t] })
    (base : Nat) (e : TypeId) (z : Value) (size bytes : Nat) (h1 : P.underlying t = some (.slice e))
    (hinfo : (P.info? e).map (fun i => (i.zero, i.size, i.bytes)) = some (some z, size, bytes)) (hzs : z.cells.size = size) (hsz : 0 < size)
    (v : Value) (hs : a.eval s = v) (n : Nat) (xs : List Value) (hown : w.ownsRow base e size v n xs) (src : Value) (hx : a.eval x = src) (m : Nat) (news : List Value) (hsl : Sl w src m news) (hl : news.length = m * size)
    (hone : ∀ u ∈ news, u.oneCell' = true) (h63 : n + m ≤ maxLen) (hbytes : (n + m) * bytes ≤ 140737488355328) (hbase : base ≤ w.heap.size)
    (hK : ∀ v' w', w'.ownsRow base e size v' (n + m) (xs ++ news) → w.grownBy w' v.ownBlock → wpList P ops Q rest (a.put o.dst v') w') :
    wpList P ops Q (o :: rest) a w := by
  obtain ⟨i, hi, hz0, hz1, hz2⟩ := info_parts hinfo
  refine wpList_plain hg fun K hK' => ?_
  obtain ⟨v', w', hrun, r1, r2⟩ := run_append_sl (P := P) w base t o.type e i z size bytes h1 hi hz0 hz1 hz2 hzs hsz v n xs hown src m news hsl hl hone h63 hbytes hbase
  subst hs; subst hx
  unfold Oper.wp
  simp [execOp, hop, resolve, invoke, builtin, hrun, Result.andThen]
  exact hK' _ _ (hK v' w' r1 r2)
end Go.Proofs.YtaamjpeehejafaaDoor
