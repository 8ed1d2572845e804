/- Opening a law's arguments: readings with their weights, by the type's shape; the row of a law out of its walk. -/
import Derived.Test.YtaamjpeehejafaaDoorBase
import Derived.OpenShut
import Derived.Carry
import Derived.SizedLaws
import Derived.ChangeOld
import Derived.ChangeSame
import Derived.DataReads
set_option linter.unusedSimpArgs false
set_option linter.unusedVariables false
namespace Go.Proofs.YtaamjpeehejafaaDoor
open Go Go.RowKit

/-- the cells cs read as d at type t, and every slice, string and map in it is within the reach -/
structure Opn {H : Type} (enc : TypeId × Value → H) (P : Program) (w : World) (sp : Nat → Bool) (t : TypeId) (cs : List Value) (d : DataW H) : Prop where
  read : ∃ n ps, DataW.trod enc P w 0 sp true n t cs = some (d, ps)
  small : ∀ n ∈ d.weights P t, n ≤ reachBytes
section
variable {H : Type} {enc : TypeId × Value → H} {P : Program} {w : World} {sp : Nat → Bool} {t : TypeId} {cs : List Value} {d : DataW H}

theorem Opn.int {k : IntKind} (ht : P.underlying t = some (.int k)) (h : Opn enc P w sp t cs d) : ∃ n, cs = [.int k n] ∧ d = .lit (.int k n) ∧ (Lit.int k n).wf = true := by
  obtain ⟨⟨n, ps, hr⟩, _⟩ := h
  obtain ⟨z, h1, h2, h3⟩ := DataW.trod_int ht hr
  injection h2 with h2
  exact ⟨z, h1, h2, h3⟩
theorem Opn.bool (ht : P.underlying t = some .bool) (h : Opn enc P w sp t cs d) : ∃ b, cs = [.bool b] ∧ d = .lit (.bool b) := by
  obtain ⟨⟨n, ps, hr⟩, _⟩ := h
  obtain ⟨z, h1, h2⟩ := DataW.trod_bool ht hr
  injection h2 with h2
  exact ⟨z, h1, h2⟩
theorem Opn.string (ht : P.underlying t = some .string) (h : Opn enc P w sp t cs d) : ∃ s : ByteArray, cs = [.string s] ∧ d = .lit (.string s.data.toList) ∧ s.size ≤ 140737488351232 := by
  obtain ⟨⟨n, ps, hr⟩, hs⟩ := h
  obtain ⟨z, h1, h2, _⟩ := DataW.trod_string ht hr
  injection h2 with h2
  subst h2
  have := hs _ (by simp [DataW.weights]; rfl)
  exact ⟨z, h1, rfl, by simpa [reachBytes] using this⟩
theorem weightsAll_mem {e : TypeId} : ∀ {ds : List (DataW H)} {d : DataW H}, d ∈ ds → ∀ n ∈ d.weights P e, n ∈ DataW.weightsAll P e ds
  | x :: r, d, hd, n, hn => by
    simp only [DataW.weightsAll, List.mem_append]
    rcases List.mem_cons.1 hd with rfl | hd
    · exact .inl hn
    · exact .inr (weightsAll_mem hd n hn)
theorem Opn.struct {fs : Array Field} (ht : P.underlying t = some (.struct fs)) (h : Opn enc P w sp t cs d) :
    cs.length = P.cellsOf t ∧ ∃ ds : List (DataW H), d = .agg ds ∧ ds.length = fs.size ∧ ∀ (i : Nat) (f : Field), fs[i]? = some f → ∃ d', ds[i]? = some d' ∧ Opn enc P w sp f.type ((cs.drop f.offset).take (P.cellsOf f.type)) d' := by
  obtain ⟨⟨n, ps, hr⟩, hs⟩ := h
  obtain ⟨xs, m, _, h2, h3, h4, h5⟩ := DataW.trod_struct ht hr
  injection h2 with h2 _
  subst h2
  refine ⟨h3, _, rfl, by simpa using h4, fun i f hf => ?_⟩
  have hi : i < xs.length := by have := (Array.getElem?_eq_some_iff.1 hf).1; omega
  refine ⟨xs[i].1, by simp [hi], ⟨m, xs[i].2, by rw [h5 i f hf, List.getElem?_eq_getElem hi]⟩, fun n hn => hs n ?_⟩
  simp only [DataW.weights, ht]
  exact DataW.weights_mem_each (j := i) (t := f.type) (by simp [hf]) (d := xs[i].1) (by simp [hi]) n hn
theorem Opn.array {k : Nat} {e : TypeId} (ht : P.underlying t = some (.array k e)) (h : Opn enc P w sp t cs d) :
    cs.length = P.cellsOf t ∧ ∃ ds : List (DataW H), d = .agg ds ∧ ds.length = k ∧ ∀ (i : Nat), i < k → ∃ d', ds[i]? = some d' ∧ Opn enc P w sp e ((cs.drop (i * P.cellsOf e)).take (P.cellsOf e)) d' := by
  obtain ⟨⟨n, ps, hr⟩, hs⟩ := h
  obtain ⟨xs, m, _, h2, h3, h4, h5⟩ := DataW.trod_array ht hr
  injection h2 with h2 _
  subst h2
  refine ⟨h3, _, rfl, by simpa using h4, fun i hi => ?_⟩
  have hi' : i < xs.length := by omega
  refine ⟨xs[i].1, by simp [hi'], ⟨m, xs[i].2, by rw [h5 i hi, List.getElem?_eq_getElem hi']⟩, fun n hn => hs n ?_⟩
  simp only [DataW.weights, ht]
  exact weightsAll_mem (List.mem_map.2 ⟨_, List.getElem_mem hi', rfl⟩) n hn

theorem pick_list {α : Type} {Q : Nat → α → Prop} : ∀ (n : Nat), (∀ i, i < n → ∃ x, Q i x) → ∃ xs : List α, xs.length = n ∧ ∀ i (h : i < xs.length), Q i xs[i]
  | 0, _ => ⟨[], rfl, fun i h => by simp at h⟩
  | n + 1, hq => by
    obtain ⟨xs, hl, hx⟩ := pick_list n (fun i hi => hq i (by omega))
    obtain ⟨y, hy⟩ := hq n (by omega)
    refine ⟨xs ++ [y], by simp [hl], fun i h => ?_⟩
    by_cases hi : i < xs.length
    · rw [List.getElem_append_left hi]; exact hx i hi
    · have : i = xs.length := by simp at h; omega
      subst this
      simp only [List.getElem_append_right (Nat.le_refl _), Nat.sub_self, List.getElem_cons_zero]
      rw [hl]; exact hy
theorem flat_get {α : Type} (f : α → List Value) (size : Nat) (hf : ∀ a, (f a).length = size) : ∀ (xs : List α) (i j : Nat) (h : i < xs.length), j < size → (xs.flatMap f)[i * size + j]? = (f xs[i])[j]?
  | x :: r, 0, j, _, hj => by
    simp only [List.flatMap_cons, Nat.zero_mul, Nat.zero_add, List.getElem_cons_zero]
    rw [List.getElem?_append_left (by rw [hf]; exact hj)]
  | x :: r, i + 1, j, h, hj => by
    simp only [List.flatMap_cons, List.getElem_cons_succ]
    rw [List.getElem?_append_right (by rw [hf, Nat.add_mul]; omega), hf]
    rw [show (i + 1) * size + j - size = i * size + j by rw [Nat.add_mul]; omega]
    exact flat_get f size hf r i j (by simpa using h) hj
theorem flat_len {α : Type} (f : α → List Value) (size : Nat) (hf : ∀ a, (f a).length = size) : ∀ (xs : List α), (xs.flatMap f).length = xs.length * size
  | [] => by simp
  | x :: r => by simp only [List.flatMap_cons, List.length_append, hf, flat_len f size hf r, List.length_cons, Nat.add_mul]; omega

/-- A slice whose elements open as values of α: it reads as the list of them. -/
theorem Opn.sl {α : Type} {e : TypeId} {size : Nat} (f : α → List Value) (X : α → Prop) (ht : P.underlying t = some (.slice e)) (hsz : P.cellsOf e = size) (hpos : 0 < size) (hby : 1 ≤ P.bytesOf e)
    (hf : ∀ a, (f a).length = size) (hel : ∀ cs' d', Opn enc P w sp e cs' d' → ∃ a, cs' = f a ∧ X a) {v : Value} (h : Opn enc P w sp t [v] d) :
    ∃ xs : List α, Sl w v xs.length (xs.flatMap f) ∧ (∀ x ∈ xs, X x) ∧ xs.length * P.bytesOf e ≤ 140737488351232 := by
  obtain ⟨⟨n, ps, hr⟩, hs⟩ := h
  rcases DataW.trod_slice ht hr with ⟨h1, h2⟩ | ⟨a, len, cap, elems, rest, m, _, h1, h2, _, hlc, hcm, hlen, hels, _, _⟩
  · injection h1 with h1 _
    subst h1
    exact ⟨[], Sl.nil w, by simp, by simp⟩
  · injection h1 with h1 _
    injection h2 with h2 _
    subst h1; subst h2
    have hq : ∀ i, i < len → ∃ x : α, X x ∧ ∀ j, j < size → w.cell? (a.add (i * size + j)) = (f x)[j]? := by
      intro i hi
      have hb := hels i hi
      rw [hsz] at hb
      have hi' : i < elems.length := by omega
      rw [List.getElem?_eq_getElem hi', Option.bind_eq_some_iff] at hb
      obtain ⟨cs', hc, htr⟩ := hb
      obtain ⟨x, hx1, hx2⟩ := hel cs' elems[i].1 ⟨⟨m, elems[i].2, htr⟩, fun n hn => hs n (by
        simp only [DataW.weights, ht]
        refine List.mem_cons_of_mem _ (List.mem_append_left _ (weightsAll_mem (List.mem_map.2 ⟨_, List.getElem_mem hi', rfl⟩) n hn)))⟩
      subst hx1
      obtain ⟨_, _, hc3⟩ := World.cells?_some hc
      refine ⟨x, hx2, fun j hj => ?_⟩
      rw [← hc3 j hj]
      congr 1
      unfold Addr.add
      by_cases h1 : i * size = 0 <;> by_cases h2 : j = 0 <;> simp [h1, h2, Nat.add_assoc]
    obtain ⟨xs, hxl, hx⟩ := pick_list len hq
    have hw : (elems.length + rest.length) * P.bytesOf e ≤ reachBytes := hs _ (by simp [DataW.weights, ht])
    have hlb : len * P.bytesOf e ≤ 140737488351232 := by
      refine Nat.le_trans ?_ (show reachBytes ≤ 140737488351232 by decide)
      exact Nat.le_trans (Nat.mul_le_mul_right _ (by omega)) hw
    have hlen2 : len ≤ 140737488351232 := Nat.le_trans (Nat.le_mul_of_pos_right _ hby) hlb
    subst hxl
    refine ⟨xs, ⟨⟨some a, cap, rfl, hlc, hcm, ⟨fun h => by simp at h, by omega⟩, fun hne => ?_⟩⟩, fun x hxm => ?_, hlb⟩
    · have h0 : 0 < xs.length := by
        rcases Nat.eq_zero_or_pos xs.length with h0 | h0
        · exact absurd (by rw [List.eq_nil_of_length_eq_zero h0]; rfl) hne
        · exact h0
      have hg := (hx 0 h0).2 0 hpos
      have hf0 : 0 < (f xs[0]).length := by rw [hf]; exact hpos
      rw [List.getElem?_eq_getElem hf0] at hg
      have hspot := World.cell?_spot hg
      have has : a.spot = none := by simpa [Addr.add] using hspot
      obtain ⟨b, off, spot⟩ := a
      have has' : spot = none := has
      subst has'
      refine ⟨b, off, rfl, fun j u hj => ?_⟩
      have hjl : j < xs.length * size := by
        have := (List.getElem?_eq_some_iff.1 hj).1
        rw [flat_len f size hf] at this; exact this
      have hdm := Nat.div_add_mod j size
      have hdl : j / size < xs.length := Nat.div_lt_of_lt_mul (by rw [Nat.mul_comm]; exact hjl)
      have hml := Nat.mod_lt j hpos
      have e1 : j / size * size + j % size = j := by rw [Nat.mul_comm]; exact hdm
      have := (hx (j / size) hdl).2 (j % size) hml
      rw [e1, Addr.add_lit] at this
      rw [this, ← flat_get f size hf xs _ _ hdl hml, e1, hj]
    · obtain ⟨i, hi, rfl⟩ := List.getElem_of_mem hxm
      exact (hx i hi).1
end
end Go.Proofs.YtaamjpeehejafaaDoor
