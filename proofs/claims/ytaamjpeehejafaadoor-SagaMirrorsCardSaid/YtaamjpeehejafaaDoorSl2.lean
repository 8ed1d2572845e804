/- Contracts: slices.Clone at three element types, DeleteFunc, Concat, Grow. -/
import Derived.Test.YtaamjpeehejafaaDoorSl1
set_option linter.unusedSimpArgs false
set_option linter.unusedVariables false
namespace Go.Proofs.YtaamjpeehejafaaDoor
open Go Go.RowKit

/-- A new row of the call's own with these cells; nothing older has turned. -/
def OwnPost (w : World) (E size n : Nat) (cs : List Value) (e : Ending) (w' : World) : Prop :=
  ∃ v', e = .returned v' ∧ w'.ownsRow w.heap.size E size v' n cs ∧ Below w.heap.size w w'

theorem own_lt {w : World} {base : Nat} {e : TypeId} {size : Nat} {v : Value} {n : Nat} {xs : List Value} (h : w.ownsRow base e size v n xs) : ∀ k, v.ownBlock = some k → base ≤ k := fun k hk => (h.lt k hk).1

theorem Sl.len {w : World} {v : Value} {n : Nat} {cs : List Value} (h : Sl w v n cs) : ∃ A c, v = .slice A n c := by
  obtain ⟨⟨A, c, rfl, _⟩⟩ := h; exact ⟨A, c, rfl⟩

set_option maxHeartbeats 400000 in
theorem cloneI_c (v : Value) (n : Nat) (cs : List Value) (w : World) (hs : Sl w v n cs) (hl : cs.length = n * 1) (h1 : ∀ u ∈ cs, u.oneCell' = true) (hn : n ≤ 1099511627776) :
    Calls Tryd.prog 48 #[v] w (OwnPost w 3 1 n cs) := by
  obtain ⟨A, c, rfl⟩ := hs.len
  have HS := hd hs; have HL := hd hl; have H1 := hd h1
  have hnc := hs.nilCap
  clear hs hl h1
  cases A with
  | none =>
    obtain ⟨rfl, rfl⟩ := hnc rfl
    have hr : ∀ w : World, (_root_.Go.binOp .eql 25 (.slice none 0 0) (.slice none 0 0)).run Tryd.prog w = .ok (.bool true) w := fun w => Lib.run_eql_slice_nil w 25 3 none 0 0 0 0 Tryd.underlying25
    go_enter Tryd.func48, Tryd.ntmps48
    go_wp2
    go_ret
    have : cs = [] := List.eq_nil_of_length_eq_zero (by have := HL.out; omega)
    subst this
    exact ⟨_, rfl, World.ownsRow_nil _ _ _ _, (by repeat (first | (with_reducible refine hd ?_) | (with_reducible exact Below.refl _ _) | (with_reducible assumption) | (with_reducible refine Below.alloc ?_ (by first | (simp; done) | (simp; omega) | omega) _) | (with_reducible refine Below.setCell ?_ (by first | (simp; done) | (simp; omega) | omega) _) | (with_reducible refine Below.drew ?_) | (with_reducible refine Below.drewN ?_ _) | (with_reducible refine Below.step ?_ (by with_reducible assumption))))⟩
  | some ad =>
    have hr : ∀ w : World, (_root_.Go.binOp .eql 25 (.slice (some ad) n c) (.slice none 0 0)).run Tryd.prog w = .ok (.bool false) w := fun w => Lib.run_eql_slice_nil w 25 3 (some ad) n c 0 0 Tryd.underlying25
    go_enter Tryd.func48, Tryd.ntmps48
    go_wp2_with (at_builtin; refine wpList_append_sl rfl _ _ _ rfl w.heap.size 3 (.int .i64 0) 1 8 Tryd.underlying25 (by kernel_rfl) rfl (by decide) _ rfl 0 [] (World.ownsRow_lit _ #[] 0 (Nat.le_refl _) (by decide) rfl) _ rfl n cs (HS.out.below (by repeat (first | (with_reducible refine hd ?_) | (with_reducible exact Below.refl _ _) | (with_reducible assumption) | (with_reducible refine Below.alloc ?_ (by first | (simp; done) | (simp; omega) | omega) _) | (with_reducible refine Below.setCell ?_ (by first | (simp; done) | (simp; omega) | omega) _) | (with_reducible refine Below.drew ?_) | (with_reducible refine Below.drewN ?_ _) | (with_reducible refine Below.step ?_ (by with_reducible assumption))))) HL.out H1.out (by unfold maxLen; omega) (by omega) (by simp) ?_)
    intro v' w' hown hgr
    go_wp2
    go_ret
    exact ⟨_, rfl, hown, Below.grown (Below.box _ _) hgr (by simp) (by intro k hk; simp [Value.ownBlock] at hk; omega)⟩
set_option maxHeartbeats 400000 in
theorem cloneS_c (v : Value) (n : Nat) (cs : List Value) (w : World) (hs : Sl w v n cs) (hl : cs.length = n * 2) (h1 : ∀ u ∈ cs, u.oneCell' = true) (hn : n ≤ 1099511627776) :
    Calls Tryd.prog 49 #[v] w (OwnPost w 69 2 n cs) := by
  obtain ⟨A, c, rfl⟩ := hs.len
  have HS := hd hs; have HL := hd hl; have H1 := hd h1
  have hnc := hs.nilCap
  clear hs hl h1
  cases A with
  | none =>
    obtain ⟨rfl, rfl⟩ := hnc rfl
    have hr : ∀ w : World, (_root_.Go.binOp .eql 26 (.slice none 0 0) (.slice none 0 0)).run Tryd.prog w = .ok (.bool true) w := fun w => Lib.run_eql_slice_nil w 26 69 none 0 0 0 0 Tryd.underlying26
    go_enter Tryd.func49, Tryd.ntmps49
    go_wp2
    go_ret
    have : cs = [] := List.eq_nil_of_length_eq_zero (by have := HL.out; omega)
    subst this
    exact ⟨_, rfl, World.ownsRow_nil _ _ _ _, (by repeat (first | (with_reducible refine hd ?_) | (with_reducible exact Below.refl _ _) | (with_reducible assumption) | (with_reducible refine Below.alloc ?_ (by first | (simp; done) | (simp; omega) | omega) _) | (with_reducible refine Below.setCell ?_ (by first | (simp; done) | (simp; omega) | omega) _) | (with_reducible refine Below.drew ?_) | (with_reducible refine Below.drewN ?_ _) | (with_reducible refine Below.step ?_ (by with_reducible assumption))))⟩
  | some ad =>
    have hr : ∀ w : World, (_root_.Go.binOp .eql 26 (.slice (some ad) n c) (.slice none 0 0)).run Tryd.prog w = .ok (.bool false) w := fun w => Lib.run_eql_slice_nil w 26 69 (some ad) n c 0 0 Tryd.underlying26
    go_enter Tryd.func49, Tryd.ntmps49
    go_wp2_with (at_builtin; refine wpList_append_sl rfl _ _ _ rfl w.heap.size 69 (.agg #[.int .i64 0, .int .i64 0]) 2 16 Tryd.underlying26 (by kernel_rfl) rfl (by decide) _ rfl 0 [] (World.ownsRow_lit _ #[] 0 (Nat.le_refl _) (by decide) rfl) _ rfl n cs (HS.out.below (by repeat (first | (with_reducible refine hd ?_) | (with_reducible exact Below.refl _ _) | (with_reducible assumption) | (with_reducible refine Below.alloc ?_ (by first | (simp; done) | (simp; omega) | omega) _) | (with_reducible refine Below.setCell ?_ (by first | (simp; done) | (simp; omega) | omega) _) | (with_reducible refine Below.drew ?_) | (with_reducible refine Below.drewN ?_ _) | (with_reducible refine Below.step ?_ (by with_reducible assumption))))) HL.out H1.out (by unfold maxLen; omega) (by omega) (by simp) ?_)
    intro v' w' hown hgr
    go_wp2
    go_ret
    exact ⟨_, rfl, hown, Below.grown (Below.box _ _) hgr (by simp) (by intro k hk; simp [Value.ownBlock] at hk; omega)⟩
set_option maxHeartbeats 400000 in
theorem cloneP_c (v : Value) (n : Nat) (cs : List Value) (w : World) (hs : Sl w v n cs) (hl : cs.length = n * 2) (h1 : ∀ u ∈ cs, u.oneCell' = true) (hn : n ≤ 1099511627776) :
    Calls Tryd.prog 50 #[v] w (OwnPost w 70 2 n cs) := by
  obtain ⟨A, c, rfl⟩ := hs.len
  have HS := hd hs; have HL := hd hl; have H1 := hd h1
  have hnc := hs.nilCap
  clear hs hl h1
  cases A with
  | none =>
    obtain ⟨rfl, rfl⟩ := hnc rfl
    have hr : ∀ w : World, (_root_.Go.binOp .eql 27 (.slice none 0 0) (.slice none 0 0)).run Tryd.prog w = .ok (.bool true) w := fun w => Lib.run_eql_slice_nil w 27 70 none 0 0 0 0 Tryd.underlying27
    go_enter Tryd.func50, Tryd.ntmps50
    go_wp2
    go_ret
    have : cs = [] := List.eq_nil_of_length_eq_zero (by have := HL.out; omega)
    subst this
    exact ⟨_, rfl, World.ownsRow_nil _ _ _ _, (by repeat (first | (with_reducible refine hd ?_) | (with_reducible exact Below.refl _ _) | (with_reducible assumption) | (with_reducible refine Below.alloc ?_ (by first | (simp; done) | (simp; omega) | omega) _) | (with_reducible refine Below.setCell ?_ (by first | (simp; done) | (simp; omega) | omega) _) | (with_reducible refine Below.drew ?_) | (with_reducible refine Below.drewN ?_ _) | (with_reducible refine Below.step ?_ (by with_reducible assumption))))⟩
  | some ad =>
    have hr : ∀ w : World, (_root_.Go.binOp .eql 27 (.slice (some ad) n c) (.slice none 0 0)).run Tryd.prog w = .ok (.bool false) w := fun w => Lib.run_eql_slice_nil w 27 70 (some ad) n c 0 0 Tryd.underlying27
    go_enter Tryd.func50, Tryd.ntmps50
    go_wp2_with (at_builtin; refine wpList_append_sl rfl _ _ _ rfl w.heap.size 70 (.agg #[.int .i64 0, .int .i64 0]) 2 16 Tryd.underlying27 (by kernel_rfl) rfl (by decide) _ rfl 0 [] (World.ownsRow_lit _ #[] 0 (Nat.le_refl _) (by decide) rfl) _ rfl n cs (HS.out.below (by repeat (first | (with_reducible refine hd ?_) | (with_reducible exact Below.refl _ _) | (with_reducible assumption) | (with_reducible refine Below.alloc ?_ (by first | (simp; done) | (simp; omega) | omega) _) | (with_reducible refine Below.setCell ?_ (by first | (simp; done) | (simp; omega) | omega) _) | (with_reducible refine Below.drew ?_) | (with_reducible refine Below.drewN ?_ _) | (with_reducible refine Below.step ?_ (by with_reducible assumption))))) HL.out H1.out (by unfold maxLen; omega) (by omega) (by simp) ?_)
    intro v' w' hown hgr
    go_wp2
    go_ret
    exact ⟨_, rfl, hown, Below.grown (Below.box _ _) hgr (by simp) (by intro k hk; simp [Value.ownBlock] at hk; omega)⟩
end Go.Proofs.YtaamjpeehejafaaDoor
