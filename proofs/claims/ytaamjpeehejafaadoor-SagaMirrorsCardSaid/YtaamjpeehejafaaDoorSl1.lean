/- Contracts of small functions: slices.Index, Contains, IndexFunc, ContainsFunc. -/
import Derived.Test.YtaamjpeehejafaaDoorRows
import Derived.Test.YtaamjpeehejafaaDoorBase
set_option linter.unusedSimpArgs false
set_option linter.unusedVariables false
namespace Go.Proofs.YtaamjpeehejafaaDoor
open Go Go.RowKit

def idxP {α : Type} (p : α → Bool) (ps : List α) : Int := match ps.findIdx? p with | some k => (k : Int) | none => -1
theorem idxP_at {α : Type} (p : α → Bool) (ps : List α) (k : Nat) (h : k < ps.length) (hn : ∀ j (_ : j < k) (h2: j < ps.length), p ps[j] = false) (hp : p ps[k] = true) : idxP p ps = (k : Int) := by
  have : ps.findIdx? p = some k := by
    rw [List.findIdx?_eq_some_iff_getElem]
    exact ⟨h, hp, fun j hj => by simp [hn j hj (by omega)]⟩
  unfold idxP; rw [this]
theorem idxP_no {α : Type} (p : α → Bool) (ps : List α) (hn : ∀ j (h2: j < ps.length), p ps[j] = false) : idxP p ps = -1 := by
  have : ps.findIdx? p = none := by
    rw [List.findIdx?_eq_none_iff]
    intro x hx
    obtain ⟨j, hj, rfl⟩ := List.getElem_of_mem hx
    exact hn j hj
  unfold idxP; rw [this]
theorem idxP_any {α : Type} (p : α → Bool) (ps : List α) : decide (0 ≤ idxP p ps) = ps.any p := by
  unfold idxP
  cases h : ps.findIdx? p with
  | none =>
    rw [List.findIdx?_eq_none_iff] at h
    have : ps.any p = false := by simp only [List.any_eq_false]; intro x hx; simp [h x hx]
    rw [this]; rfl
  | some k =>
    rw [List.findIdx?_eq_some_iff_getElem] at h
    obtain ⟨h1, h2, _⟩ := h
    have : ps.any p = true := List.any_eq_true.2 ⟨_, List.getElem_mem h1, h2⟩
    rw [this]; simp
theorem idxP_lt {α : Type} (p : α → Bool) (ps : List α) : -1 ≤ idxP p ps ∧ idxP p ps < ps.length ∨ idxP p ps = -1 := by
  unfold idxP
  cases h : ps.findIdx? p with
  | none => exact .inr rfl
  | some k =>
    rw [List.findIdx?_eq_some_iff_getElem] at h
    obtain ⟨h1, h2, _⟩ := h
    exact .inl ⟨by show (-1 : Int) ≤ (k : Int); omega, by simpa using h1⟩

set_option maxHeartbeats 400000 in
theorem index_c (v : Value) (xs : List Int) (x : Int) (w : World) (hs : Sl w v xs.length (ints xs)) :
    Calls Tryd.prog 54 #[v, .int .i64 x] w fun e w' => e = .returned (.int .i64 (idxP (fun y => x == y) xs)) ∧ w = w' := by
  obtain ⟨⟨A, c, rfl, hnc, hcm, _, hcell⟩⟩ := hs
  unfold maxLen at hcm
  go_enter Tryd.func54, Tryd.ntmps54
  go_wp2
  go_loop [4,5,8] (fun _ _ i => ∃ k : Nat, k ≤ xs.length ∧ i = .int .i64 k ∧ ∀ j (h : j < k) (h2: j < xs.length), (x == xs[j]) = false) (fun _ _ i => xs.length - (intOf i).toNat)
  case atStart => exact ⟨0, Nat.zero_le _, rfl, fun j h => by omega⟩
  case round =>
    obtain ⟨k, hk, rfl, hrel⟩ := hrel
    by_cases hlt : k < xs.length
    · obtain ⟨b, off, rfl, hc⟩ := hcell (ints_ne xs k hlt)
      have c0 := hc _ _ (ints_get xs k hlt)
      cases hp : (x == xs[k]) with
      | false =>
        go_wp2
        go_round
        case rel => exact ⟨k + 1, by omega, by go_num, fun j h h2 => by
          by_cases e : j = k
          · subst e; exact hp
          · exact hrel j (by omega) h2⟩
        case measure => simp [intOf]; omega
      | true =>
        have hi := idxP_at (fun y => x == y) xs k hlt hrel hp
        have Hi := hd hi; clear hi
        go_wp2
        go_ret
        exact ⟨ret_int Hi.out.symm, rfl⟩
    · have : k = xs.length := by omega
      subst this
      have Hi := hd (idxP_no (fun y => x == y) xs fun j h => hrel j h h)
      go_wp2
      go_ret
      exact ⟨ret_int Hi.out.symm, rfl⟩

def has (l : List Int) (x : Int) : Bool := l.contains x
set_option maxHeartbeats 400000 in
theorem contains_c (v : Value) (xs : List Int) (x : Int) (w : World) (hs : Sl w v xs.length (ints xs)) :
    Calls Tryd.prog 30 #[v, .int .i64 x] w fun e w' => e = .returned (.bool (has xs x)) ∧ w = w' := by
  have hi := idxP_any (fun y => x == y) xs
  have Hi := hd hi; clear hi
  go_enter Tryd.func30, Tryd.ntmps30
  go_wp2_with (go_at_call 54; refine (index_c v xs x w hs).mono ?_; rintro e w' ⟨rfl, rfl⟩)
  go_ret
  exact ⟨ret_bool (by rw [Hi.out]; unfold has; rw [List.contains_eq_any_beq]), rfl⟩

set_option maxHeartbeats 400000 in
theorem indexFuncP_c (v : Value) (ps : List (Int × Int)) (w : World) (hs : Sl w v ps.length (pairs ps)) (g1 g2 : Addr) (p : Int × Int → Bool)
   (hf : ∀ x w1, Below w.heap.size w w1 → Calls Tryd.prog 33 #[.agg #[.int .i64 x.1, .int .i64 x.2], .pointer (some g1), .pointer (some g2)] w1 fun e w' => e = .returned (.bool (p x)) ∧ Below w1.heap.size w1 w') :
    Calls Tryd.prog 55 #[v, .func (.func 33) #[] #[.pointer (some g1), .pointer (some g2)]] w fun e w' => e = .returned (.int .i64 (idxP p ps)) ∧ Below w.heap.size w w' := by
  have hS := hs
  obtain ⟨⟨A, c, rfl, hnc, hcm, _, _⟩⟩ := hs
  unfold maxLen at hcm
  go_enter Tryd.func55, Tryd.ntmps55
  go_wp2
  go_loopw [4,5,8] (fun _ _ i wr => ∃ k : Nat, k ≤ ps.length ∧ i = .int .i64 k ∧ Below w.heap.size w wr ∧ ∀ j (h : j < k) (h2: j < ps.length), p ps[j] = false) (fun _ _ i _ => ps.length - (intOf i).toNat)
  case atStart => exact ⟨0, Nat.zero_le _, rfl, Below.refl _ _, fun j h => by omega⟩
  case round =>
    obtain ⟨k, hk, rfl, hb, hrel⟩ := hrel
    have hS' := hS.below hb
    have HB := hd hb; clear hb
    by_cases hlt : k < ps.length
    · obtain ⟨b, off, rfl, hc⟩ := hS'.cells (pairs_ne ps k hlt)
      have c0 := hc _ _ (pairs_get0 ps k hlt); have c1 := hc _ _ (pairs_get1 ps k hlt); rw [← Nat.add_assoc] at c1
      have hf' := hf ps[k] _ HB.out
      clear hS' hS hc
      cases hp : p ps[k] with
      | false =>
        rw [hp] at hf'
        have HF := hd hf'; clear hf'
        go_wp2_with (go_at_call 33; refine HF.out.mono ?_; rintro e w' ⟨rfl, hb2⟩)
        go_roundw
        case rel => exact ⟨k + 1, by omega, by go_num, Below.step HB.out hb2, fun j h h2 => by
          by_cases e : j = k
          · subst e; exact hp
          · exact hrel j (by omega) h2⟩
        case measure => simp [intOf]; omega
      | true =>
        rw [hp] at hf'
        have HF := hd hf'; clear hf'
        have Hi := hd (idxP_at p ps k hlt hrel hp)
        go_wp2_with (go_at_call 33; refine HF.out.mono ?_; rintro e w' ⟨rfl, hb2⟩)
        go_ret
        exact ⟨ret_int Hi.out.symm, Below.step HB.out hb2⟩
    · have : k = ps.length := by omega
      subst this
      have Hi := hd (idxP_no p ps fun j h => hrel j h h)
      go_wp2
      go_ret
      exact ⟨ret_int Hi.out.symm, HB.out⟩
set_option maxHeartbeats 400000 in
theorem indexFuncS_c (v : Value) (ps : List (Int × Int)) (w : World) (hs : Sl w v ps.length (pairs ps))  (p : Int × Int → Bool)
   (hf : ∀ x w1, Below w.heap.size w w1 → Calls Tryd.prog 78 #[.agg #[.int .i64 x.1, .int .i64 x.2]] w1 fun e w' => e = .returned (.bool (p x)) ∧ Below w1.heap.size w1 w') :
    Calls Tryd.prog 89 #[v, .func (.func 78) #[] #[]] w fun e w' => e = .returned (.int .i64 (idxP p ps)) ∧ Below w.heap.size w w' := by
  have hS := hs
  obtain ⟨⟨A, c, rfl, hnc, hcm, _, _⟩⟩ := hs
  unfold maxLen at hcm
  go_enter Tryd.func89, Tryd.ntmps89
  go_wp2
  go_loopw [4,5,8] (fun _ _ i wr => ∃ k : Nat, k ≤ ps.length ∧ i = .int .i64 k ∧ Below w.heap.size w wr ∧ ∀ j (h : j < k) (h2: j < ps.length), p ps[j] = false) (fun _ _ i _ => ps.length - (intOf i).toNat)
  case atStart => exact ⟨0, Nat.zero_le _, rfl, Below.refl _ _, fun j h => by omega⟩
  case round =>
    obtain ⟨k, hk, rfl, hb, hrel⟩ := hrel
    have hS' := hS.below hb
    have HB := hd hb; clear hb
    by_cases hlt : k < ps.length
    · obtain ⟨b, off, rfl, hc⟩ := hS'.cells (pairs_ne ps k hlt)
      have c0 := hc _ _ (pairs_get0 ps k hlt); have c1 := hc _ _ (pairs_get1 ps k hlt); rw [← Nat.add_assoc] at c1
      have hf' := hf ps[k] _ HB.out
      clear hS' hS hc
      cases hp : p ps[k] with
      | false =>
        rw [hp] at hf'
        have HF := hd hf'; clear hf'
        go_wp2_with (go_at_call 78; refine HF.out.mono ?_; rintro e w' ⟨rfl, hb2⟩)
        go_roundw
        case rel => exact ⟨k + 1, by omega, by go_num, Below.step HB.out hb2, fun j h h2 => by
          by_cases e : j = k
          · subst e; exact hp
          · exact hrel j (by omega) h2⟩
        case measure => simp [intOf]; omega
      | true =>
        rw [hp] at hf'
        have HF := hd hf'; clear hf'
        have Hi := hd (idxP_at p ps k hlt hrel hp)
        go_wp2_with (go_at_call 78; refine HF.out.mono ?_; rintro e w' ⟨rfl, hb2⟩)
        go_ret
        exact ⟨ret_int Hi.out.symm, Below.step HB.out hb2⟩
    · have : k = ps.length := by omega
      subst this
      have Hi := hd (idxP_no p ps fun j h => hrel j h h)
      go_wp2
      go_ret
      exact ⟨ret_int Hi.out.symm, HB.out⟩
set_option maxHeartbeats 400000 in
theorem indexFuncI_c (v : Value) (ps : List (Int)) (w : World) (hs : Sl w v ps.length (ints ps)) (g1 : Addr) (p : Int → Bool)
   (hf : ∀ x w1, Below w.heap.size w w1 → Calls Tryd.prog 52 #[.int .i64 x, .pointer (some g1)] w1 fun e w' => e = .returned (.bool (p x)) ∧ Below w1.heap.size w1 w') :
    Calls Tryd.prog 79 #[v, .func (.func 52) #[] #[.pointer (some g1)]] w fun e w' => e = .returned (.int .i64 (idxP p ps)) ∧ Below w.heap.size w w' := by
  have hS := hs
  obtain ⟨⟨A, c, rfl, hnc, hcm, _, _⟩⟩ := hs
  unfold maxLen at hcm
  go_enter Tryd.func79, Tryd.ntmps79
  go_wp2
  go_loopw [4,5,8] (fun _ _ i wr => ∃ k : Nat, k ≤ ps.length ∧ i = .int .i64 k ∧ Below w.heap.size w wr ∧ ∀ j (h : j < k) (h2: j < ps.length), p ps[j] = false) (fun _ _ i _ => ps.length - (intOf i).toNat)
  case atStart => exact ⟨0, Nat.zero_le _, rfl, Below.refl _ _, fun j h => by omega⟩
  case round =>
    obtain ⟨k, hk, rfl, hb, hrel⟩ := hrel
    have hS' := hS.below hb
    have HB := hd hb; clear hb
    by_cases hlt : k < ps.length
    · obtain ⟨b, off, rfl, hc⟩ := hS'.cells (ints_ne ps k hlt)
      have c0 := hc _ _ (ints_get ps k hlt)
      have hf' := hf ps[k] _ HB.out
      clear hS' hS hc
      cases hp : p ps[k] with
      | false =>
        rw [hp] at hf'
        have HF := hd hf'; clear hf'
        go_wp2_with (go_at_call 52; refine HF.out.mono ?_; rintro e w' ⟨rfl, hb2⟩)
        go_roundw
        case rel => exact ⟨k + 1, by omega, by go_num, Below.step HB.out hb2, fun j h h2 => by
          by_cases e : j = k
          · subst e; exact hp
          · exact hrel j (by omega) h2⟩
        case measure => simp [intOf]; omega
      | true =>
        rw [hp] at hf'
        have HF := hd hf'; clear hf'
        have Hi := hd (idxP_at p ps k hlt hrel hp)
        go_wp2_with (go_at_call 52; refine HF.out.mono ?_; rintro e w' ⟨rfl, hb2⟩)
        go_ret
        exact ⟨ret_int Hi.out.symm, Below.step HB.out hb2⟩
    · have : k = ps.length := by omega
      subst this
      have Hi := hd (idxP_no p ps fun j h => hrel j h h)
      go_wp2
      go_ret
      exact ⟨ret_int Hi.out.symm, HB.out⟩
set_option maxHeartbeats 400000 in
theorem cindexFuncP_c (v : Value) (ps : List (Int × Int)) (w : World) (hs : Sl w v ps.length (pairs ps)) (g1 g2 : Addr) (p : Int × Int → Bool)
   (hf : ∀ x w1, Below w.heap.size w w1 → Calls Tryd.prog 33 #[.agg #[.int .i64 x.1, .int .i64 x.2], .pointer (some g1), .pointer (some g2)] w1 fun e w' => e = .returned (.bool (p x)) ∧ Below w1.heap.size w1 w') :
    Calls Tryd.prog 32 #[v, .func (.func 33) #[] #[.pointer (some g1), .pointer (some g2)]] w fun e w' => e = .returned (.bool (ps.any p)) ∧ Below w.heap.size w w' := by
  have Hi := hd (idxP_any p ps)
  have HF := hd hf; clear hf
  go_enter Tryd.func32, Tryd.ntmps32
  go_wp2_with (go_at_call 55; refine (indexFuncP_c v ps w hs g1 g2 p HF.out).mono ?_; rintro e w' ⟨rfl, hb⟩)
  go_ret
  exact ⟨ret_bool Hi.out, hb⟩
set_option maxHeartbeats 400000 in
theorem cindexFuncS_c (v : Value) (ps : List (Int × Int)) (w : World) (hs : Sl w v ps.length (pairs ps))  (p : Int × Int → Bool)
   (hf : ∀ x w1, Below w.heap.size w w1 → Calls Tryd.prog 78 #[.agg #[.int .i64 x.1, .int .i64 x.2]] w1 fun e w' => e = .returned (.bool (p x)) ∧ Below w1.heap.size w1 w') :
    Calls Tryd.prog 77 #[v, .func (.func 78) #[] #[]] w fun e w' => e = .returned (.bool (ps.any p)) ∧ Below w.heap.size w w' := by
  have Hi := hd (idxP_any p ps)
  have HF := hd hf; clear hf
  go_enter Tryd.func77, Tryd.ntmps77
  go_wp2_with (go_at_call 89; refine (indexFuncS_c v ps w hs  p HF.out).mono ?_; rintro e w' ⟨rfl, hb⟩)
  go_ret
  exact ⟨ret_bool Hi.out, hb⟩
end Go.Proofs.YtaamjpeehejafaaDoor
