/- Helper: a region whose order is left open is walked once, by stages. -/
import Derived.RegionTactic
import Derived.Below
set_option linter.unusedSimpArgs false
set_option linter.unusedVariables false
namespace Go.Proofs.YtaamjpeehejafaaDoor
open Go

/-- The binding edges of operation i. -/
def bEdges (o : Oper) : List Nat := (o.after.toList.filter (fun e => Region.binds .any e)).map (·.on)

def slotAt (ops : Array Oper) (a : Act) (j : Nat) : Value :=
  match (ops[j]?).bind (·.dst) with
  | some d => a.tmps.getD d undef
  | none => undef

/-- The sets that an operation waits for, as numbers: T at i. -/
def masksGo : List Oper → List Nat → List Nat
  | [], acc => acc
  | o :: r, acc => masksGo r (acc ++ [(bEdges o).foldl (fun m k => m ||| (1 <<< k) ||| acc.getD k 0) 0])
def masks (ops : Array Oper) : List Nat := masksGo ops.toList []

/-- Is T right at i? -/
def maskOk (ops : Array Oper) (T : List Nat) (i : Nat) : Bool :=
  match ops[i]? with
  | none => true
  | some o => (bEdges o).all (· < i) && ((T.getD i 0 ||| (bEdges o).foldl (fun m k => m ||| (1 <<< k) ||| T.getD k 0) 0) == (bEdges o).foldl (fun m k => m ||| (1 <<< k) ||| T.getD k 0) 0)

def rowOk (T ch : List Nat) (i : Nat) (row : Nat × Nat × Bool) : Bool :=
  let (lo, hi, isCh) := row
  (lo == 0 || (T.getD i 0).testBit (ch.getD (lo - 1) 0)) && lo ≤ ch.length &&
  (if isCh then lo == hi && ch[lo]? == some i else (hi == ch.length || (hi < ch.length && (T.getD (ch.getD hi 0) 0).testBit i)) && !ch.contains i)

def distinctB : List (Option Tmp) → Bool
  | [] => true
  | none :: r => distinctB r
  | some d :: r => !r.contains (some d) && distinctB r

def stagesOk (ops : Array Oper) (n : Nat) (ch : List Nat) (rows : List (Nat × Nat × Bool)) : Bool :=
  let T := masks ops
  (List.range ops.size).all (fun i => maskOk ops T i && rowOk T ch i (rows.getD i (0, 0, false))) &&
  distinctB (ops.toList.map (·.dst)) && ops.toList.all (fun o => match o.dst with | some d => d < n | none => true) &&
  ch.all (· < ops.size) && distinctB (ch.map some)

def putAll : List Oper → (Nat → Value) → Nat → Act → Act
  | [], _, _, a => a
  | o :: r, vs, k, a => putAll r vs (k + 1) (a.put o.dst (vs k))

theorem put_size (a : Act) (d : Option Tmp) (v : Value) : (a.put d v).tmps.size = a.tmps.size := by
  cases d <;> simp [Act.put]
theorem put_defers (a : Act) (d : Option Tmp) (v : Value) : (a.put d v).defers = a.defers := by
  cases d <;> simp [Act.put]

theorem foldl_bit (T : List Nat) (j : Nat) (l : List Nat) : ∀ m : Nat, (l.foldl (fun m k => m ||| (1 <<< k) ||| T.getD k 0) m).testBit j = true →
    m.testBit j = true ∨ ∃ k ∈ l, k = j ∨ (T.getD k 0).testBit j = true := by
  induction l with
  | nil => intro m h; exact .inl h
  | cons x r ih =>
    intro m h
    rcases ih _ h with h | ⟨k, hk, h⟩
    · simp only [Nat.testBit_or, Bool.or_eq_true] at h
      rcases h with (h | h) | h
      · exact .inl h
      · refine .inr ⟨x, by simp, .inl ?_⟩
        rw [Nat.one_shiftLeft, Nat.testBit_two_pow] at h
        simpa using h
      · exact .inr ⟨x, by simp, .inr h⟩
    · exact .inr ⟨k, by simp [hk], h⟩

section
variable {P : Program} {ops : Array Oper} {Q : Exit → Act → World → Prop}

theorem listed_of_bit {T : List Nat} (hT : ∀ i, i < ops.size → maskOk ops T i = true) {listed : Nat → Prop}
    (hdown : ∀ i o, listed i → ops[i]? = some o → ∀ k ∈ bEdges o, listed k) :
    ∀ (i : Nat) (o : Oper), ops[i]? = some o → (∀ k ∈ bEdges o, listed k) → ∀ j, (T.getD i 0).testBit j = true → listed j := by
  intro i
  induction i using Nat.strongRecOn with
  | ind i ih =>
    intro o ho hl j hj
    have hlt : i < ops.size := (Array.getElem?_eq_some_iff.1 ho).1
    have h := hT i hlt
    unfold maskOk at h
    rw [ho] at h
    simp only [Bool.and_eq_true, List.all_eq_true, decide_eq_true_eq, beq_iff_eq] at h
    obtain ⟨h1, h2⟩ := h
    have hb : ((bEdges o).foldl (fun m k => m ||| (1 <<< k) ||| T.getD k 0) 0).testBit j = true := by
      rw [← h2, Nat.testBit_or, hj]; rfl
    rcases foldl_bit T j _ 0 hb with h0 | ⟨k, hk, rfl | hbit⟩
    · simp at h0
    · exact hl _ hk
    · have hki := h1 k hk
      have hks : k < ops.size := by omega
      have hko : ops[k]? = some ops[k] := Array.getElem?_eq_getElem hks
      exact ih k hki _ hko (hdown k _ (hl k hk) hko) j hbit

/-- What one operation must do. -/
def stepGoal (P : Program) (ops : Array Oper) (Q : Exit → Act → World → Prop) (R : World → World → Prop) (F : Nat → Value → World → Prop) (St : Nat → World → Prop) (i k : Nat) (o : Oper) (a : Act) (w : World) : Prop :=
  if Region.wanted o (yielded ops a.tmps) then o.wp P a w (fun a' w' => ∃ v, a' = a.put o.dst v ∧ R w w' ∧ F i v w' ∧ St k w') Q ∨ (o.asks P a w ∧ LetsOut Q) else F i undef w ∧ St k w

/-- The post of one operation, as the walk has posts. -/
def OneQ (Q : Exit → Act → World → Prop) (K : Act → World → Prop) : Exit → Act → World → Prop
  | .normal, a, w => K a w
  | e, a, w => Q e a w

theorem Oper.wp_oneQ {o : Oper} {a : Act} {w : World} {K K2 : Act → World → Prop} (h : o.wp P a w K2 (OneQ Q K)) : o.wp P a w K2 Q := by
  unfold Oper.wp at *
  generalize (execOp a.eval o).run P w = r at *
  cases r with
  | ok n w' =>
    cases n <;> simp only [Oper.upon] at h ⊢ <;> first | exact h | (refine Calls.mono h (fun e w'' he => ?_); cases e <;> exact he)
  | halt x w' => cases x <;> simp only [Oper.upon] at h ⊢ <;> exact h

theorem step_of_list {R : World → World → Prop} {F : Nat → Value → World → Prop} {St : Nat → World → Prop} {i k : Nat} {o : Oper} {a : Act} {w : World} (hg : o.guard = none)
    (h : wpList P ops (OneQ Q (fun a' w' => ∃ v, a' = a.put o.dst v ∧ R w w' ∧ F i v w' ∧ St k w')) [o] a w) : stepGoal P ops Q R F St i k o a w := by
  have hw : Region.wanted o (yielded ops a.tmps) = true := by simp [Region.wanted, hg]
  unfold stepGoal
  rw [if_pos hw]
  unfold wpList at h
  rw [if_pos hw] at h
  rcases h with h | ⟨h1, h2⟩
  · exact .inl (Oper.wp_oneQ h)
  · exact .inr ⟨h1, h2⟩


theorem countP_lt {p q : Nat → Bool} : ∀ (l : List Nat), (∀ x ∈ l, q x = true → p x = true) → (∃ x ∈ l, p x = true ∧ q x = false) → l.countP q < l.countP p
  | [], _, h => by obtain ⟨x, hx, _⟩ := h; simp at hx
  | y :: r, hi, h => by
    have hle : ∀ (l : List Nat), (∀ x ∈ l, q x = true → p x = true) → l.countP q ≤ l.countP p := fun l h => List.countP_mono_left h
    rw [List.countP_cons, List.countP_cons]
    obtain ⟨x, hx, h1, h2⟩ := h
    rcases List.mem_cons.1 hx with rfl | hx
    · have := hle r (fun z hz => hi z (by simp [hz]))
      simp [h1, h2]; omega
    · have := countP_lt r (fun z hz => hi z (by simp [hz])) ⟨x, hx, h1, h2⟩
      have hy := hi y (by simp)
      by_cases hq : q y = true
      · simp [hq, hy hq]; omega
      · simp [hq]; split <;> omega

theorem distinctB_get : ∀ (l : List (Option Tmp)), distinctB l = true → ∀ (i j : Nat) (d : Tmp), l[i]? = some (some d) → l[j]? = some (some d) → i = j
  | [], _, i, j, d, h, _ => by simp at h
  | none :: r, hd, i, j, d, hi, hj => by
    cases i <;> cases j <;> simp at hi hj ⊢
    exact distinctB_get r hd _ _ d hi hj
  | some x :: r, hd, i, j, d, hi, hj => by
    simp only [distinctB, Bool.and_eq_true, Bool.not_eq_true', List.contains_eq_mem, decide_eq_false_iff_not] at hd
    cases i <;> cases j <;> simp at hi hj ⊢
    · subst hi; exact hd.1 (List.mem_of_getElem? hj)
    · subst hj; exact hd.1 (List.mem_of_getElem? hi)
    · exact distinctB_get r hd.2 _ _ d hi hj

theorem getD_set (t : Array Value) (d e : Nat) (v : Value) : (t.setIfInBounds d v).getD e undef = if d = e ∧ d < t.size then v else t.getD e undef := by
  simp only [Array.getD_eq_getD_getElem?, Array.getElem?_setIfInBounds]
  by_cases h : d = e
  · subst h
    by_cases h2 : d < t.size
    · simp [h2]
    · simp [h2]
  · simp [h]

theorem putAll_other (vs : Nat → Value) (t : Tmp) : ∀ (l : List Oper) (k : Nat) (a : Act), (∀ o ∈ l, o.dst ≠ some t) → (putAll l vs k a).tmps.getD t undef = a.tmps.getD t undef
  | [], _, _, _ => rfl
  | o :: r, k, a, h => by
    rw [putAll, putAll_other vs t r _ _ (fun x hx => h x (by simp [hx]))]
    cases hd : o.dst with
    | none => rfl
    | some d =>
      have := h o (by simp)
      rw [hd] at this
      show (a.tmps.setIfInBounds d (vs k)).getD t undef = _
      rw [getD_set, if_neg (by intro e; exact this (by rw [e.1]))]

theorem putAll_size (vs : Nat → Value) : ∀ (l : List Oper) (k : Nat) (a : Act), (putAll l vs k a).tmps.size = a.tmps.size ∧ (putAll l vs k a).defers = a.defers
  | [], _, _ => ⟨rfl, rfl⟩
  | o :: r, k, a => by
    rw [putAll]
    have h := putAll_size vs r (k + 1) (a.put o.dst (vs k))
    rw [put_size, put_defers] at h
    exact h

theorem putAll_at (vs : Nat → Value) (t : Tmp) : ∀ (l : List Oper) (k : Nat) (a : Act) (j : Nat) (o : Oper), distinctB (l.map (·.dst)) = true → l[j]? = some o → o.dst = some t → t < a.tmps.size →
    (putAll l vs k a).tmps.getD t undef = vs (k + j)
  | [], _, _, j, o, _, h, _, _ => by simp at h
  | x :: r, k, a, 0, o, hd, h, ho, ht => by
    simp at h; subst h
    rw [putAll, putAll_other]
    · show (a.put x.dst (vs k)).tmps.getD t undef = vs (k + 0)
      rw [ho]
      show (a.tmps.setIfInBounds t (vs k)).getD t undef = _
      rw [getD_set, if_pos ⟨rfl, ht⟩]; rfl
    · intro y hy hyt
      simp only [List.map_cons, ho, distinctB, Bool.and_eq_true, Bool.not_eq_true', List.contains_eq_mem, decide_eq_false_iff_not] at hd
      exact hd.1 (by rw [← hyt]; exact List.mem_map_of_mem hy)
  | x :: r, k, a, j + 1, o, hd, h, ho, ht => by
    have hd' : distinctB (r.map (·.dst)) = true := by
      rw [List.map_cons] at hd
      cases hx : x.dst with
      | none => rw [hx] at hd; exact hd
      | some e => rw [hx] at hd; simp only [distinctB, Bool.and_eq_true] at hd; exact hd.2
    rw [putAll, putAll_at vs t r (k + 1) _ j o hd' (by simpa using h) ho (by rw [put_size]; exact ht)]
    congr 1; omega

theorem Act.ext' {a b : Act} (h1 : a.tmps.size = b.tmps.size) (h2 : a.defers = b.defers) (h : ∀ t, a.tmps.getD t undef = b.tmps.getD t undef) : a = b := by
  have : a.tmps = b.tmps := by
    apply Array.ext h1
    intro i hi hj
    have := h i
    simpa [Array.getD_eq_getD_getElem?, hi, hj] using this
  cases a; cases b; simp_all

theorem wp_region_stages {id : Nat} (N : Nat) (ch : List Nat) (rows : List (Nat × Nat × Bool)) (hok : stagesOk ops N ch rows = true) (hm : P.follows .mixedOrders = true)
    (R : World → World → Prop) (F : Nat → Value → World → Prop) (St : Nat → World → Prop)
    (hrefl : ∀ w, R w w) (htrans : ∀ w w' w'', R w w' → R w' w'' → R w w'')
    (hst : ∀ i v w w', F i v w → R w w' → F i v w')
    (hnone : ∀ i v w, (ops[i]?).bind (·.dst) = none → F i v w)
    {a0 : Act} {w0 : World} (hN : a0.tmps.size = N) (h0 : St 0 w0.drew)
    (hstep : ∀ i o, ops[i]? = some o → ∀ k a w, (rows.getD i (0, 0, false)).1 ≤ k → k ≤ (rows.getD i (0, 0, false)).2.1 → St k w → R w0.drew w → a.defers = a0.defers → a.tmps.size = N →
      (∀ t, (∀ x ∈ ops.toList, x.dst ≠ some t) → a.tmps.getD t undef = a0.tmps.getD t undef) →
      (∀ j, ((masks ops).getD i 0).testBit j = true → F j (slotAt ops a j) w) →
      (∀ j, j < ops.size → (j = i ∨ ((masks ops).getD j 0).testBit i = true) → slotAt ops a j = slotAt ops a0 j) →
      stepGoal P ops Q R F St i (if (rows.getD i (0, 0, false)).2.2 then k + 1 else k) o a w)
    (hend : ∀ vs w, St ch.length w → R w0.drew w → (∀ j, j < ops.size → F j (vs j) w) → Q .normal (putAll ops.toList vs 0 a0) w) :
    (Code.region id ops true).wp P Q a0 w0 := by
  unfold stagesOk at hok
  simp only [Bool.and_eq_true, List.all_eq_true, List.mem_range] at hok
  obtain ⟨⟨⟨⟨hrow, hdist⟩, hlt⟩, hchlt⟩, hchd⟩ := hok
  have hT : ∀ i, i < ops.size → maskOk ops (masks ops) i = true := fun i hi => (hrow i hi).1
  have hdstlt : ∀ (i : Nat) (o : Oper) (d : Tmp), ops[i]? = some o → o.dst = some d → d < N := by
    intro i o d ho hd
    have := hlt o (by rw [← Array.getElem?_toList] at ho; exact List.mem_of_getElem? ho)
    rw [hd] at this
    simpa using this
  have huniq : ∀ (i j : Nat) (oi oj : Oper) (d : Tmp), ops[i]? = some oi → ops[j]? = some oj → oi.dst = some d → oj.dst = some d → i = j := by
    intro i j oi oj d hi hj hdi hdj
    refine distinctB_get _ hdist i j d ?_ ?_
    · rw [List.getElem?_map, Array.getElem?_toList, hi]; simp [hdi]
    · rw [List.getElem?_map, Array.getElem?_toList, hj]; simp [hdj]
  refine wp_region_any hm ?_
  have main : ∀ (fuel : Nat) (listed : Array Bool) (a : Act) (w : World), listed.size = ops.size →
      (List.range ops.size).countP (fun i => !listed.getD i true) ≤ fuel →
      (∀ i o, listed.getD i false = true → ops[i]? = some o → ∀ k ∈ bEdges o, listed.getD k false = true) →
      (∃ k, k ≤ ch.length ∧ (∀ t, t < k → listed.getD (ch.getD t 0) false = true) ∧ (∀ t, k ≤ t → t < ch.length → listed.getD (ch.getD t 0) false = false) ∧ St k w) →
      R w0.drew w → a.defers = a0.defers → a.tmps.size = N →
      (∀ t, (∀ x ∈ ops.toList, x.dst ≠ some t) → a.tmps.getD t undef = a0.tmps.getD t undef) →
      (∀ j, listed.getD j false = true → F j (slotAt ops a j) w) →
      (∀ j, j < ops.size → listed.getD j false = false → slotAt ops a j = slotAt ops a0 j) →
      wpAny P .any ops Q fuel listed a w := by
    intro fuel
    have hfin : ∀ (listed : Array Bool) (a : Act) (w : World), (∀ i, i < ops.size → listed.getD i false = true) →
      (∃ k, k ≤ ch.length ∧ (∀ t, t < k → listed.getD (ch.getD t 0) false = true) ∧ (∀ t, k ≤ t → t < ch.length → listed.getD (ch.getD t 0) false = false) ∧ St k w) →
      R w0.drew w → a.defers = a0.defers → a.tmps.size = N →
      (∀ t, (∀ x ∈ ops.toList, x.dst ≠ some t) → a.tmps.getD t undef = a0.tmps.getD t undef) →
      (∀ j, listed.getD j false = true → F j (slotAt ops a j) w) → Q .normal a w := by
      intro listed a w hall ⟨k, hk, _, hk2, hs⟩ hR hdf hsz hfr hF
      have hkk : k = ch.length := by
        rcases Nat.lt_or_ge k ch.length with hlt | hge
        · have h1 := hk2 k (Nat.le_refl _) hlt
          have hm : ch.getD k 0 ∈ ch := by simp [List.getD_eq_getElem?_getD, hlt]
          have := hall _ (of_decide_eq_true (hchlt _ hm))
          rw [h1] at this; cases this
        · omega
      subst hkk
      have he : a = putAll ops.toList (slotAt ops a) 0 a0 := by
        have hs := putAll_size (slotAt ops a) ops.toList 0 a0
        refine Act.ext' (by rw [hs.1, hsz, hN]) (by rw [hs.2, hdf]) fun t => ?_
        by_cases ht : ∃ (j : Nat) (o : Oper), ops.toList[j]? = some o ∧ o.dst = some t
        · obtain ⟨j, o, ho, hd⟩ := ht
          rw [putAll_at _ t ops.toList 0 a0 j o hdist ho hd (by rw [hN]; exact hdstlt j o t (by rwa [Array.getElem?_toList] at ho) hd)]
          rw [Array.getElem?_toList] at ho
          simp [slotAt, ho, hd]
        · have hno : ∀ x ∈ ops.toList, x.dst ≠ some t := by
            intro x hx hd
            obtain ⟨j, hj⟩ := List.getElem?_of_mem hx
            exact ht ⟨j, x, hj, hd⟩
          rw [putAll_other _ t _ _ _ hno, hfr t hno]
      rw [he]
      exact hend _ _ hs hR fun j hj => hF j (hall j hj)
    induction fuel with
    | zero =>
      intro listed a w hls hcnt hdown hk hR hdf hsz hfr hF _
      have hall : ∀ i, i < ops.size → listed.getD i false = true := by
        intro i hi
        have h0 : (List.range ops.size).countP (fun i => !listed.getD i true) = 0 := by omega
        rw [List.countP_eq_zero] at h0
        have := h0 i (by simpa using hi)
        have hil : i < listed.size := by omega
        simpa [Array.getD_eq_getD_getElem?, hil] using this
      refine ⟨?_, hfin listed a w hall hk hR hdf hsz hfr hF⟩
      unfold Region.ready
      rw [List.filter_eq_nil_iff]
      intro i hi
      have hi' : i < ops.size := by simpa using hi
      have := hall i hi'
      have hil : i < listed.size := by omega
      simp [Array.getD_eq_getD_getElem?, hil] at this ⊢
      simp [this]
    | succ fuel ih =>
      intro listed a w hls hcnt hdown hk hR hdf hsz hfr hF hun
      refine ⟨fun hr => ?_, fun i hi => ?_⟩
      · -- nothing is ready: all is listed
        refine hfin listed a w ?_ hk hR hdf hsz hfr hF
        intro i
        induction i using Nat.strongRecOn with
        | ind i ihi =>
          intro hi
          by_cases hl : listed.getD i false = true
          · exact hl
          · exfalso
            have hmem : i ∈ Region.ready .any ops listed := by
              unfold Region.ready
              rw [List.mem_filter]
              refine ⟨by simpa using hi, ?_⟩
              have hil : i < listed.size := by omega
              have hoi : ops[i]? = some ops[i] := Array.getElem?_eq_getElem hi
              have hmo := hT i hi
              unfold maskOk at hmo
              rw [hoi] at hmo
              simp only [Bool.and_eq_true, List.all_eq_true, decide_eq_true_eq] at hmo
              have hl' : listed.getD i true = false := by
                simp [Array.getD_eq_getD_getElem?, hil] at hl ⊢; exact hl
              rw [hl', hoi]
              simp only [Bool.not_false, Option.map_some, Option.getD_some, Bool.true_and]
              rw [Array.all_eq_true']
              intro e he
              by_cases hb : Region.binds .any e = true
              · have hin : e.on ∈ bEdges ops[i] := by
                  unfold bEdges
                  refine List.mem_map.2 ⟨e, ?_, rfl⟩
                  rw [List.mem_filter]
                  exact ⟨by simpa using he, hb⟩
                have hlt := hmo.1 _ hin
                have := ihi _ hlt (by omega)
                simp [this]
              · simp [hb]
            rw [hr] at hmem; simp at hmem
      · unfold Region.ready at hi
        rw [List.mem_filter] at hi
        obtain ⟨hi0, hi1⟩ := hi
        have his : i < ops.size := by simpa using hi0
        have hil : i < listed.size := by omega
        have hoi : ops[i]? = some ops[i] := Array.getElem?_eq_getElem his
        rw [hoi] at hi1
        simp only [Bool.and_eq_true, Bool.not_eq_true', Option.map_some, Option.getD_some] at hi1
        obtain ⟨hnl, hedges⟩ := hi1
        rw [Array.all_eq_true'] at hedges
        have hE : ∀ k ∈ bEdges ops[i], listed.getD k false = true := by
          intro k hk
          unfold bEdges at hk
          obtain ⟨e, he, rfl⟩ := List.mem_map.1 hk
          rw [List.mem_filter] at he
          have := hedges e (by simpa using he.1)
          rw [he.2] at this
          simpa using this
        have hnl' : listed.getD i false = false := by
          simp [Array.getD_eq_getD_getElem?, hil] at hnl ⊢; exact hnl
        have hclo : ∀ j, ((masks ops).getD i 0).testBit j = true → listed.getD j false = true :=
          listed_of_bit (ops := ops) (T := masks ops) hT (listed := fun j => listed.getD j false = true) (fun i' o' h1 h2 k hk => hdown i' o' h1 h2 k hk) i _ hoi hE
        have hneed : ∀ j, j < ops.size → ((masks ops).getD j 0).testBit i = true → listed.getD j false = false := by
          intro j hj hb
          cases hjl : listed.getD j false with
          | false => rfl
          | true =>
            have hoj : ops[j]? = some ops[j] := Array.getElem?_eq_getElem hj
            have := listed_of_bit (ops := ops) (T := masks ops) hT (listed := fun j => listed.getD j false = true) (fun i' o' h1 h2 k hk => hdown i' o' h1 h2 k hk) j _ hoj (hdown j _ hjl hoj) i hb
            rw [hnl'] at this; cases this
        obtain ⟨k, hkl, hk1, hk2, hs⟩ := hk
        have hro := (hrow i his).2
        rcases hrw : rows.getD i (0, 0, false) with ⟨lo, hi', isCh⟩
        rw [hrw] at hro
        simp only [rowOk, Bool.and_eq_true, Bool.or_eq_true, beq_iff_eq, decide_eq_true_eq] at hro
        obtain ⟨⟨hlo, hlol⟩, hhi⟩ := hro
        have hlok : lo ≤ k := by
          rcases hlo with rfl | hb
          · omega
          · rcases Nat.lt_or_ge k lo with hlt | hge
            · exfalso
              have h1 := hclo _ hb
              rw [hk2 (lo - 1) (by omega) (by omega)] at h1; cases h1
            · exact hge
        have hkhi : k ≤ hi' := by
          cases isCh with
          | true =>
            simp only [if_true, Bool.and_eq_true, beq_iff_eq] at hhi
            obtain ⟨rfl, hc⟩ := hhi
            rcases Nat.lt_or_ge lo k with hlt | hge
            · exfalso
              have h1 := hk1 lo hlt
              rw [List.getD_eq_getElem?_getD, hc] at h1
              simp only [Option.getD_some] at h1
              rw [hnl'] at h1; cases h1
            · exact hge
          | false =>
            simp only [Bool.false_eq_true, if_false, Bool.and_eq_true, Bool.or_eq_true, beq_iff_eq, decide_eq_true_eq] at hhi
            rcases hhi.1 with rfl | ⟨hl, hb⟩
            · exact hkl
            · rcases Nat.lt_or_ge hi' k with hlt | hge
              · exfalso
                have h1 := hk1 hi' hlt
                have h2 := hneed (ch.getD hi' 0) (by
                  have hm : ch.getD hi' 0 ∈ ch := by simp [List.getD_eq_getElem?_getD, hl]
                  exact of_decide_eq_true (hchlt _ hm)) hb
                rw [h2] at h1; cases h1
              · exact hge
        have hg := hstep i _ hoi k a w (by rw [hrw]; exact hlok) (by rw [hrw]; exact hkhi) hs hR hdf hsz hfr (fun j hj => hF j (hclo j hj))
          (fun j hj hji => hun j hj (by rcases hji with rfl | hji; exact hnl'; exact hneed j hj hji))
        rw [hrw] at hg
        -- what follows once the operation is done
        have hnext : ∀ (v : Value) (w' : World), R w w' → F i v w' → St (if isCh then k + 1 else k) w' → wpAny P .any ops Q fuel (listed.setIfInBounds i true) (a.put ops[i].dst v) w' := by
          intro v w' hRR hFi hSt
          have hset : ∀ j, (listed.setIfInBounds i true).getD j false = (if j = i then true else listed.getD j false) := by
            intro j
            simp only [Array.getD_eq_getD_getElem?, Array.getElem?_setIfInBounds]
            by_cases h : i = j
            · subst h; simp [hil]
            · rw [if_neg h, if_neg (Ne.symm h)]
          have hslot : ∀ j, j < ops.size → j ≠ i → slotAt ops (a.put ops[i].dst v) j = slotAt ops a j := by
            intro j hj hne
            have hoj : ops[j]? = some ops[j] := Array.getElem?_eq_getElem hj
            unfold slotAt
            rw [hoj]
            simp only [Option.bind_some]
            cases hdj : ops[j].dst with
            | none => rfl
            | some d =>
              cases hdi : ops[i].dst with
              | none => rfl
              | some e =>
                show (a.tmps.setIfInBounds e v).getD d undef = _
                rw [getD_set, if_neg]
                rintro ⟨rfl, _⟩
                exact hne (huniq j i _ _ e hoj hoi hdj hdi)
          refine ih _ _ _ (by simpa using hls) ?_ ?_ ?_ (htrans _ _ _ hR hRR) (by rw [put_defers]; exact hdf) (by rw [put_size]; exact hsz) ?_ ?_ ?_
          · have hlt : (List.range ops.size).countP (fun j => !(listed.setIfInBounds i true).getD j true) < (List.range ops.size).countP (fun j => !listed.getD j true) := by
              refine countP_lt _ (fun x hx hq => ?_) ⟨i, by simpa using his, by simp [hnl], ?_⟩
              · simp only [Bool.not_eq_true', Array.getD_eq_getD_getElem?, Array.getElem?_setIfInBounds] at hq ⊢
                by_cases h : i = x
                · subst h; simp [hil] at hq
                · rw [if_neg h] at hq; exact hq
              · simp [Array.getD_eq_getD_getElem?, hil]
            omega
          · intro j o hj ho k' hk'
            rw [hset] at hj ⊢
            by_cases hji : j = i
            · subst hji
              rw [hoi] at ho
              injection ho with ho
              subst ho
              rw [hE k' hk']; simp
            · rw [if_neg hji] at hj
              rw [hdown j o hj ho k' hk']; simp
          · cases isCh with
            | true =>
              simp only [if_true, Bool.and_eq_true, beq_iff_eq] at hhi
              obtain ⟨rfl, hc⟩ := hhi
              have hkk : k = lo := by omega
              subst hkk
              have hcl : k < ch.length := by
                rcases Nat.lt_or_ge k ch.length with h | h
                · exact h
                · rw [List.getElem?_eq_none h] at hc; cases hc
              refine ⟨k + 1, by omega, ?_, ?_, hSt⟩
              · intro t ht
                rw [hset]
                by_cases htk : t = k
                · subst htk
                  rw [List.getD_eq_getElem?_getD, hc]; simp
                · rw [hk1 t (by omega)]; simp
              · intro t ht htl
                rw [hset]
                have hne : ch.getD t 0 ≠ i := by
                  intro e
                  have h1 : (ch.map some)[t]? = some (some i) := by
                    rw [List.getElem?_map, List.getElem?_eq_getElem htl]
                    simp only [Option.map_some, Option.some.injEq]
                    rw [← e]; simp [List.getD_eq_getElem?_getD, htl]
                  have h2 : (ch.map some)[k]? = some (some i) := by rw [List.getElem?_map, hc]; rfl
                  have := distinctB_get _ hchd t k i h1 h2
                  omega
                rw [if_neg hne]
                exact hk2 t (by omega) htl
            | false =>
              simp only [Bool.false_eq_true, if_false, Bool.and_eq_true, Bool.not_eq_true', List.contains_eq_mem, decide_eq_false_iff_not] at hhi
              refine ⟨k, hkl, ?_, ?_, hSt⟩
              · intro t ht; rw [hset, hk1 t ht]; simp
              · intro t ht htl
                rw [hset, if_neg]
                · exact hk2 t ht htl
                · intro e
                  refine hhi.2 ?_
                  rw [← e]; simp [List.getD_eq_getElem?_getD, htl]
          · intro t ht
            rw [← hfr t ht]
            cases hdi : ops[i].dst with
            | none => rfl
            | some e =>
              show (a.tmps.setIfInBounds e v).getD t undef = _
              rw [getD_set, if_neg]
              rintro ⟨rfl, _⟩
              exact ht _ (by simp) hdi
          · intro j hj
            rw [hset] at hj
            by_cases hji : j = i
            · subst hji
              cases hdi : ops[j].dst with
              | none => exact hnone _ _ _ (by rw [hoi]; simpa using hdi)
              | some d =>
                have : slotAt ops (a.put (some d) v) j = v := by
                  unfold slotAt
                  rw [hoi]
                  simp only [Option.bind_some, hdi]
                  show (a.tmps.setIfInBounds d v).getD d undef = v
                  rw [getD_set, if_pos ⟨rfl, by rw [hsz]; exact hdstlt j _ d hoi hdi⟩]
                rw [this]; exact hFi
            · rw [if_neg hji] at hj
              have hjs : j < ops.size := by
                rcases Nat.lt_or_ge j ops.size with h | h
                · exact h
                · rw [Array.getD_eq_getD_getElem?, Array.getElem?_eq_none (by omega)] at hj; simp at hj
              rw [hslot j hjs hji]
              exact hst _ _ _ _ (hF j hj) hRR
          · intro j hj hjl
            rw [hset] at hjl
            by_cases hji : j = i
            · rw [if_pos hji] at hjl; cases hjl
            · rw [if_neg hji] at hjl
              rw [hslot j hj hji]
              exact hun j hj hjl
        unfold wpOp
        rw [hoi]
        show if Region.wanted ops[i] (yielded ops a.tmps) = true then _ else _
        unfold stepGoal at hg
        split
        · rename_i hw
          rw [if_pos hw] at hg
          rcases hg with hg | hg
          · refine .inl (Oper.wp_mono ?_ hg)
            rintro a' w' ⟨v, rfl, h1, h2, h3⟩
            exact hnext v w' h1 h2 h3
          · exact .inr hg
        · rename_i hw
          rw [if_neg hw] at hg
          exact hnext undef w (hrefl _) hg.1 hg.2
  refine main _ _ _ _ (by simp) ?_ ?_ ⟨0, by omega, by intro t ht; omega, ?_, h0⟩ (hrefl _) rfl hN (fun _ _ => rfl) ?_ (fun _ _ _ => rfl)
  · refine Nat.le_trans List.countP_le_length ?_
    simp
  · intro i o hi
    simp [Array.getD_eq_getD_getElem?, Array.getElem?_replicate] at hi
    split at hi <;> simp at hi
  · intro t _ _
    simp [Array.getD_eq_getD_getElem?, Array.getElem?_replicate]
    split <;> simp
  · intro j hj
    simp [Array.getD_eq_getD_getElem?, Array.getElem?_replicate] at hj
    split at hj <;> simp at hj
end

/-- What an operation finds when its turn comes. -/
structure Turn (ops : Array Oper) (N : Nat) (R : World → World → Prop) (F : Nat → Value → World → Prop) (St : Nat → World → Prop) (a0 : Act) (w0 : World) (i k : Nat) (a : Act) (w : World) : Prop where
  st : St k w
  rel : R w0 w
  defers : a.defers = a0.defers
  size : a.tmps.size = N
  frame : ∀ t, (∀ x ∈ ops.toList, x.dst ≠ some t) → a.tmps.getD t undef = a0.tmps.getD t undef
  fact : ∀ j, ((masks ops).getD i 0).testBit j = true → F j (slotAt ops a j) w
  yet : ∀ j, j < ops.size → (j = i ∨ ((masks ops).getD j 0).testBit i = true) → slotAt ops a j = slotAt ops a0 j

theorem Turn.old {ops : Array Oper} {N : Nat} {R : World → World → Prop} {F : Nat → Value → World → Prop} {St : Nat → World → Prop} {a0 : Act} {w0 : World} {i k : Nat} {a : Act} {w : World} (h : Turn ops N R F St a0 w0 i k a w) (t : Nat) (v : Value) (hv : a0.tmps.getD t undef = v) (ht : ops.toList.all (fun x => x.dst != some t) = true) : a.tmps.getD t undef = v := by
  rw [h.frame t (fun x hx => by have := List.all_eq_true.1 ht x hx; simpa using this), hv]
/-- One goal an operation. -/
def Steps (P : Program) (ops : Array Oper) (N : Nat) (Q : Exit → Act → World → Prop) (R : World → World → Prop) (F : Nat → Value → World → Prop) (St : Nat → World → Prop) (a0 : Act) (w0 : World) : List Oper → List (Nat × Nat × Bool) → Nat → Prop
  | o :: r, row :: rr, i => (∀ k a w, row.1 ≤ k → k ≤ row.2.1 → Turn ops N R F St a0 w0 i k a w → stepGoal P ops Q R F St i (if row.2.2 then k + 1 else k) o a w) ∧ Steps P ops N Q R F St a0 w0 r rr (i + 1)
  | [], _, _ => True
  | _ :: _, [], _ => False

theorem Steps.at {P : Program} {ops : Array Oper} {N : Nat} {Q : Exit → Act → World → Prop} {R : World → World → Prop} {F : Nat → Value → World → Prop} {St : Nat → World → Prop} {a0 : Act} {w0 : World} : ∀ (l : List Oper) (rows : List (Nat × Nat × Bool)) (i : Nat), Steps P ops N Q R F St a0 w0 l rows i →
    ∀ (j : Nat) (o : Oper), l[j]? = some o → ∀ k a w, (rows.getD j (0, 0, false)).1 ≤ k → k ≤ (rows.getD j (0, 0, false)).2.1 → Turn ops N R F St a0 w0 (i + j) k a w → stepGoal P ops Q R F St (i + j) (if (rows.getD j (0, 0, false)).2.2 then k + 1 else k) o a w
  | [], _, _, _, j, o, ho => by simp at ho
  | x :: r, [], _, h, _, _, _ => h.elim
  | x :: r, row :: rr, i, h, 0, o, ho => by
    simp at ho; subst ho
    exact h.1
  | x :: r, row :: rr, i, h, j + 1, o, ho => by
    have := Steps.at r rr (i + 1) h.2 j o (by simpa using ho)
    rw [show i + 1 + j = i + (j + 1) from by omega] at this
    simpa using this

theorem wp_region_turns {P : Program} {Q : Exit → Act → World → Prop} {id : Nat} {l : List Oper} (N : Nat) (ch : List Nat) (rows : List (Nat × Nat × Bool)) (hok : stagesOk l.toArray N ch rows = true) (hm : P.follows .mixedOrders = true)
    (R : World → World → Prop) (F : Nat → Value → World → Prop) (St : Nat → World → Prop)
    (hrefl : ∀ w, R w w) (htrans : ∀ w w' w'', R w w' → R w' w'' → R w w'')
    (hst : ∀ i v w w', F i v w → R w w' → F i v w')
    (hnone : ∀ i v w, (l[i]?).bind (·.dst) = none → F i v w)
    {a0 : Act} {w0 : World} (hN : a0.tmps.size = N) (h0 : St 0 w0.drew)
    (hsteps : Steps P l.toArray N Q R F St a0 w0.drew l rows 0)
    (hend : ∀ vs w, St ch.length w → R w0.drew w → (∀ j, j < l.length → F j (vs j) w) → Q .normal (putAll l vs 0 a0) w) :
    (Code.region id l.toArray true).wp P Q a0 w0 := by
  refine wp_region_stages N ch rows hok hm R F St hrefl htrans hst (fun i v w h => hnone i v w (by simpa using h)) hN h0 ?_ (by simpa using hend)
  intro i o ho k a w h1 h2 h3 h4 h5 h6 h7 h8 h9
  have := Steps.at l rows 0 hsteps i o (by simpa using ho) k a w h1 h2 ⟨h3, h4, h5, h6, h7, by simpa using h8, by simpa using h9⟩
  simpa using this
end Go.Proofs.YtaamjpeehejafaaDoor
