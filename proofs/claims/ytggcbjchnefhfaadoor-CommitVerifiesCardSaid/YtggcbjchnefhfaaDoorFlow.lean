/- A region that draws its order, each of whose operations is shown once: what an operation yields is told by a predicate that stays true as the world goes on; so no order has to be walked. -/
import Derived.Test.YtggcbjchnefhfaaDoorHeld
namespace Go.Mk
section
variable {P : Program}

/-- The operation ends with a value (a callee returns one), and R holds of it and of the world behind. -/
def OpY (P : Program) (o : Oper) (a : Act) (w : World) (R : Value → World → Prop) : Prop :=
  match (execOp a.eval o).run P w with
  | .ok (.value v) w' => R v w'
  | .ok .skip w' => R undef w'
  | .ok (.enter f args) w' => Calls P f args w' fun e w'' => ∃ v, e = .returned v ∧ R v w''
  | _ => False
theorem OpY.wp {o : Oper} {a : Act} {w : World} {R : Value → World → Prop} {K : Act → World → Prop} {Q : Exit → Act → World → Prop} (h : OpY P o a w R) (hk : ∀ v w', R v w' → K (a.put o.dst v) w') : o.wp P a w K Q := by
  unfold OpY at h
  unfold Oper.wp
  generalize (execOp a.eval o).run P w = r at *
  cases r with
  | ok n w' =>
    cases n <;> simp only [Oper.upon] at h ⊢
    case value u => exact hk _ _ h
    case skip => exact hk _ _ h
    case enter f args => exact Calls.mono h fun e w'' ⟨v, he, hr⟩ => by subst he; exact hk _ _ hr
  | halt x w' => exact h.elim
theorem OpY.val {o : Oper} {a : Act} {w w' : World} {R : Value → World → Prop} {v : Value} (h : (execOp a.eval o).run P w = .ok (.value v) w') (hr : R v w') : OpY P o a w R := by
  unfold OpY; rw [h]; exact hr
theorem OpY.call {o : Oper} {a : Act} {w : World} {R : Value → World → Prop} {f : FuncId} {args : Array Value} (h : (execOp a.eval o).run P w = .ok (.enter f args) w) (hc : Calls P f args w fun e w'' => ∃ v, e = .returned v ∧ R v w'') : OpY P o a w R := by
  unfold OpY; rw [h]; exact hc
theorem YieldsIf.run {ops : Array Oper} {S : World → Prop} {o : Oper} {v : Value} {a : Act} {w : World} (h : YieldsIf P ops S o v a) (hw : Region.wanted o (yielded ops a.tmps) = true) (hS : S w) : (execOp a.eval o).run P w = .ok (.value v) w := by
  rcases h with ⟨_, h⟩ | ⟨h, _⟩
  · exact h w hS
  · rw [hw] at h; cases h

def upd (x : Nat → Value) (i : Nat) (v : Value) : Nat → Value := fun k => if k = i then v else x k
/-- The frame with the values x laid into the destinations ds. -/
def puts : List (Option Tmp) → Nat → (Nat → Value) → Act → Act
  | [], _, _, a => a
  | d :: ds, k, x, a => puts ds (k + 1) x (a.put d (x k))
theorem puts_congr {ds : List (Option Tmp)} {k : Nat} {x y : Nat → Value} {a : Act} (h : ∀ j, k ≤ j → x j = y j) : puts ds k x a = puts ds k y a := by
  induction ds generalizing k a with
  | nil => rfl
  | cons d ds ih => simp only [puts]; rw [h k (Nat.le_refl _)]; exact ih fun j hj => h j (by omega)
theorem put_put (a : Act) (d : Option Tmp) (u v : Value) : (a.put d u).put d v = a.put d v := by
  cases d with
  | none => rfl
  | some d => simp [Act.put]
theorem puts_put {ds : List (Option Tmp)} {k : Nat} {x : Nat → Value} {a : Act} {d : Option Tmp} {v : Value} (h : ∀ t, d = some t → some t ∉ ds) : (puts ds k x a).put d v = puts ds k x (a.put d v) := by
  induction ds generalizing k a with
  | nil => rfl
  | cons e ds ih =>
    simp only [puts]
    rw [ih fun t ht hm => h t ht (List.mem_cons_of_mem _ hm)]
    rw [Act.put_comm a (x k) v fun t he hd => h t hd (by rw [he]; exact List.mem_cons_self)]
def distinctB : List (Option Tmp) → Bool
  | [] => true
  | d :: ds => (d.isNone || !ds.contains d) && distinctB ds
theorem puts_set {ds : List (Option Tmp)} (hd : distinctB ds = true) {k i : Nat} {x : Nat → Value} {a : Act} {v : Value} {d : Option Tmp} (hi : ds[i]? = some d) : (puts ds k x a).put d v = puts ds k (upd x (k + i) v) a := by
  induction ds generalizing k i a with
  | nil => simp at hi
  | cons e ds ih =>
    simp only [distinctB, Bool.and_eq_true, Bool.or_eq_true, Bool.not_eq_true'] at hd
    cases i with
    | zero =>
      obtain rfl : e = d := by simpa using hi
      have hn : ∀ t, e = some t → some t ∉ ds := fun t ht hm => by
        rcases hd.1 with h | h
        · rw [ht] at h; cases h
        · rw [ht] at h; rw [List.contains_iff_mem.2 hm] at h; cases h
      simp only [puts]
      have e1 : upd x (k + 0) v k = v := by simp [upd]
      rw [puts_put hn, put_put, e1]
      exact puts_congr fun j hj => by unfold upd; rw [if_neg (by omega)]
    | succ i =>
      simp only [puts]
      have e1 : upd x (k + (i + 1)) v k = x k := by unfold upd; rw [if_neg (by omega)]
      rw [e1, ih hd.2 (i := i) (by simpa using hi), show k + 1 + i = k + (i + 1) by omega]
def topoB (ops : Array Oper) : Bool := (List.range ops.size).all fun i => ((ops[i]?).map fun o => o.after.all fun e => !Region.binds .any e || decide (e.on < i)).getD true
/-- What operation i waits for. -/
def depsOf (ops : Array Oper) (i : Nat) : List Nat := ((ops[i]?).map fun o => (o.after.toList.filter fun e => Region.binds .any e).map (·.on)).getD []
theorem mem_depsOf {ops : Array Oper} {i : Nat} {o : Oper} (ho : ops[i]? = some o) {k : Nat} : k ∈ depsOf ops i ↔ ∃ e ∈ o.after, Region.binds .any e = true ∧ e.on = k := by
  unfold depsOf
  rw [ho]
  simp only [Option.map_some, Option.getD_some, List.mem_map, List.mem_filter, Array.mem_toList_iff]
  constructor
  · rintro ⟨e, ⟨h1, h2⟩, h3⟩; exact ⟨e, h1, h2, h3⟩
  · rintro ⟨e, h1, h2, h3⟩; exact ⟨e, ⟨h1, h2⟩, h3⟩
theorem count_set {l : List Bool} {i : Nat} (h : l[i]? = some false) : (l.set i true).countP id = l.countP id + 1 := by
  induction l generalizing i with
  | nil => simp at h
  | cons b l ih =>
    cases i with
    | zero => obtain rfl : b = false := by simpa using h
              simp
    | succ i => rw [List.set_cons_succ, List.countP_cons, List.countP_cons, ih (by simpa using h)]; omega
/-- i comes before k whatever the order. -/
def befB (ops : Array Oper) : Nat → Nat → Nat → Bool
  | 0, _, _ => false
  | f + 1, i, k => (depsOf ops k).any fun j => j == i || befB ops f i j
theorem bef_listed {ops : Array Oper} {listed : Array Bool} (h3 : ∀ k, listed.getD k false = true → ∀ j ∈ depsOf ops k, listed.getD j false = true) : ∀ (f i k : Nat), befB ops f i k = true → listed.getD k false = true → listed.getD i false = true := by
  intro f
  induction f with
  | zero => intro i k h; cases h
  | succ f ih =>
    intro i k h hk
    simp only [befB, List.any_eq_true, Bool.or_eq_true, beq_iff_eq] at h
    obtain ⟨j, hj, rfl | h⟩ := h
    · exact h3 k hk j hj
    · exact ih i j h (h3 k hk j hj)
/-- A predicate on a value that stays true while what was there is kept; safe j: while the blocks that the loud operation j may turn (Sl j) are the only ones that turn. -/
structure Pr (Sl : Nat → Nat → Prop) where
  /-- of the value of operation d, and of its own value -/
  r : Value → Value → World → Prop
  d : Option Nat
  safe : Nat → Bool
  mono : ∀ u v w w', r u v w → Kept no w w' → r u v w'
  hmono : ∀ j, safe j = true → ∀ u v w w', r u v w → Kept (Sl j) w w' → r u v w'
  free : d = none → ∀ u u' v w, r u v w → r u' v w
variable {S : Nat → Prop} {Sl : Nat → Nat → Prop}
def Pr.p (q : Pr Sl) (v : Value) (w : World) : Prop := q.r undef v w
def Is (u : Value) : Pr Sl := ⟨fun _ v _ => v = u, none, fun _ => true, fun _ _ _ _ h _ => h, fun _ _ _ _ _ _ h _ => h, fun _ _ _ _ _ h => h⟩
def Any : Pr Sl := ⟨fun _ _ _ => True, none, fun _ => true, fun _ _ _ _ h _ => h, fun _ _ _ _ _ _ h _ => h, fun _ _ _ _ _ h => h⟩
def soft (p : Value → World → Prop) (h : ∀ v w w', p v w → Kept no w w' → p v w') : Pr Sl := ⟨fun _ v w => p v w, none, fun _ => false, fun _ => h, (fun _ h => by cases h), fun _ _ _ _ _ h => h⟩
/-- A predicate that speaks of the value of operation d (for which it waits) besides. -/
def rel (d : Nat) (r : Value → Value → World → Prop) (h : ∀ u v w w', r u v w → Kept no w w' → r u v w') : Pr Sl := ⟨r, some d, fun _ => false, h, (fun _ h => by cases h), (fun h => by cases h)⟩
/-- A slice of its own that reads as xs. -/
def Ow (e : TypeId) (size n : Nat) (xs : List Value) : Pr Sl := soft (fun v w => w.ownsRow 0 e size v n xs) fun _ _ _ h k => k.ownsRow h fun _ _ => id
def RdIs (size n : Nat) (xs : List Value) : Pr Sl := soft (fun v w => Rd w size v n xs) fun _ _ _ h k => h.keptNo k
/-- The address of a place whose cells read as xs. -/
def At (xs : List Value) : Pr Sl := soft (fun v w => ∃ g o, v = .pointer (some ⟨g, o, none⟩) ∧ w.rangeAt g o xs) fun _ _ _ ⟨g, o, e, h⟩ k => ⟨g, o, e, fun j u hu => k.cell (h j u hu) id⟩
/-- What is told of operation k's value. -/
def Hold (V : List (Pr Sl)) (x : Nat → Value) (k : Nat) (w : World) : Prop := (V.getD k Any).r (x ((V.getD k Any).d.getD 0)) (x k) w
/-- A predicate speaks of no other operation's value than of one that its own waits for. -/
def relOk (ops : Array Oper) (V : List (Pr Sl)) : Bool := (List.range ops.size).all fun k => match (V.getD k Any).d with | none => true | some d => (depsOf ops k).contains d && !(d == k)
theorem hold_upd {V : List (Pr Sl)} {x : Nat → Value} {k i : Nat} {v : Value} {w : World} (h : Hold V x k w) (hk : k ≠ i) (hd : ∀ d, (V.getD k Any).d = some d → d ≠ i) : Hold V (upd x i v) k w := by
  unfold Hold at *
  have e : upd x i v k = x k := by unfold Mk.upd; rw [if_neg hk]
  rw [e]
  cases hdd : (V.getD k Any).d with
  | none => exact (V.getD k Any).free hdd _ _ _ _ h
  | some d =>
    rw [hdd] at h
    have e2 : upd x i v d = x d := by unfold Mk.upd; rw [if_neg (hd d hdd)]
    simp only [Option.getD_some] at h ⊢
    rw [e2]; exact h
/-- May operation i (or the end: i = ops.size) count on what was told of k? -/
def okDep (ops : Array Oper) (V : List (Pr Sl)) (loud : List Nat) (i k : Nat) : Bool := loud.all fun j => j == i || j == k || befB ops ops.size j k || befB ops ops.size i j || (V.getD k Any).safe j
def Step1 (S : Nat → Prop) (P : Program) (ops : Array Oper) (V : List (Pr Sl)) (loud : List Nat) (a0 : Act) (w0 : World) (F : (Nat → Value) → Act) (i : Nat) (oi : Oper) : Prop :=
  ∀ x w, Kept S w0 w → (∀ T : Nat → Prop, (∀ j ∈ loud.filter fun j => !(j == i || befB ops ops.size i j), ∀ k, Sl j k → T k) → Kept T w0 w) → (∀ k, ((depsOf ops i).contains k && okDep ops V loud i k) = true → Hold V x k w) → (∀ k, (k == i || (depsOf ops k).contains i) = true → x k = (((ops[k]?).bind (·.dst)).map fun d => a0.tmps.getD d undef).getD undef) →
    if Region.wanted oi (yielded ops (F x).tmps) = true then OpY P oi (F x) w (fun v w' => Kept (if loud.contains i then Sl i else no) w w' ∧ (V.getD i Any).r (x ((V.getD i Any).d.getD 0)) v w') else (V.getD i Any).r (x ((V.getD i Any).d.getD 0)) undef w
theorem flow_go {ops : Array Oper} {Q : Exit → Act → World → Prop} {a0 : Act} {w0 : World} (V : List (Pr Sl)) (loud : List Nat) (hSl : ∀ j k, Sl j k → S k)
    (hd : distinctB (ops.toList.map (·.dst)) = true) (ht : topoB ops = true) (hrel : relOk ops V = true)
    (step : ∀ i oi, ops[i]? = some oi → Step1 S P ops V loud a0 w0 (fun x => puts (ops.toList.map (·.dst)) 0 x a0) i oi)
    (fin : ∀ x w, Kept S w0 w → (∀ k, (decide (k < ops.size) && okDep ops V loud ops.size k) = true → Hold V x k w) → Q .normal (puts (ops.toList.map (·.dst)) 0 x a0) w) :
    ∀ (fuel : Nat) (listed : Array Bool) (x : Nat → Value) (w : World), listed.size = ops.size → ops.size ≤ fuel + listed.toList.countP id → Kept S w0 w →
      (∀ k, listed.getD k false = true → (∀ j ∈ loud, listed.getD j false = true → (j == k || befB ops ops.size j k || (V.getD k Any).safe j) = true) → Hold V x k w) →
      (∀ k, listed.getD k false = false → x k = (((ops[k]?).bind (·.dst)).map fun d => a0.tmps.getD d undef).getD undef) → (∀ k, listed.getD k false = true → ∀ j ∈ depsOf ops k, listed.getD j false = true) → (∀ T : Nat → Prop, (∀ j ∈ loud, listed.getD j false = true → ∀ k, Sl j k → T k) → Kept T w0 w) →
      wpAny P .any ops Q fuel listed (puts (ops.toList.map (·.dst)) 0 x a0) w := by
  have allOf : ∀ (listed : Array Bool), listed.size = ops.size → Region.ready .any ops listed = [] → ∀ k, k < ops.size → listed.getD k false = true := by
    intro listed hs hr k
    induction k using Nat.strongRecOn with
    | ind k ih =>
      intro hk
      cases hl : listed.getD k false with
      | true => rfl
      | false =>
        have hm : k ∈ Region.ready .any ops listed := by
          rw [mem_ready]
          refine ⟨by simpa [hs, hk] using hl, ops[k], Array.getElem?_eq_getElem hk, fun e he hb => ih e.on ?_ ?_⟩
          · have := List.all_eq_true.1 ht k (List.mem_range.2 hk)
            rw [Array.getElem?_eq_getElem hk] at this
            simp only [Option.map_some, Option.getD_some] at this
            have := Array.all_eq_true_iff_forall_mem.1 this e he
            simpa [hb] using this
          · have := List.all_eq_true.1 ht k (List.mem_range.2 hk)
            rw [Array.getElem?_eq_getElem hk] at this
            simp only [Option.map_some, Option.getD_some] at this
            have := Array.all_eq_true_iff_forall_mem.1 this e he
            have h : e.on < k := by simpa [hb] using this
            omega
        rw [hr] at hm; cases hm
  have noEnd : ∀ f j, befB ops f ops.size j = true → j < ops.size → False := by
    intro f
    induction f with
    | zero => intro j h; cases h
    | succ f ih =>
      intro j h hj
      simp only [befB, List.any_eq_true, Bool.or_eq_true, beq_iff_eq] at h
      have ho : ops[j]? = some ops[j] := Array.getElem?_eq_getElem hj
      have hlt : ∀ k ∈ depsOf ops j, k < j := fun k hk => by
        obtain ⟨e, he, hb, rfl⟩ := (mem_depsOf ho).1 hk
        have := List.all_eq_true.1 ht j (List.mem_range.2 hj)
        rw [ho] at this
        simp only [Option.map_some, Option.getD_some] at this
        have := Array.all_eq_true_iff_forall_mem.1 this e he
        simpa [hb] using this
      obtain ⟨k, hk, rfl | h⟩ := h
      · have := hlt _ hk; omega
      · exact ih k h (by have := hlt _ hk; omega)
  have ending : ∀ (listed : Array Bool) (x : Nat → Value) (w : World), listed.size = ops.size → Kept S w0 w →
      (∀ k, listed.getD k false = true → (∀ j ∈ loud, listed.getD j false = true → (j == k || befB ops ops.size j k || (V.getD k Any).safe j) = true) → Hold V x k w) →
      (∀ k, k < ops.size → listed.getD k false = true) → Q .normal (puts (ops.toList.map (·.dst)) 0 x a0) w := by
    intro listed x w hs hw h1 hall
    refine fin x w hw fun k hk => ?_
    rw [Bool.and_eq_true] at hk
    have hk0 := of_decide_eq_true hk.1
    refine h1 k (hall k hk0) ?_
    have := hk.2
    unfold okDep at this
    intro j hj hl
    have := List.all_eq_true.1 this j hj
    have hjn : j < ops.size := by
      rcases Nat.lt_or_ge j listed.size with h' | h'
      · omega
      · simp [h'] at hl
    simp only [Bool.or_eq_true] at this
    rcases this with (((h' | h') | h') | h') | h'
    · have : j = ops.size := by simpa using h'
      omega
    · rw [h']; rfl
    · rw [h']; simp
    · exact (noEnd _ _ h' hjn).elim
    · rw [h']; simp
  intro fuel
  induction fuel with
  | zero =>
    intro listed x w hs hc hw h1 h2 h3 h4
    have hall : ∀ k, k < ops.size → listed.getD k false = true := by
      have hle : listed.toList.countP id = listed.toList.length := by
        have := List.countP_le_length (p := id) (l := listed.toList)
        simp only [Array.length_toList] at *
        omega
      rw [List.countP_eq_length] at hle
      intro k hk
      have hk' : k < listed.size := by omega
      have := hle listed[k] (by simp)
      simpa [hk'] using this
    refine ⟨?_, ending listed x w hs hw h1 hall⟩
    cases hr : Region.ready .any ops listed with
    | nil => rfl
    | cons j js =>
      have hj : j ∈ Region.ready .any ops listed := by rw [hr]; exact List.mem_cons_self
      obtain ⟨h0, o, ho, _⟩ := mem_ready.1 hj
      have hlt := (Array.getElem?_eq_some_iff.1 ho).1
      have := hall j hlt
      have hj' : j < listed.size := by omega
      simp [hj'] at h0 this
      rw [h0] at this; cases this
  | succ fuel ih =>
    intro listed x w hs hc hw h1 h2 h3 h4
    refine ⟨fun hr => ending listed x w hs hw h1 (allOf listed hs hr), fun i hi => ?_⟩
    obtain ⟨h0, o, ho, hdep⟩ := mem_ready.1 hi
    have hlt := (Array.getElem?_eq_some_iff.1 ho).1
    have hil : i < listed.size := by omega
    have hif : listed[i] = false := by simpa [hil] using h0
    have hif' : listed.getD i false = false := by simpa [hil] using hif
    have hdeps : ∀ k ∈ depsOf ops i, listed.getD k false = true := fun k hk => by
      obtain ⟨e, he, hb, rfl⟩ := (mem_depsOf ho).1 hk
      exact hdep e he hb
    have hstep := step i o ho x w hw (fun T hT => h4 T fun j hj hl k hk => by
        refine hT j (List.mem_filter.2 ⟨hj, ?_⟩) k hk
        cases hc : (j == i || befB ops ops.size i j) with
        | false => rfl
        | true =>
          rcases Bool.or_eq_true_iff.1 hc with h' | h'
          · have : j = i := by simpa using h'
            rw [this, hif'] at hl; cases hl
          · have := bef_listed h3 _ _ _ h' hl; rw [hif'] at this; cases this) (fun k hk => by
        rw [Bool.and_eq_true] at hk
        refine h1 k (hdeps k (List.contains_iff_mem.1 hk.1)) ?_
        have := hk.2
        unfold okDep at this
        intro j hj hl
        have := List.all_eq_true.1 this j hj
        simp only [Bool.or_eq_true] at this
        rcases this with (((h' | h') | h') | h') | h'
        · have : j = i := by simpa using h'
          rw [this, hif'] at hl; cases hl
        · rw [h']; rfl
        · rw [h']; simp
        · have := bef_listed h3 _ _ _ h' hl
          rw [hif'] at this; cases this
        · rw [h']; simp) (fun k hk => h2 k (by
      rcases Bool.or_eq_true_iff.1 hk with hk | hk
      · have : k = i := by simpa using hk
        rw [this]; exact hif'
      · cases hl : listed.getD k false with
        | false => rfl
        | true => have := h3 k hl i (List.contains_iff_mem.1 hk); rw [hif'] at this; cases this))
    have hrk : ∀ k, k < ops.size → ∀ d, (V.getD k Any).d = some d → d ∈ depsOf ops k ∧ d ≠ k := fun k hk d hdd => by
      have := List.all_eq_true.1 hrel k (List.mem_range.2 hk)
      rw [hdd] at this
      simp only [Bool.and_eq_true, Bool.not_eq_true', beq_eq_false_iff_ne] at this
      exact ⟨List.contains_iff_mem.1 this.1, this.2⟩
    have next : ∀ v w', Kept (if loud.contains i then Sl i else no) w w' → (V.getD i Any).r (x ((V.getD i Any).d.getD 0)) v w' → wpAny P .any ops Q fuel (listed.setIfInBounds i true) ((puts (ops.toList.map (·.dst)) 0 x a0).put o.dst v) w' := by
      intro v w' hr hv
      have hrS : Kept S w w' := by
        split at hr
        · exact hr.mono fun k _ h => hSl _ _ h
        · exact hr.of_no
      rw [puts_set hd (i := i) (d := o.dst) (by
        have e : ops.toList[i]? = some o := by simpa using ho
        rw [List.getElem?_map, e]; rfl), Nat.zero_add]
      refine ih _ _ _ (by simpa using hs) ?_ (hw.trans hrS fun _ _ h => h) ?_ ?_ ?_ ?_
      · rw [Array.toList_setIfInBounds, count_set (by rw [Array.getElem?_toList, Array.getElem?_eq_getElem hil, hif])]; omega
      · intro k hk hcond
        by_cases hki : k = i
        · subst hki
          unfold Hold
          have e1 : upd x k v k = v := by unfold upd; rw [if_pos rfl]
          rw [e1]
          cases hdd : (V.getD k Any).d with
          | none => exact (V.getD k Any).free hdd _ _ _ _ hv
          | some d =>
            rw [hdd] at hv
            have e2 : upd x k v d = x d := by unfold upd; rw [if_neg ((hrk k hlt d hdd).2)]
            simp only [Option.getD_some] at hv ⊢
            rw [e2]; exact hv
        · rw [getD_set_ne false (Ne.symm hki)] at hk
          have hkn : k < ops.size := by
            rcases Nat.lt_or_ge k listed.size with h' | h'
            · omega
            · simp [h'] at hk
          refine hold_upd ?_ hki fun d hdd e => by
            have := h3 k hk d (hrk k hkn d hdd).1
            rw [e, hif'] at this; cases this
          have hself : (listed.setIfInBounds i true).getD i false = true := by simp [hil]
          have hold := h1 k hk fun j hj hjl => hcond j hj (getD_set_true hjl)
          by_cases hl : loud.contains i = true
          · rw [if_pos hl] at hr
            have := hcond i (List.contains_iff_mem.1 hl) hself
            simp only [Bool.or_eq_true] at this
            rcases this with (h' | h') | h'
            · exact absurd (by simpa using h') (Ne.symm hki)
            · have := bef_listed h3 _ _ _ h' hk
              rw [hif'] at this; cases this
            · exact (V.getD k Any).hmono i h' _ _ _ _ hold hr
          · rw [if_neg hl] at hr
            exact (V.getD k Any).mono _ _ _ _ hold hr
      · intro k hk
        have hki : k ≠ i := fun e => by
          subst e
          simp [hil] at hk
        rw [getD_set_ne false (Ne.symm hki)] at hk
        unfold upd; rw [if_neg hki]
        exact h2 k hk
      · intro k hk j hj
        by_cases hki : k = i
        · subst hki; exact getD_set_true (hdeps j hj)
        · rw [getD_set_ne false (Ne.symm hki)] at hk
          exact getD_set_true (h3 k hk j hj)
      · intro T hT
        have h0 : Kept T w0 w := h4 T fun j hj hl k hk => hT j hj (getD_set_true hl) k hk
        by_cases hl : loud.contains i = true
        · rw [if_pos hl] at hr
          exact h0.trans hr fun k _ hs => hT i (List.contains_iff_mem.1 hl) (by simp [hil]) k hs
        · rw [if_neg hl] at hr
          exact h0.trans' hr
    unfold wpOp
    simp only [ho]
    split
    · rename_i hwant
      rw [if_pos hwant] at hstep
      exact .inl (OpY.wp hstep fun v w' h => next v w' h.1 h.2)
    · rename_i hwant
      rw [if_neg hwant] at hstep
      exact next undef w (Kept.refl _ _) hstep
inductive Steps (S : Nat → Prop) (P : Program) (ops : Array Oper) (V : List (Pr Sl)) (loud : List Nat) (a0 : Act) (w0 : World) (F : (Nat → Value) → Act) : Nat → List Oper → Prop
  | nil (i : Nat) : Steps S P ops V loud a0 w0 F i []
  | cons {i : Nat} {o : Oper} {os : List Oper} : Step1 S P ops V loud a0 w0 F i o → Steps S P ops V loud a0 w0 F (i + 1) os → Steps S P ops V loud a0 w0 F i (o :: os)
theorem Steps.get {ops : Array Oper} {V : List (Pr Sl)} {loud : List Nat} {a0 : Act} {w0 : World} {F : (Nat → Value) → Act} {i : Nat} {os : List Oper} (h : Steps S P ops V loud a0 w0 F i os) {j : Nat} {o : Oper} (hj : os[j]? = some o) : Step1 S P ops V loud a0 w0 F (i + j) o := by
  induction h generalizing j with
  | nil => simp at hj
  | cons h1 _ ih =>
    cases j with
    | zero => obtain rfl := by simpa using hj
              exact h1
    | succ j => have := ih (j := j) (by simpa using hj)
                rwa [Nat.add_right_comm, Nat.add_assoc] at this
theorem puts_old {ds : List (Option Tmp)} {k : Nat} {a : Act} {x : Nat → Value} (h : ∀ j d, ds[j]? = some (some d) → x (k + j) = a.tmps.getD d undef) : puts ds k x a = a := by
  induction ds generalizing k with
  | nil => rfl
  | cons d ds ih =>
    simp only [puts]
    have e : a.put d (x k) = a := by
      cases d with
      | none => rfl
      | some d =>
        have h0 : x k = a.tmps.getD d undef := by simpa using h 0 d (by simp)
        rw [h0]
        unfold Act.put
        simp only
        congr 1
        apply Array.ext_getElem?
        intro j
        by_cases hj : d = j
        · subst hj
          by_cases hl : d < a.tmps.size
          · simp [hl]
          · simp [hl]
        · rw [Array.getElem?_setIfInBounds_ne hj]
    rw [e]
    exact ih fun j d hj => by have := h (j + 1) d (by simpa using hj); rwa [show k + (j + 1) = k + 1 + j by omega] at this
theorem region_flow {id : Nat} {ops : Array Oper} {Q : Exit → Act → World → Prop} {a0 : Act} {w0 : World} (V : List (Pr Sl)) (loud : List Nat) (hSl : ∀ j k, Sl j k → S k) (F : (Nat → Value) → Act)
    (hm : P.follows .mixedOrders = true) (hd : distinctB (ops.toList.map (·.dst)) = true) (ht : topoB ops = true) (hrel : relOk ops V = true)
    (hF : ∀ x, puts (ops.toList.map (·.dst)) 0 x a0 = F x)
    (steps : Steps S P ops V loud a0 w0.drew F 0 ops.toList)
    (fin : ∀ x w, Kept S w0.drew w → (∀ k, (decide (k < ops.size) && okDep ops V loud ops.size k) = true → Hold V x k w) → Q .normal (F x) w) : (Code.region id ops true).wp P Q a0 w0 := by
  refine wp_region_any hm ?_
  have h := flow_go (P := P) (ops := ops) (Q := Q) (a0 := a0) (w0 := w0.drew) V loud hSl hd ht hrel
    (fun i oi hi x w hw hq hdep hold => by
      have := steps.get (j := i) (o := oi) (by simpa using hi)
      rw [Nat.zero_add] at this
      have := this x w hw hq hdep hold
      rw [← hF] at this; exact this)
    (fun x w hw hv => by rw [hF]; exact fin x w hw hv)
    ops.size (Array.replicate ops.size false) (fun k => (((ops[k]?).bind (·.dst)).map fun d => a0.tmps.getD d undef).getD undef) w0.drew (by simp) (by simp) (Kept.refl _ _) (fun k hk => by
      by_cases hl : k < ops.size <;> simp [hl] at hk) (fun _ _ => rfl) (fun k hk => by by_cases hl : k < ops.size <;> simp [hl] at hk) (fun _ _ => Kept.refl _ _)
  rw [puts_old (fun j d hj => by
    rw [Nat.zero_add]
    have : (ops.toList[j]?).map (·.dst) = some (some d) := by simpa using hj
    cases ho : ops[j]? with
    | none => simp [ho] at this
    | some o =>
      have e : o.dst = some d := by simpa [ho] using this
      simp [e])] at h
  exact h
theorem Kept.undrew {w w' : World} (h : Kept S w.drew w') : Kept S w w' := ⟨h.os, h.tape, h.output, h.size, h.block⟩
end
end Go.Mk
