/-
A statement whose order Go leaves open: it is enough to walk some of its orders. Operations that look at no memory are taken first;
operations that only look at memory are taken first where nothing that may come ahead of them changes memory; of the others every order is walked.
Over any program; no function of the program is spoken of.
Drawing statements in which memory is made (a literal, a variable) while loads still stand open: the loads are taken ahead. Over any program.
-/
import Derived.RegionTactic
namespace Go.Proofs.YtaghecgjmkhpcaaGreatDoor
set_option linter.unusedVariables false
set_option linter.unusedSimpArgs false
open Go

/-- Q, without panics and without an end for want of memory. -/
def Clean (Q : Exit → Act → World → Prop) : Exit → Act → World → Prop
  | .panic _, _, _ => False
  | .outgrown, _, _ => False
  | e, a, w => Q e a w
theorem Clean.imp {Q : Exit → Act → World → Prop} : ∀ (e : Exit) (a : Act) (w : World), Clean Q e a w → Q e a w := fun e a w h => by
  cases e <;> first | exact h | exact (h : False).elim
theorem Clean.letsOut {Q : Exit → Act → World → Prop} (h : LetsOut (Clean Q)) : False := by
  obtain ⟨a, w, h⟩ := h
  exact h

/-- It leaves memory as it is, and yields a value. -/
def Calm (P : Program) (o : Oper) : Prop := ∀ (ρ : Operand → Value) (w : World) (n : Next) (w1 : World), (execOp ρ o).run P w = .ok n w1 → w1 = w ∧ ∃ v, n = .value v
/-- It does not look at memory. -/
def WI (P : Program) (o : Oper) : Prop := ∀ (ρ : Operand → Value) (w : World) (n : Next) (w1 : World), (execOp ρ o).run P w = .ok n w1 → ∃ v, n = .value v ∧ ∀ w', (execOp ρ o).run P w' = .ok (.value v) w'
theorem WI.calm {P : Program} {o : Oper} (h : WI P o) : Calm P o := fun ρ w n w1 hr => by
  obtain ⟨v, rfl, hv⟩ := h ρ w n w1 hr
  rw [hv w] at hr
  injection hr with h1 h2
  exact ⟨h2.symm, v, rfl⟩

/-- Whatever world it is run in, it yields the same and leaves memory as it is. -/
def WIS {α : Type} (s : Sem α) : Prop := ∀ (P : Program) (w : World) (v : α) (w1 : World), s.run P w = .ok v w1 → ∀ w', s.run P w' = .ok v w'
/-- It never yields. -/
def NeverOk {α : Type} (s : Sem α) : Prop := ∀ (P : Program) (w : World) (v : α) (w1 : World), s.run P w ≠ .ok v w1
theorem NeverOk.wis {α : Type} {s : Sem α} (h : NeverOk s) : WIS s := fun P w v w1 hr => absurd hr (h P w v w1)
theorem NeverOk.halt {α : Type} (x : Halt) : NeverOk (.halt x : Sem α) := fun P w v w1 h => by simp [Sem.run] at h
theorem NeverOk.bind_left {α β : Type} {s : Sem α} {f : α → Sem β} (hs : NeverOk s) : NeverOk (s >>= f) := fun P w v w1 h => by
  rw [Sem.run_bind] at h
  cases hr : s.run P w with
  | ok a w2 => exact hs P w a w2 hr
  | halt x w2 => rw [hr] at h; cases h
theorem NeverOk.bind_right {α β : Type} {s : Sem α} {f : α → Sem β} (hf : ∀ a, NeverOk (f a)) : NeverOk (s >>= f) := fun P w v w1 h => by
  rw [Sem.run_bind] at h
  cases hr : s.run P w with
  | ok a w2 =>
    rw [hr] at h
    simp only [Result.andThen_ok] at h
    exact hf a P w2 v w1 h
  | halt x w2 => rw [hr] at h; cases h
theorem NeverOk.runtimePanic {α : Type} (e : RuntimeError) : NeverOk (runtimePanic e : Sem α) := by
  unfold Go.runtimePanic
  refine NeverOk.bind_right fun p => ?_
  cases e <;> simp only <;> first | exact NeverOk.halt _ | (refine NeverOk.bind_right fun _ => ?_; refine NeverOk.bind_right fun _ => ?_; exact NeverOk.halt _)
theorem NeverOk.boundsPanic {α : Type} (k : IntKind) (x y : Int) (c : BoundsCode) : NeverOk (boundsPanic k x y c : Sem α) := by
  unfold Go.boundsPanic
  extract_lets jp
  split
  · exact NeverOk.bind_right fun _ => NeverOk.runtimePanic _
  · exact NeverOk.bind_right fun _ => NeverOk.runtimePanic _
theorem NeverOk.stuck {α : Type} (s : String) : NeverOk (stuck s : Sem α) := NeverOk.halt _
theorem NeverOk.unsupported {α : Type} (u : Unsupported) : NeverOk (unsupported u : Sem α) := NeverOk.halt _
theorem WIS.pure {α : Type} (a : α) : WIS (pure a : Sem α) := fun P w v w1 h w' => by
  simp only [Sem.run_pure] at h ⊢; injection h with h _; rw [h]
theorem WIS.bind {α β : Type} {s : Sem α} {f : α → Sem β} (hs : WIS s) (hf : ∀ a, WIS (f a)) : WIS (s >>= f) := fun P w v w1 h w' => by
  rw [Sem.run_bind] at h ⊢
  cases hr : s.run P w with
  | ok a w2 =>
    rw [hr] at h
    simp only [Result.andThen_ok] at h
    rw [hs P w a w2 hr w']
    simp only [Result.andThen_ok]
    exact hf a P w2 v w1 h w'
  | halt x w2 => rw [hr] at h; cases h
theorem WIS.program : WIS Go.program := fun P w v w1 h w' => by
  simp only [Go.program, Sem.run] at h ⊢; injection h with h _; rw [h]
theorem WIS.underlying (t : TypeId) : WIS (underlying t) := by
  unfold Go.underlying
  refine WIS.bind WIS.program fun p => ?_
  split
  · exact WIS.pure _
  · exact (NeverOk.stuck _).wis
theorem WIS.typeInfo (t : TypeId) : WIS (typeInfo t) := by
  unfold Go.typeInfo
  refine WIS.bind WIS.program fun p => ?_
  split
  · exact WIS.pure _
  · exact (NeverOk.stuck _).wis
theorem WIS.sizeOf (t : TypeId) : WIS (Go.sizeOf t) := WIS.bind (WIS.typeInfo t) fun _ => WIS.pure _
theorem WIS.asIntOf (v : Value) : WIS (asIntOf v) := by
  cases v <;> try exact (NeverOk.stuck _).wis
  · exact WIS.pure _
  · rename_i a; cases a
    · exact (NeverOk.stuck _).wis
    · exact (NeverOk.unsupported _).wis
theorem WIS.sureAddr (v : Value) : WIS (Instr.sureAddr v) := by
  cases v <;> try exact (NeverOk.stuck _).wis
  rename_i a; cases a
  · exact (NeverOk.stuck _).wis
  · exact WIS.pure _
theorem WIS.ite {α : Type} {c : Prop} [Decidable c] {x y : Sem α} (hx : WIS x) (hy : WIS y) : WIS (if c then x else y) := by split <;> assumption
theorem WIS.indexAt (t : TypeId) (x i : Value) : WIS (Instr.indexAt t x i) := by
  unfold Instr.indexAt
  refine WIS.bind (WIS.asIntOf _) fun ki => ?_
  refine WIS.bind (WIS.underlying _) fun d => ?_
  extract_lets jp
  have hjp : ∀ ble, WIS (jp ble) := by
    intro ble
    obtain ⟨base, len, elem⟩ := ble
    refine WIS.bind (WIS.underlying _) fun d2 => ?_
    extract_lets tiny
    cases base with
    | none => exact (NeverOk.boundsPanic _ _ _ _).wis
    | some a =>
      refine WIS.ite (WIS.bind (WIS.sizeOf _) fun _ => WIS.pure _) (WIS.ite (NeverOk.unsupported _).wis (NeverOk.boundsPanic _ _ _ _).wis)
  split
  · exact WIS.bind (WIS.sureAddr _) fun _ => WIS.bind (WIS.pure _) fun _ => hjp _
  · exact WIS.bind (WIS.pure _) fun _ => hjp _
  · exact (NeverOk.bind_left (NeverOk.stuck _)).wis
theorem WIS.sliceBound (x : Value) (y : Nat) (c : BoundsCode) : WIS (Instr.sliceBound x y c) := by
  unfold Instr.sliceBound
  refine WIS.bind (WIS.asIntOf _) fun ki => ?_
  exact WIS.ite (WIS.pure _) (NeverOk.boundsPanic _ _ _ _).wis
theorem WIS.sliceBounds (s : Bool) (l c : Nat) (lo hi mx : Option Value) : WIS (Instr.sliceBounds s l c lo hi mx) := by
  unfold Instr.sliceBounds
  extract_lets jp
  have hjp : ∀ m, WIS (jp m) := by
    intro m
    simp only [jp]
    cases hi <;> cases mx <;> cases lo
    all_goals first
      | exact (NeverOk.bind_left (NeverOk.stuck _)).wis
      | exact WIS.bind (WIS.pure _) fun _ => WIS.bind (WIS.pure _) fun _ => WIS.pure _
      | exact WIS.bind (WIS.sliceBound _ _ _) fun _ => WIS.bind (WIS.pure _) fun _ => WIS.pure _
      | exact WIS.bind (WIS.pure _) fun _ => WIS.bind (WIS.sliceBound _ _ _) fun _ => WIS.pure _
      | exact WIS.bind (WIS.sliceBound _ _ _) fun _ => WIS.bind (WIS.sliceBound _ _ _) fun _ => WIS.pure _
  cases mx
  · exact WIS.bind (WIS.pure _) hjp
  · exact WIS.bind (WIS.sliceBound _ _ _) hjp
theorem WIS.asAddr (v : Value) : WIS (Go.asAddr v) := by
  cases v <;> try exact (NeverOk.stuck _).wis
  rename_i a; cases a
  · exact (show NeverOk (runtimePanic .nilDeref : Sem Addr) from NeverOk.runtimePanic _).wis
  · exact WIS.pure _
theorem WIS.slice (t : TypeId) (x : Value) (lo hi mx : Option Value) : WIS (Instr.slice t x lo hi mx) := by
  unfold Instr.slice
  refine WIS.bind (WIS.underlying _) fun d => ?_
  split
  · split
    · exact (NeverOk.bind_left (NeverOk.stuck _)).wis
    · exact WIS.bind (WIS.sliceBounds _ _ _ _ _ _) fun _ => WIS.pure _
  · exact WIS.bind (WIS.sliceBounds _ _ _ _ _ _) fun _ => WIS.bind (WIS.sizeOf _) fun _ => WIS.pure _
  · refine WIS.bind (WIS.asAddr _) fun a => WIS.bind (WIS.underlying _) fun d => ?_
    split
    · exact WIS.bind (WIS.sliceBounds _ _ _ _ _ _) fun _ => WIS.bind (WIS.sizeOf _) fun _ => WIS.pure _
    · exact (NeverOk.stuck _).wis
  · exact (NeverOk.stuck _).wis
theorem WIS.sliceAt (t : TypeId) (x : Value) (lo hi mx : Option Value) : WIS (Instr.sliceAt t x lo hi mx) := by
  unfold Instr.sliceAt
  refine WIS.bind (WIS.underlying _) fun d => ?_
  split
  · exact WIS.bind (WIS.sureAddr _) fun a => WIS.bind (WIS.sliceBounds _ _ _ _ _ _) fun _ => WIS.bind (WIS.sizeOf _) fun _ => WIS.pure _
  · exact WIS.slice _ _ _ _ _
/-- From a run to an operation. -/
theorem WI.of_value {P : Program} {s : Sem Value} (hs : WIS s) {w : World} {n : Next} {w1 : World} (hr : (do pure (Next.value (← s)) : Sem Next).run P w = .ok n w1) :
    ∃ v, n = .value v ∧ ∀ w', (do pure (Next.value (← s)) : Sem Next).run P w' = .ok (.value v) w' := by
  rw [Sem.run_bind] at hr
  cases hc : s.run P w with
  | ok v w2 =>
    rw [hc] at hr
    simp only [Result.andThen_ok, Sem.run_pure] at hr
    injection hr with h1 h2
    refine ⟨v, h1.symm, fun w' => ?_⟩
    rw [Sem.run_bind, hs P w v w2 hc w']
    simp
  | halt x w2 => rw [hc] at hr; cases hr

/-- A field of a struct that has a size. -/
def sizedField (P : Program) (t : TypeId) (f : Nat) : Bool :=
  match P.underlying t with
  | some (.struct fs) => (match fs[f]? with
    | some fl => (match P.info? fl.type with | some i => i.size != 0 | none => false)
    | none => false)
  | _ => false
def lenType : Option TypeDesc → Bool
  | some (.slice _) => true
  | some .string => true
  | _ => false
def lenCall (P : Program) (c : Call) : Bool :=
  match c.callee, c.args.toList, c.argTypes.toList with
  | .builtin .len, [_], [t] => lenType (P.underlying t)
  | _, _, _ => false
def wiB (P : Program) (o : Oper) : Bool :=
  match o.op with
  | .move _ | .assign _ | .pick .. | .extract .. => true
  | .unOp .not _ _ => true
  | .indexAddr .. | .slice .. | .makeInterface .. => true
  | .fieldAddr t _ f => sizedField P t f
  | .call c => lenCall P c
  | _ => false
theorem WIS.makeInterface (t : TypeId) (x : Value) : WIS (Instr.makeInterface t x) := by
  unfold Instr.makeInterface
  refine WIS.bind (WIS.underlying _) fun d => ?_
  split
  · exact (NeverOk.stuck _).wis
  · exact WIS.pure _
theorem fieldAddr_wi (P : Program) (t : TypeId) (x : Operand) (f : Nat) {odst : Option Tmp} {type : TypeId} {pos : String} {after : Array Edge} {guard : Option (Nat × Bool)}
    (h : sizedField P t f = true) : WI P { dst := odst, op := .fieldAddr t x f, type := type, pos := pos, after := after, guard := guard } := by
  unfold sizedField at h
  cases hu : P.underlying t with
  | none => rw [hu] at h; cases h
  | some d =>
    rw [hu] at h
    cases d <;> simp only at h <;> try (cases h; done)
    rename_i fs
    cases hf : fs[f]? with
    | none => rw [hf] at h; cases h
    | some fl =>
      rw [hf] at h
      simp only at h
      cases hi : P.info? fl.type with
      | none => rw [hi] at h; cases h
      | some i =>
        rw [hi] at h
        have hz : ¬ i.size = 0 := by simpa using h
        intro ρ w n w1 hr
        simp only [execOp] at hr ⊢
        cases hx : ρ x <;> simp [hx, Instr.fieldAt, run_underlying hu, hf, Instr.sureAddr, fieldPlace, sizeOf, typeInfo, hi, hz] at hr ⊢
        rename_i a
        cases a <;> simp at hr ⊢
        exact hr.1.symm
theorem len_wi (P : Program) (t : TypeId) (x : Operand) {odst : Option Tmp} {type : TypeId} {pos : String} {after : Array Edge} {guard : Option (Nat × Bool)}
    (h : lenType (P.underlying t) = true) : WI P { dst := odst, op := .call { callee := .builtin .len, args := #[x], argTypes := #[t] }, type := type, pos := pos, after := after, guard := guard } := by
  cases hu : P.underlying t with
  | none => rw [hu] at h; cases h
  | some d =>
    rw [hu] at h
    cases d <;> simp only [lenType] at h <;> try (cases h; done)
    all_goals
      intro ρ w n w1 hr
      simp only [execOp] at hr ⊢
      cases hx : ρ x <;> simp [hx, resolve, invoke, builtin, Builtin.len_, run_underlying hu] at hr ⊢
      exact hr.1.symm
theorem wiB_sound (P : Program) {o : Oper} (h : wiB P o = true) : WI P o := by
  obtain ⟨dst, op, type, pos, after, guard⟩ := o
  unfold wiB at h
  split at h
  · rename_i x hop; simp only at hop; subst hop
    intro ρ w n w1 hr
    simp only [execOp, Sem.run_pure] at hr ⊢; injection hr with h1 h2; exact ⟨_, h1.symm, fun _ => rfl⟩
  · rename_i x hop; simp only at hop; subst hop
    intro ρ w n w1 hr
    simp only [execOp, Sem.run_pure] at hr ⊢; injection hr with h1 h2; exact ⟨_, h1.symm, fun _ => rfl⟩
  · rename_i c x y hop; simp only at hop; subst hop
    intro ρ w n w1 hr
    simp only [execOp] at hr ⊢
    cases hc : ρ c <;> simp [hc, asBool] at hr ⊢
    exact hr.1.symm
  · rename_i t ix hop; simp only at hop; subst hop
    intro ρ w n w1 hr
    simp only [execOp] at hr ⊢
    cases ht : ρ t <;> simp [ht, Instr.extract] at hr ⊢
    rename_i vs
    cases hv : vs[ix]? <;> simp [hv] at hr ⊢
    exact hr.1.symm
  · rename_i t x hop; simp only at hop; subst hop
    intro ρ w n w1 hr
    simp only [execOp] at hr ⊢
    cases ht : ρ x <;> simp [ht, Op.unary] at hr ⊢
    exact hr.1.symm
  · rename_i t x ix hop; simp only at hop; subst hop
    intro ρ w n w1 hr
    exact WI.of_value (WIS.indexAt _ _ _) hr
  · rename_i t x lo hi mx hop; simp only at hop; subst hop
    intro ρ w n w1 hr
    exact WI.of_value (WIS.sliceAt _ _ _ _ _) hr
  · rename_i t x hop; simp only at hop; subst hop
    intro ρ w n w1 hr
    exact WI.of_value (WIS.makeInterface _ _) hr
  · rename_i t x f hop; simp only at hop; subst hop
    exact fieldAddr_wi P t x f h
  · rename_i c hop; simp only at hop; subst hop
    unfold lenCall at h
    obtain ⟨callee, args, argTypes⟩ := c
    split at h
    · rename_i x t h1 h2 h3
      simp only at h1 h2 h3
      obtain rfl : args = #[x] := by apply Array.ext'; simpa using h2
      obtain rfl : argTypes = #[t] := by apply Array.ext'; simpa using h3
      subst h1
      exact len_wi P t x h
    · cases h
  · cases h

def intType : Option TypeDesc → Bool
  | some (.int _) => true
  | _ => false
/-- An operation on numbers or texts: it looks at no memory, if its operands are such. -/
def typedB (P : Program) (o : Oper) : Bool :=
  match o.op with
  | .binOp _ t _ _ _ => (match P.underlying t with | some (.int _) => true | some .string => true | _ => false)
  | .convert s d _ => intType (P.underlying s) && intType (P.underlying d)
  | _ => false
def TypedOp (o : Oper) (ρ : Operand → Value) : Prop :=
  match o.op with
  | .binOp _ _ x y _ => (∃ k a k' b, ρ x = .int k a ∧ ρ y = .int k' b) ∨ (∃ a b, ρ x = .string a ∧ ρ y = .string b)
  | .convert _ _ x => ∃ k n, ρ x = .int k n
  | _ => True
/-- What is asked of operation i in state a. -/
def TypedAt (ops : Array Oper) (i : Nat) (a : Act) : Prop :=
  match ops[i]? with
  | some o => Region.wanted o (yielded ops a.tmps) = true → TypedOp o a.eval
  | none => True
def WIat (P : Program) (o : Oper) (ρ : Operand → Value) : Prop := ∀ (w : World) (n : Next) (w1 : World), (execOp ρ o).run P w = .ok n w1 → ∃ v, n = .value v ∧ ∀ w', (execOp ρ o).run P w' = .ok (.value v) w'
theorem WIS.intOp (op : BinOp) (k k' : IntKind) (t : TypeId) (a b : Int) : WIS (binOp op t (.int k a) (.int k' b)) := by
  have sh : ∀ op, WIS (Op.shift op k a k' b) := by
    intro op
    unfold Op.shift
    refine WIS.ite (NeverOk.runtimePanic _).wis ?_
    extract_lets n
    cases op <;> first | exact WIS.pure _ | exact (NeverOk.stuck _).wis
  have ar : ∀ op, WIS (Op.intArith op k a b) := by intro op; cases op <;> first | exact WIS.pure _ | exact (NeverOk.stuck _).wis
  have cm : ∀ op, WIS (Op.intCmp op a b) := by intro op; cases op <;> first | exact WIS.pure _ | exact (NeverOk.stuck _).wis
  have bt : ∀ op, WIS (Op.intBits op k a b) := by
    intro op
    unfold Op.intBits
    cases op <;> first | exact WIS.pure _ | exact (NeverOk.stuck _).wis
  have dv : ∀ op, WIS (Op.intDiv op k a b) := by
    intro op
    unfold Op.intDiv
    refine WIS.ite (NeverOk.runtimePanic _).wis ?_
    cases op <;> first | exact WIS.pure _ | exact (NeverOk.stuck _).wis
  cases op <;> simp only [binOp] <;> first | exact sh _ | exact WIS.ite (NeverOk.stuck _).wis (ar _) | exact WIS.ite (NeverOk.stuck _).wis (cm _) | exact WIS.ite (NeverOk.stuck _).wis (bt _) | exact WIS.ite (NeverOk.stuck _).wis (dv _)
theorem WIS.strOp (op : BinOp) (t : TypeId) (a b : ByteArray) : WIS (binOp op t (.string a) (.string b)) := by
  have e : binOp op t (.string a) (.string b) = Op.stringOp op a b := by cases op <;> rfl
  rw [e]
  unfold Op.stringOp
  extract_lets eq lt
  cases op <;> first | exact WIS.pure _ | exact (NeverOk.stuck _).wis | exact WIS.ite (NeverOk.unsupported _).wis (WIS.pure _)
theorem typed_wi {P : Program} {o : Oper} {ρ : Operand → Value} (hb : typedB P o = true) (ht : TypedOp o ρ) : WIat P o ρ := by
  obtain ⟨dst, op, type, pos, after, guard⟩ := o
  intro w n w1 hr
  cases op with
  | binOp op t x y yt =>
    rcases ht with ⟨k, a, k', b, hx, hy⟩ | ⟨a, b, hx, hy⟩
    · have hs : WIS (do eqGuard op t x y (ρ x) (ρ y); binOp op t (ρ x) (ρ y)) := by
        rw [hx, hy]
        refine WIS.bind ?_ fun _ => WIS.intOp _ _ _ _ _ _
        cases op <;> exact WIS.pure _
      exact WI.of_value hs hr
    · have hs : WIS (do eqGuard op t x y (ρ x) (ρ y); binOp op t (ρ x) (ρ y)) := by
        rw [hx, hy]
        refine WIS.bind ?_ fun _ => WIS.strOp _ _ _ _
        cases op <;> exact WIS.pure _
      exact WI.of_value hs hr
  | convert s d x =>
    obtain ⟨k, m, hx⟩ := ht
    simp only [typedB, Bool.and_eq_true] at hb
    obtain ⟨h1, h2⟩ := hb
    have hs : ∃ ks, P.underlying s = some (.int ks) := by
      cases hu : P.underlying s with
      | none => rw [hu] at h1; cases h1
      | some ds => rw [hu] at h1; cases ds <;> first | exact ⟨_, rfl⟩ | cases h1
    have hd : ∃ kd, P.underlying d = some (.int kd) := by
      cases hu : P.underlying d with
      | none => rw [hu] at h2; cases h2
      | some ds => rw [hu] at h2; cases ds <;> first | exact ⟨_, rfl⟩ | cases h2
    obtain ⟨ks, hs⟩ := hs
    obtain ⟨kd, hd⟩ := hd
    simp only [execOp, hx] at hr ⊢
    simp [convert, run_underlying hs, run_underlying hd, Conv.intToInt] at hr ⊢
    exact hr.1.symm
  | _ => cases hb

section
variable {P : Program} {ops : Array Oper} {Q : Exit → Act → World → Prop} {md : Region.Mode}

/-- It yields v in this world. -/
def YieldsAt (P : Program) (ops : Array Oper) (o : Oper) (v : Value) (a : Act) (w : World) : Prop :=
  (Region.wanted o (yielded ops a.tmps) = true ∧ (execOp a.eval o).run P w = .ok (.value v) w) ∨ (Region.wanted o (yielded ops a.tmps) = false ∧ v = undef)
theorem YieldsAt.of_same {o : Oper} {v : Value} {a a' : Act} {w : World} (hy : YieldsAt P ops o v a w) (he : execOp a'.eval o = execOp a.eval o)
    (hw : Region.wanted o (yielded ops a'.tmps) = Region.wanted o (yielded ops a.tmps)) : YieldsAt P ops o v a' w := by
  unfold YieldsAt at *
  rw [he, hw]
  exact hy
theorem YieldsAt.wpOp {i : Nat} {o : Oper} {v : Value} {a : Act} {w : World} (hi : ops[i]? = some o) (hy : YieldsAt P ops o v a w)
    {K : Act → World → Prop} (h : K (a.put o.dst v) w) : wpOp P ops Q i K a w := by
  unfold Go.wpOp
  simp only [hi]
  rcases hy with ⟨hw, hv⟩ | ⟨hw, rfl⟩
  · simp only [hw, if_true, Oper.wp, hv, Oper.upon]; exact .inl h
  · simp only [hw, Bool.false_eq_true, if_false]; exact h

/-- What is known of a step of a calm operation. -/
theorem calm_step' {i : Nat} {o : Oper} {K : Act → World → Prop} {a : Act} {w : World} (hi : ops[i]? = some o)
    (hc : Region.wanted o (yielded ops a.tmps) = true → ∀ (n : Next) (w1 : World), (execOp a.eval o).run P w = .ok n w1 → w1 = w ∧ ∃ v, n = .value v) (h : wpOp P ops (Clean Q) i K a w) :
    ∃ v, YieldsAt P ops o v a w ∧ K (a.put o.dst v) w := by
  unfold wpOp at h
  simp only [hi] at h
  cases hw : Region.wanted o (yielded ops a.tmps)
  · simp only [hw, Bool.false_eq_true, if_false] at h
    exact ⟨undef, .inr ⟨hw, rfl⟩, h⟩
  · simp only [hw, if_true] at h
    rcases h with h | ⟨_, h⟩
    case inr => exact (Clean.letsOut h).elim
    unfold Oper.wp at h
    cases hr : (execOp a.eval o).run P w with
    | ok n w1 =>
      obtain ⟨rfl, v, rfl⟩ := hc hw _ _ hr
      rw [hr] at h
      exact ⟨v, .inl ⟨hw, hr⟩, h⟩
    | halt x w1 =>
      rw [hr] at h
      cases x <;> simp only [Oper.upon] at h <;> exact (h : False).elim
theorem calm_step {i : Nat} {o : Oper} {K : Act → World → Prop} {a : Act} {w : World} (hi : ops[i]? = some o) (hc : Calm P o) (h : wpOp P ops (Clean Q) i K a w) :
    ∃ v, YieldsAt P ops o v a w ∧ K (a.put o.dst v) w := calm_step' hi (fun _ n w1 hr => hc _ w n w1 hr) h
theorem yields_det {o : Oper} {v v' : Value} {a : Act} {w : World} (h : YieldsAt P ops o v a w) (h' : YieldsAt P ops o v' a w) : v = v' := by
  rcases h with ⟨hw, hv⟩ | ⟨hw, rfl⟩ <;> rcases h' with ⟨hw', hv'⟩ | ⟨hw', rfl⟩
  · rw [hv] at hv'; injection hv' with h1; injection h1
  · rw [hw] at hw'; cases hw'
  · rw [hw] at hw'; cases hw'
  · rfl
theorem yields_of_typed {o : Oper} {v : Value} {a : Act} {w : World} (hwi : Region.wanted o (yielded ops a.tmps) = true → WIat P o a.eval) (h : YieldsAt P ops o v a w) : Yields P ops o v a := by
  rcases h with ⟨hw, hv⟩ | ⟨hw, rfl⟩
  · obtain ⟨v', h1, h2⟩ := hwi hw _ _ _ hv
    injection h1 with h1; subst h1
    exact .inl ⟨hw, h2⟩
  · exact .inr ⟨hw, rfl⟩
theorem yields_of_wi {o : Oper} {v : Value} {a : Act} {w : World} (hwi : WI P o) (h : YieldsAt P ops o v a w) : Yields P ops o v a := by
  rcases h with ⟨hw, hv⟩ | ⟨hw, rfl⟩
  · obtain ⟨v', h1, h2⟩ := hwi _ _ _ _ hv
    injection h1 with h1; subst h1
    exact .inl ⟨hw, h2⟩
  · exact .inr ⟨hw, rfl⟩

/-- A calm operation j ahead of i, which is apart from it. -/
theorem wpOp_putAt {j : Nat} {oi oj : Oper} {v : Value} (hj : ops[j]? = some oj) (hap : oi.apart ops oj = true)
    (hsi : ∀ cs b, oi.op ≠ .select cs b) (hsj : ∀ cs b, oj.op ≠ .select cs b) (hcj : Calm P oj) {K : Act → World → Prop} {a : Act} {w : World}
    (hy : YieldsAt P ops oi v a w) (h : wpOp P ops (Clean Q) j K (a.put oi.dst v) w) :
    wpOp P ops (Clean Q) j (fun a' w' => w' = w ∧ YieldsAt P ops oi v a' w ∧ K (a'.put oi.dst v) w') a w := by
  obtain ⟨h1, h2, h3⟩ := Oper.apart_spec hap
  obtain ⟨u, hu, hK⟩ := calm_step hj hcj h
  have hu' : YieldsAt P ops oj u a w := hu.of_same (execOp_put oj hsj a oi.dst v h1).symm (wanted_put oj a oi.dst v h1).symm
  refine hu'.wpOp hj ⟨rfl, hy.of_same (execOp_put oi hsi a oj.dst u h3) (wanted_put oi a oj.dst u h3), ?_⟩
  rw [← Act.put_comm a v u h2]
  exact hK

theorem wpAny_calm {i : Nat} {oi : Oper} {v : Value} (hi : ops[i]? = some oi) (hsel : ∀ (j : Nat) (o : Oper) cs b, ops[j]? = some o → o.op ≠ .select cs b)
    (L0 : Array Bool) (u : Nat → Bool)
    (hcl : ∀ j oj, ops[j]? = some oj → j ≠ i → L0.getD j true = false → (∀ e ∈ oj.after, Region.binds md e = true → L0.getD e.on false = true ∨ u e.on = true) → u j = true)
    (hgood : ∀ j oj, ops[j]? = some oj → u j = true → Calm P oj ∧ oi.apart ops oj = true) (hui : u i = false) (hLi : L0.getD i true = false) (hsz : L0.size = ops.size) :
    ∀ (fuel : Nat) (listed : Array Bool) (a : Act) (w : World), listed.size = ops.size → (∀ k, listed.getD k false = true → L0.getD k false = true ∨ u k = true) → (∀ k, L0.getD k false = true → listed.getD k false = true) →
      i ∈ Region.ready md ops listed → YieldsAt P ops oi v a w →
      wpAny P md ops (Clean Q) fuel (listed.setIfInBounds i true) (a.put oi.dst v) w → wpAny P md ops (Clean Q) (fuel + 1) listed a w := by
  intro fuel
  have hu_of : ∀ (listed : Array Bool) (j : Nat), listed.size = ops.size → (∀ k, listed.getD k false = true → L0.getD k false = true ∨ u k = true) → (∀ k, L0.getD k false = true → listed.getD k false = true) →
      j ∈ Region.ready md ops listed → j ≠ i → u j = true := by
    intro listed j hls hinv hinv2 hj hji
    obtain ⟨hjun, oj, hoj, hall⟩ := mem_ready.1 hj
    refine hcl j oj hoj hji ?_ (fun e he hb => hinv _ (hall e he hb))
    have hlt : j < L0.size := by rw [hsz]; exact (Array.getElem?_eq_some_iff.1 hoj).1
    cases hL : L0.getD j true
    · rfl
    · have h1 : L0.getD j false = true := by
        simp [hlt] at hL ⊢
        exact hL
      have h2 := hinv2 j h1
      have hlt2 : j < listed.size := by rw [hls, ← hsz]; exact hlt
      simp [hlt2] at h2 hjun
      rw [h2] at hjun
      cases hjun
  induction fuel with
  | zero =>
    intro listed a w hls hinv hinv2 hr hy H
    refine ⟨fun h => (by rw [h] at hr; cases hr), fun j hj => ?_⟩
    by_cases hji : j = i
    · subst hji; exact hy.wpOp hi H
    · have := ready_mono hj hji
      rw [H.1] at this
      cases this
  | succ fuel ih =>
    intro listed a w hls hinv hinv2 hr hy H
    refine ⟨fun h => (by rw [h] at hr; cases hr), fun j hj => ?_⟩
    by_cases hji : j = i
    · subst hji; exact hy.wpOp hi H
    · have h1 := H.2 j (ready_mono hj hji)
      obtain ⟨hjun, oj, hoj, hall⟩ := mem_ready.1 hj
      have huj := hu_of listed j hls hinv hinv2 hj hji
      obtain ⟨hcj, hap⟩ := hgood j oj hoj huj
      have h2 := wpOp_putAt hoj hap (fun cs b => hsel i oi cs b hi) (fun cs b => hsel j oj cs b hoj) hcj hy h1
      refine wpOp_mono (fun a' w' h3 => ?_) h2
      obtain ⟨rfl, hy', h3⟩ := h3
      refine ih (listed.setIfInBounds j true) a' w' (by simpa using hls) ?_ ?_ (ready_mono hr (Ne.symm hji)) hy' ?_
      · intro k hk
        by_cases hjk : j = k
        · subst hjk; exact .inr huj
        · rw [getD_set_ne false hjk] at hk; exact hinv k hk
      · intro k hk
        exact getD_set_true (hinv2 k hk)
      · rw [Array.setIfInBounds_comm _ _ hji]
        exact h3
end

/-- What may come ahead of i, while i has not come. -/
def ahead (md : Region.Mode) (ops : Array Oper) (listed : Array Bool) (i : Nat) : Array Bool :=
  (List.range ops.size).foldl (fun u j => u.push (j != i && !listed.getD j true && ((ops[j]?).map (·.after.all fun e => !Region.binds md e || listed.getD e.on false || u.getD e.on false)).getD false)) #[]
def calmTake (calmB : Oper → Bool) (md : Region.Mode) (ops : Array Oper) (listed : Array Bool) (i : Nat) : Bool :=
  let u := ahead md ops listed i
  match ops[i]? with
  | none => false
  | some oi => calmB oi && !u.getD i false && !listed.getD i true && listed.size == ops.size && (List.range ops.size).all fun j =>
      (j == i || listed.getD j true || u.getD j false || ((ops[j]?).map fun oj => !(oj.after.all fun e => !Region.binds md e || listed.getD e.on false || u.getD e.on false)).getD false) &&
      (!u.getD j false || ((ops[j]?).map fun oj => calmB oj && oi.apart ops oj).getD false)
def typedTake (P : Program) (md : Region.Mode) (ops : Array Oper) (listed : Array Bool) (i : Nat) : Bool :=
  ((ops[i]?).map (typedB P)).getD false && Region.free md ops listed i
def takes (P : Program) (calmB : Oper → Bool) (md : Region.Mode) (ops : Array Oper) (listed : Array Bool) (i : Nat) : Bool :=
  (((ops[i]?).map (wiB P)).getD false && Region.free md ops listed i) || calmTake calmB md ops listed i
/-- The orders that are walked: a row of operations, and where several may come next, one after the other. -/
inductive Plan where
  | leaf (l : List Nat)
  | fork (l : List Nat) (x y : Plan)
  | check (l : List Nat) (i : Nat) (x : Plan)
def Plan.cons (i : Nat) : Plan → Plan
  | .leaf l => .leaf (i :: l)
  | .fork l x y => .fork (i :: l) x y
  | .check l j x => .check (i :: l) j x
def plan (P : Program) (calmB : Oper → Bool) (md : Region.Mode) (ops : Array Oper) : Nat → Array Bool → Option Plan
  | 0, listed => if (Region.ready md ops listed).isEmpty then some (.leaf []) else none
  | n + 1, listed =>
    match Region.ready md ops listed with
    | [] => some (.leaf [])
    | r :: rs =>
      match (r :: rs).find? (takes P calmB md ops listed) with
      | some i => (plan P calmB md ops n (listed.setIfInBounds i true)).map (.cons i)
      | none =>
        match (if rs.isEmpty then none else (r :: rs).find? (typedTake P md ops listed)) with
        | some i => (plan P calmB md ops n (listed.setIfInBounds i true)).map fun p => .check [] i (p.cons i)
        | none => rs.foldr (fun i acc => match plan P calmB md ops n (listed.setIfInBounds i true), acc with | some p, some q => some (.fork [] (p.cons i) q) | _, _ => none)
            ((plan P calmB md ops n (listed.setIfInBounds r true)).map (.cons r))

section
variable {P : Program} {ops : Array Oper} {Q : Exit → Act → World → Prop} {md : Region.Mode} {calmB : Oper → Bool}

theorem calmTake_sound (hcalm : ∀ o, calmB o = true → Calm P o) (hsel : Region.noSelect ops = true) {i : Nat} {oi : Oper} {v : Value} (hi : ops[i]? = some oi) {listed : Array Bool} (h : calmTake calmB md ops listed i = true)
    {n : Nat} {a : Act} {w : World} (hr : i ∈ Region.ready md ops listed) (hy : YieldsAt P ops oi v a w)
    (H : wpAny P md ops (Clean Q) n (listed.setIfInBounds i true) (a.put oi.dst v) w) : wpAny P md ops (Clean Q) (n + 1) listed a w := by
  simp only [calmTake, hi, Bool.and_eq_true, Bool.not_eq_true', List.all_eq_true, List.mem_range, beq_iff_eq] at h
  obtain ⟨⟨⟨⟨_, hu⟩, hl⟩, hsz⟩, hall⟩ := h
  refine wpAny_calm hi (fun j o cs b ho => Region.noSelect_spec hsel j o cs b ho) listed (fun k => (ahead md ops listed i).getD k false) ?_ ?_ hu hl hsz n listed a w hsz (fun k hk => .inl hk) (fun k hk => hk) hr hy H
  · intro j oj hj hji hLj he
    have h1 := (hall j (Array.getElem?_eq_some_iff.1 hj).1).1
    simp only [hj, Option.map_some, Option.getD_some, Bool.or_eq_true, beq_iff_eq, hji, hLj, false_or, Bool.false_eq_true] at h1
    rcases h1 with h1 | h1
    · exact h1
    · exfalso
      rw [Bool.not_eq_true', ← Bool.not_eq_true, Array.all_eq_true_iff_forall_mem] at h1
      refine h1 fun e hem => ?_
      cases hb : Region.binds md e
      · simp
      · rcases he e hem hb with h | h <;> simp_all
  · intro j oj hj huj
    have h1 := (hall j (Array.getElem?_eq_some_iff.1 hj).1).2
    simp only [hj, Option.map_some, Option.getD_some, huj, Bool.not_true, Bool.false_or, Bool.and_eq_true] at h1
    exact ⟨hcalm _ h1.1, h1.2⟩

/-- The plan's walk. -/
def wpPlan (P : Program) (ops : Array Oper) (Q : Exit → Act → World → Prop) : Plan → Act → World → Prop
  | .leaf l => wpOps P ops (Exit.then (fun a w => Q .normal a w) (Clean Q)) l
  | .fork l x y => wpOps P ops (Exit.then (fun a w => wpPlan P ops Q x a w ∧ wpPlan P ops Q y a w) (Clean Q)) l
  | .check l i x => wpOps P ops (Exit.then (fun a w => TypedAt ops i a ∧ wpPlan P ops Q x a w) (Clean Q)) l

theorem wpOp_then {i : Nat} {N : Act → World → Prop} {K : Act → World → Prop} {a : Act} {w : World} (h : wpOp P ops (Exit.then N (Clean Q)) i K a w) : wpOp P ops (Clean Q) i K a w := by
  unfold wpOp at *
  cases hi : ops[i]? with
  | none => simpa [hi] using h
  | some o =>
    simp only [hi] at h ⊢
    split
    · rename_i hw
      simp only [hw, if_true] at h
      rcases h with h | ⟨_, a', w', h⟩
      · refine .inl ?_
        unfold Oper.wp at *
        generalize (execOp a.eval o).run P w = r at *
        cases r with
        | ok n w' =>
          cases n <;> simp only [Oper.upon] at h ⊢
          case enter f args =>
            refine Calls.mono h fun e w'' he => ?_
            cases e with
            | returned u => exact he
            | panicked c => exact he
            | outgrown =>
              obtain ⟨a1, w1, he⟩ := he
              exact (he : False).elim
          all_goals exact h
        | halt x w' => cases x <;> simp only [Oper.upon] at h ⊢; exact h
      · exact (h : False).elim
    · rename_i hw
      simp only [hw] at h
      exact h
theorem wpPlan_cons {i : Nat} {p : Plan} {a : Act} {w : World} (h : wpPlan P ops Q (p.cons i) a w) : wpOp P ops (Clean Q) i (wpPlan P ops Q p) a w := by
  cases p with
  | leaf l =>
    simp only [Plan.cons, wpPlan, wpOps_cons] at h ⊢
    exact wpOp_then h
  | fork l x y =>
    simp only [Plan.cons, wpPlan, wpOps_cons] at h ⊢
    exact wpOp_then h
  | check l j x =>
    simp only [Plan.cons, wpPlan, wpOps_cons] at h ⊢
    exact wpOp_then h

theorem plan_sound (hcalm : ∀ o, calmB o = true → Calm P o) (hsel : Region.noSelect ops = true) :
    ∀ (n : Nat) (listed : Array Bool) (p : Plan), plan P calmB md ops n listed = some p → ∀ (a : Act) (w : World), wpPlan P ops Q p a w → wpAny P md ops (Clean Q) n listed a w := by
  intro n
  induction n with
  | zero =>
    intro listed p h
    simp only [plan] at h
    split at h
    · rename_i hr
      injection h with h; subst h
      intro a w H
      refine ⟨by simpa using hr, ?_⟩
      show Q .normal a w
      simpa [wpPlan, wpOps, Exit.then] using H
    · cases h
  | succ n ih =>
    intro listed p h
    simp only [plan] at h
    cases hr : Region.ready md ops listed with
    | nil =>
      rw [hr] at h
      injection h with h; subst h
      intro a w H
      refine ⟨fun _ => ?_, fun i hi => by rw [hr] at hi; cases hi⟩
      show Q .normal a w
      simpa [wpPlan, wpOps, Exit.then] using H
    | cons r rs =>
      rw [hr] at h
      simp only at h
      cases hf : (r :: rs).find? (takes P calmB md ops listed) with
      | some i =>
        rw [hf] at h
        simp only [Option.map_eq_some_iff] at h
        obtain ⟨p', hp', rfl⟩ := h
        intro a w H
        have hti := List.find?_some hf
        have himem : i ∈ Region.ready md ops listed := by rw [hr]; exact List.mem_of_find?_eq_some hf
        obtain ⟨_, oi, hi, _⟩ := mem_ready.1 himem
        have hcalmi : Calm P oi := by
          simp only [takes, hi, Option.map_some, Option.getD_some, Bool.or_eq_true, Bool.and_eq_true] at hti
          rcases hti with ⟨h1, _⟩ | h1
          · exact (wiB_sound P h1).calm
          · simp only [calmTake, hi, Bool.and_eq_true] at h1
            exact hcalm _ h1.1.1.1.1
        obtain ⟨v, hy, hK⟩ := calm_step hi hcalmi (wpPlan_cons H)
        have hrest := ih _ _ hp' _ _ hK
        simp only [takes, hi, Option.map_some, Option.getD_some, Bool.or_eq_true, Bool.and_eq_true] at hti
        rcases hti with ⟨h1, h2⟩ | h1
        · exact wpAny_take hi hsel h2 (by simpa using himem) (fun _ _ _ h => h) (yields_of_wi (wiB_sound P h1) hy) hrest
        · exact calmTake_sound hcalm hsel hi h1 himem hy hrest
      | none =>
        rw [hf] at h
        simp only at h
        cases hg : (if rs.isEmpty then none else (r :: rs).find? (typedTake P md ops listed)) with
        | some i =>
          rw [hg] at h
          simp only [Option.map_eq_some_iff] at h
          obtain ⟨p', hp', rfl⟩ := h
          intro a w H
          have hfi : (r :: rs).find? (typedTake P md ops listed) = some i := by
            split at hg
            · cases hg
            · exact hg
          have hti := List.find?_some hfi
          have himem : i ∈ Region.ready md ops listed := by rw [hr]; exact List.mem_of_find?_eq_some hfi
          obtain ⟨_, oi, hi, _⟩ := mem_ready.1 himem
          simp only [typedTake, hi, Option.map_some, Option.getD_some, Bool.and_eq_true] at hti
          have H' : TypedAt ops i a ∧ wpPlan P ops Q (p'.cons i) a w := by simpa [wpPlan, wpOps, Exit.then] using H
          have hwi : Region.wanted oi (yielded ops a.tmps) = true → WIat P oi a.eval := by
            intro hw
            have ht := H'.1
            simp only [TypedAt, hi] at ht
            exact typed_wi hti.1 (ht hw)
          obtain ⟨v, hy, hK⟩ := calm_step' hi (fun hw n w1 hrun => by
            obtain ⟨v, rfl, hv⟩ := hwi hw w n w1 hrun
            rw [hv w] at hrun
            injection hrun with _ h2
            exact ⟨h2.symm, v, rfl⟩) (wpPlan_cons H'.2)
          exact wpAny_take hi hsel hti.2 (by simpa using himem) (fun _ _ _ h => h) (yields_of_typed hwi hy) (ih _ _ hp' _ _ hK)
        | none =>
          rw [hg] at h
          simp only at h
          have key : ∀ (l : List Nat) (p : Plan), l.foldr (fun i acc => match plan P calmB md ops n (listed.setIfInBounds i true), acc with | some p, some q => some (.fork [] (p.cons i) q) | _, _ => none)
              ((plan P calmB md ops n (listed.setIfInBounds r true)).map (.cons r)) = some p →
              ∀ a w, wpPlan P ops Q p a w → ∀ i ∈ r :: l, wpOp P ops (Clean Q) i (wpAny P md ops (Clean Q) n (listed.setIfInBounds i true)) a w := by
            intro l
            induction l with
            | nil =>
              intro p hp a w H i hi
              simp only [List.foldr_nil, Option.map_eq_some_iff] at hp
              obtain ⟨p', hp', rfl⟩ := hp
              obtain rfl : i = r := by simpa using hi
              exact wpOp_mono (fun a w h => ih _ _ hp' a w h) (wpPlan_cons H)
            | cons j l ihl =>
              intro p hp a w H i hi
              simp only [List.foldr_cons] at hp
              cases hpj : plan P calmB md ops n (listed.setIfInBounds j true) with
              | none => rw [hpj] at hp; simp at hp
              | some pj =>
                rw [hpj] at hp
                cases hq : l.foldr (fun i acc => match plan P calmB md ops n (listed.setIfInBounds i true), acc with | some p, some q => some (Plan.fork [] (p.cons i) q) | _, _ => none)
                    ((plan P calmB md ops n (listed.setIfInBounds r true)).map (.cons r)) with
                | none => rw [hq] at hp; simp at hp
                | some q =>
                  rw [hq] at hp
                  simp only [Option.some.injEq] at hp
                  subst hp
                  have H' : wpPlan P ops Q (pj.cons j) a w ∧ wpPlan P ops Q q a w := by simpa [wpPlan, wpOps, Exit.then] using H
                  rcases List.mem_cons.1 hi with rfl | hi
                  · exact ihl q hq a w H'.2 i (by simp)
                  · rcases List.mem_cons.1 hi with rfl | hi
                    · exact wpOp_mono (fun a w h => ih _ _ hpj a w h) (wpPlan_cons H'.1)
                    · exact ihl q hq a w H'.2 i (by simp [hi])
          intro a w H
          exact wpAny_all hr (by simp) (key _ _ h a w H)

/-- A STATEMENT WHOSE ORDER IS OPEN, by its plan. -/
theorem region_plan (hcalm : ∀ o, calmB o = true → Calm P o) {id : Nat} {a : Act} {w : World} (t : Plan) (hm : P.follows .mixedOrders = true) (hsel : Region.noSelect ops = true)
    (ht : plan P calmB .any ops ops.size (Array.replicate ops.size false) = some t) (h : wpPlan P ops Q t a w.drew) : (Code.region id ops true).wp P Q a w :=
  Code.wp_mono Clean.imp (wp_region_any hm (plan_sound hcalm hsel _ _ _ ht _ _ h))

theorem wpOps_list (l : List Nat) (a : Act) (w : World) : wpOps P ops Q l a w = wpList P ops Q (l.filterMap (ops[·]?)) a w := by
  induction l generalizing a w with
  | nil => rfl
  | cons i l ih =>
    have ih' : wpOps P ops Q l = wpList P ops Q (l.filterMap (ops[·]?)) := by funext a w; exact ih a w
    rw [wpOps_cons]
    unfold wpOp
    cases hi : ops[i]? with
    | none => simp only [List.filterMap_cons, hi, ih']
    | some o => simp only [List.filterMap_cons, hi, ih', wpList]
theorem wpPlan_leaf {l : List Nat} {a : Act} {w : World} (h : ∀ K : Act → World → Prop, (∀ a w, Q .normal a w → K a w) → wpList P ops (Exit.then K (Clean Q)) (l.filterMap (ops[·]?)) a w) : wpPlan P ops Q (.leaf l) a w := by
  simp only [wpPlan, wpOps_list]; exact h _ fun _ _ h => h
theorem wpPlan_fork {l : List Nat} {x y : Plan} {a : Act} {w : World} (h : ∀ K : Act → World → Prop, (∀ a w, wpPlan P ops Q x a w → wpPlan P ops Q y a w → K a w) → wpList P ops (Exit.then K (Clean Q)) (l.filterMap (ops[·]?)) a w) : wpPlan P ops Q (.fork l x y) a w := by
  simp only [wpPlan, wpOps_list]; exact h _ fun _ _ h h' => ⟨h, h'⟩
theorem wpPlan_check {l : List Nat} {i : Nat} {x : Plan} {a : Act} {w : World} (h : ∀ K : Act → World → Prop, (∀ a w, TypedAt ops i a → wpPlan P ops Q x a w → K a w) → wpList P ops (Exit.then K (Clean Q)) (l.filterMap (ops[·]?)) a w) : wpPlan P ops Q (.check l i x) a w := by
  simp only [wpPlan, wpOps_list]; exact h _ fun _ _ h h' => ⟨h, h'⟩
end

/-- Wherever it yields, memory is as it was. -/
def CalmS {α : Type} (s : Sem α) : Prop := ∀ (P : Program) (w : World) (v : α) (w1 : World), s.run P w = .ok v w1 → w1 = w
theorem CalmS.pure {α : Type} (a : α) : CalmS (pure a : Sem α) := fun P w v w1 h => by
  simp only [Sem.run_pure] at h; injection h with _ h; exact h.symm
theorem CalmS.bind {α β : Type} {s : Sem α} {f : α → Sem β} (hs : CalmS s) (hf : ∀ a, CalmS (f a)) : CalmS (s >>= f) := fun P w v w1 h => by
  rw [Sem.run_bind] at h
  cases hr : s.run P w with
  | ok a w2 =>
    rw [hr] at h
    simp only [Result.andThen_ok] at h
    rw [hf a P w2 v w1 h, hs P w a w2 hr]
  | halt x w2 => rw [hr] at h; cases h
theorem CalmS.load (a : Addr) : CalmS (Go.load a) := fun P w v w1 h => by
  unfold Go.load Sem.run at h
  cases hc : w.cell? a with
  | some u => rw [hc] at h; simp only [Sem.run] at h; injection h with _ h; exact h.symm
  | none =>
    rw [hc] at h
    simp only at h
    split at h
    · simp only [Sem.run] at h; injection h with _ h; exact h.symm
    · cases h
theorem CalmS.loadCellsFrom (a : Addr) : ∀ (n i : Nat) (acc : Array Value), CalmS (Go.loadCellsFrom a i n acc)
  | 0, i, acc => CalmS.pure acc
  | n + 1, i, acc => CalmS.bind (CalmS.load _) fun v => CalmS.loadCellsFrom a n (i + 1) (acc.push v)
theorem WIS.calm {α : Type} {s : Sem α} (h : WIS s) : CalmS s := fun P w v w1 hr => by
  have := h P w v w1 hr w
  rw [hr] at this
  injection this
theorem CalmS.loadVar (t : TypeId) (a : Addr) : CalmS (loadVar t a) := by
  unfold Go.loadVar
  refine CalmS.bind ?_ fun b => ?_
  · unfold Go.isAgg
    refine CalmS.bind (WIS.underlying _).calm fun d => ?_
    split <;> exact CalmS.pure _
  · split
    · exact CalmS.bind (WIS.sizeOf _).calm fun n => CalmS.bind (CalmS.loadCellsFrom _ _ _ _) fun _ => CalmS.pure _
    · exact CalmS.load _
theorem CalmS.loadAt (t : TypeId) (v : Value) : CalmS (Instr.loadAt t v) := CalmS.bind (WIS.sureAddr _).calm fun a => CalmS.loadVar _ _
theorem Calm.of_value {P : Program} {s : Sem Value} (hs : CalmS s) {w : World} {n : Next} {w1 : World} (hr : (do pure (Next.value (← s)) : Sem Next).run P w = .ok n w1) : w1 = w ∧ ∃ v, n = .value v := by
  rw [Sem.run_bind] at hr
  cases hc : s.run P w with
  | ok v w2 =>
    rw [hc] at hr
    simp only [Result.andThen_ok, Sem.run_pure] at hr
    injection hr with h1 h2
    subst h2
    exact ⟨hs P w v _ hc, v, h1.symm⟩
  | halt x w2 => rw [hc] at hr; cases hr
theorem CalmS.stuck {α : Type} (s : String) : CalmS (stuck s : Sem α) := fun P w v w1 h => by
  simp [stuck, Sem.run] at h
theorem CalmS.forIn {α β : Type} (l : List α) (f : α → β → Sem (ForInStep β)) (hf : ∀ a b, CalmS (f a b)) : ∀ b, CalmS (forIn l b f) := by
  induction l with
  | nil => intro b; exact CalmS.pure b
  | cons a l ih =>
    intro b
    rw [List.forIn_cons]
    refine CalmS.bind (hf a b) fun r => ?_
    cases r with
    | done b => exact CalmS.pure b
    | yield b => exact ih b
theorem CalmS.bytesToString (x : Value) : CalmS (Conv.bytesToString x) := by
  unfold Conv.bytesToString
  cases x <;> try exact CalmS.stuck _
  rename_i a l c
  cases a with
  | none => exact CalmS.pure _
  | some a =>
    refine CalmS.bind (CalmS.loadCellsFrom a l 0 #[]) fun cs => ?_
    rw [Array.forIn_toList.symm]
    refine CalmS.bind (CalmS.forIn _ _ (fun c s => ?_) _) fun s => CalmS.pure _
    cases c <;> try exact CalmS.stuck _
    rename_i k n
    cases k <;> first | exact CalmS.stuck _ | exact CalmS.pure _

def isU8 : Option TypeDesc → Bool
  | some (.int .u8) => true
  | _ => false
def isStr : Option TypeDesc → Bool
  | some .string => true
  | _ => false
def isBytes (P : Program) : Option TypeDesc → Bool
  | some (.slice e) => isU8 (P.underlying e)
  | _ => false
/-- Calm operations, by what the program's types say. -/
def calmB (P : Program) (o : Oper) : Bool :=
  wiB P o || (match o.op with
    | .load .. => true
    | .convert src dst _ => isBytes P (P.underlying src) && isStr (P.underlying dst)
    | _ => false)
theorem convert_calm (P : Program) (src dst : TypeId) (x : Operand) {odst : Option Tmp} {type : TypeId} {pos : String} {after : Array Edge} {guard : Option (Nat × Bool)}
    (h : (isBytes P (P.underlying src) && isStr (P.underlying dst)) = true) : Calm P { dst := odst, op := .convert src dst x, type := type, pos := pos, after := after, guard := guard } := by
  simp only [Bool.and_eq_true] at h
  obtain ⟨h1, h2⟩ := h
  cases hs : P.underlying src with
  | none => rw [hs] at h1; cases h1
  | some ds =>
    rw [hs] at h1
    cases ds <;> simp only [isBytes] at h1 <;> try (cases h1)
    rename_i e
    cases he : P.underlying e with
    | none => rw [he] at h1; cases h1
    | some de =>
      rw [he] at h1
      cases de <;> simp only [isU8] at h1 <;> try (cases h1)
      rename_i k
      cases k <;> simp only at h1 <;> try (cases h1)
      cases hd : P.underlying dst with
      | none => rw [hd] at h2; cases h2
      | some dd =>
        rw [hd] at h2
        cases dd <;> simp only [isStr] at h2 <;> try (cases h2)
        intro ρ w n w1 hr
        have key : ∀ (y : Value) (v : Value) (w2 : World), (convert src dst y).run P w = .ok v w2 → w2 = w := by
          intro y v w2 hy
          cases y <;> simp [convert, run_underlying hs, run_underlying hd, run_underlying he] at hy
          all_goals first | exact CalmS.bytesToString _ P w v w2 hy | (exact (hy.2).symm) | (simp [Conv.intToString] at hy; exact hy.2.symm)
        simp only [execOp] at hr
        rw [Sem.run_bind] at hr
        cases hc : (convert src dst (ρ x)).run P w with
        | ok v w2 =>
          rw [hc] at hr
          simp only [Result.andThen_ok, Sem.run_pure] at hr
          injection hr with h3 h4
          subst h4
          exact ⟨key _ _ _ hc, v, h3.symm⟩
        | halt y w2 => rw [hc] at hr; cases hr
theorem calmB_sound (P : Program) (o : Oper) (h : calmB P o = true) : Calm P o := by
  simp only [calmB, Bool.or_eq_true] at h
  rcases h with h | h
  · exact (wiB_sound P h).calm
  obtain ⟨odst, op, type, pos, after, guard⟩ := o
  cases op with
  | load t a => exact fun ρ w n w1 hr => Calm.of_value (CalmS.loadAt _ _) hr
  | convert src dst x => exact convert_calm P src dst x h
  | _ => cases h
end Go.Proofs.YtaghecgjmkhpcaaGreatDoor

namespace Go.Proofs.YtaghecgjmkhpcaaGreatDoor
set_option linter.unusedVariables false
set_option linter.unusedSimpArgs false
open Go

/-- It yields a value, and makes at most one block. -/
def Mild (P : Program) (o : Oper) : Prop := ∀ (ρ : Operand → Value) (w : World) (n : Next) (w1 : World), (execOp ρ o).run P w = .ok n w1 → (w1 = w ∨ ∃ b, w1 = w.alloc b) ∧ ∃ v, n = .value v
/-- What it yields it yields behind a new block too. -/
def Stay (P : Program) (o : Oper) : Prop := ∀ (ρ : Operand → Value) (w : World) (v : Value), (execOp ρ o).run P w = .ok (.value v) w → ∀ b, (execOp ρ o).run P (w.alloc b) = .ok (.value v) (w.alloc b)
theorem Calm.mild {P : Program} {o : Oper} (h : Calm P o) : Mild P o := fun ρ w n w1 hr => ⟨.inl (h ρ w n w1 hr).1, (h ρ w n w1 hr).2⟩
theorem WI.stay {P : Program} {o : Oper} (h : WI P o) : Stay P o := fun ρ w v hr b => by
  obtain ⟨v', h1, h2⟩ := h ρ w _ _ hr
  injection h1 with h1; subst h1
  exact h2 _
/-! ### Semantics that stay -/
def StayS {α : Type} (s : Sem α) : Prop := ∀ (P : Program) (w : World) (v : α) (w1 : World), s.run P w = .ok v w1 → w1 = w ∧ ∀ b, s.run P (w.alloc b) = .ok v (w.alloc b)
theorem WIS.stay {α : Type} {s : Sem α} (h : WIS s) : StayS s := fun P w v w1 hr => by
  have := h P w v w1 hr w
  rw [hr] at this
  injection this with _ this
  exact ⟨this, fun b => h P w v w1 hr _⟩
theorem StayS.pure {α : Type} (a : α) : StayS (pure a : Sem α) := (WIS.pure a).stay
theorem StayS.bind {α β : Type} {s : Sem α} {f : α → Sem β} (hs : StayS s) (hf : ∀ a, StayS (f a)) : StayS (s >>= f) := fun P w v w1 h => by
  rw [Sem.run_bind] at h
  cases hr : s.run P w with
  | ok a w2 =>
    rw [hr] at h
    simp only [Result.andThen_ok] at h
    obtain ⟨rfl, h2⟩ := hs P w a w2 hr
    obtain ⟨rfl, h4⟩ := hf a P _ v w1 h
    refine ⟨rfl, fun b => ?_⟩
    rw [Sem.run_bind, h2 b, Result.andThen_ok, h4 b]
  | halt x w2 => rw [hr] at h; cases h
theorem heap_alloc_lt (w : World) (b : Obj) {k : Nat} {o : Obj} (h : w.heap[k]? = some o) : (w.alloc b).heap[k]? = some o := by
  have hk : k < w.heap.size := by
    rcases Nat.lt_or_ge k w.heap.size with h' | h'
    · exact h'
    · rw [Array.getElem?_eq_none (by exact h')] at h; cases h
  rw [← h]
  show (w.heap.push b)[k]? = _
  rw [Array.getElem?_push, if_neg (by omega)]
theorem seen_stay {p : Program} {w : World} {at_ : Addr} {u : TypeId} {k : Addr} {m : Bool} {r} (h : w.seen p at_ u k m = .ok r) (b : Obj) : (w.alloc b).seen p at_ u k m = .ok r := by
  cases hh : w.heap[at_.block]? with
  | some o =>
    have e := heap_alloc_lt w b hh
    rw [← h]
    unfold World.seen
    rw [e, hh]
  | none =>
    exfalso
    unfold World.seen at h
    rw [hh] at h
    simp only [bind, Except.bind, pure, Except.pure, throw, throwThe, MonadExceptOf.throw] at h
    repeat' (first | (cases h; done) | split at h | simp only [] at h)
theorem view_stay {p : Program} {w : World} {at_ : Addr} {u : TypeId} {k : Addr} {m : Bool} {r} (h : w.viewLoad p at_ u k m = .ok r) (b : Obj) : (w.alloc b).viewLoad p at_ u k m = .ok r := by
  unfold World.viewLoad at h ⊢
  cases hs : w.seen p at_ u k m with
  | error x => rw [hs] at h; simp only [bind, Except.bind] at h; cases h
  | ok y => rw [seen_stay hs b]; rw [hs] at h; exact h
theorem StayS.load (a : Addr) : StayS (Go.load a) := fun P w v w1 h => by
  unfold Go.load Sem.run at h
  cases hc : w.cell? a with
  | some u =>
    rw [hc] at h
    simp only [Sem.run] at h
    injection h with h1 h2
    subst h1 h2
    refine ⟨rfl, fun b => ?_⟩
    have hc' : (w.alloc b).cell? a = some u := by
      unfold World.cell? at hc ⊢
      cases hh : w.heap[a.block]? with
      | none => rw [hh] at hc; cases hc
      | some o => rw [heap_alloc_lt w b hh]; rw [hh] at hc; exact hc
    unfold Go.load Sem.run
    rw [hc']
    rfl
  | none =>
    rw [hc] at h
    simp only at h
    cases hf : w.farLoad P a false with
    | error x => 
      have : (Mode.plain == Mode.atomic) = false := rfl
      rw [this, hf] at h; cases h
    | ok y =>
      have hm : (Mode.plain == Mode.atomic) = false := rfl
      rw [hm, hf] at h
      simp only [Sem.run] at h
      injection h with h1 h2
      subst h1 h2
      refine ⟨rfl, fun b => ?_⟩
      unfold World.farLoad at hf
      cases hh : w.heap[a.block]? with
      | none => rw [hh] at hf; cases hf
      | some o =>
        rw [hh] at hf
        have hc' : (w.alloc b).cell? a = none := by
          unfold World.cell? at hc ⊢
          rw [heap_alloc_lt w b hh]; rw [hh] at hc; exact hc
        have hf' : (w.alloc b).farLoad P a false = .ok y := by
          unfold World.farLoad
          rw [heap_alloc_lt w b hh]
          cases o <;> simp only at hf ⊢ <;> try (cases hf; done)
          rename_i at_ u
          cases hv : w.viewLoad P at_ u a false with
          | error x => rw [hv] at hf; cases hf
          | ok z => rw [view_stay hv b]; rw [hv] at hf; exact hf
        unfold Go.load Sem.run
        rw [hc', hm, hf']
        rfl
theorem StayS.loadCellsFrom (a : Addr) : ∀ (n i : Nat) (acc : Array Value), StayS (Go.loadCellsFrom a i n acc)
  | 0, i, acc => StayS.pure acc
  | n + 1, i, acc => StayS.bind (StayS.load _) fun v => StayS.loadCellsFrom a n (i + 1) (acc.push v)
theorem StayS.loadVar (t : TypeId) (a : Addr) : StayS (loadVar t a) := by
  unfold Go.loadVar
  refine StayS.bind ?_ fun b => ?_
  · unfold Go.isAgg
    refine StayS.bind (WIS.underlying _).stay fun d => ?_
    split <;> exact StayS.pure _
  · split
    · exact StayS.bind (WIS.sizeOf _).stay fun n => StayS.bind (StayS.loadCellsFrom _ _ _ _) fun _ => StayS.pure _
    · exact StayS.load _
theorem StayS.loadAt (t : TypeId) (v : Value) : StayS (Instr.loadAt t v) := StayS.bind (WIS.sureAddr _).stay fun a => StayS.loadVar _ _
/-- Wherever it yields, it has made at most one block. -/
def MildS {α : Type} (s : Sem α) : Prop := ∀ (P : Program) (w : World) (v : α) (w1 : World), s.run P w = .ok v w1 → w1 = w ∨ ∃ b, w1 = w.alloc b
theorem CalmS.mild {α : Type} {s : Sem α} (h : CalmS s) : MildS s := fun P w v w1 hr => .inl (h P w v w1 hr)
theorem MildS.bind {α β : Type} {s : Sem α} {f : α → Sem β} (hs : CalmS s) (hf : ∀ a, MildS (f a)) : MildS (s >>= f) := fun P w v w1 h => by
  rw [Sem.run_bind] at h
  cases hr : s.run P w with
  | ok a w2 =>
    rw [hr] at h
    simp only [Result.andThen_ok] at h
    obtain rfl := hs P w a w2 hr
    exact hf a P _ v w1 h
  | halt x w2 => rw [hr] at h; cases h
theorem MildS.then {α β : Type} {s : Sem α} {f : α → Sem β} (hs : MildS s) (hf : ∀ a, CalmS (f a)) : MildS (s >>= f) := fun P w v w1 h => by
  rw [Sem.run_bind] at h
  cases hr : s.run P w with
  | ok a w2 =>
    rw [hr] at h
    simp only [Result.andThen_ok] at h
    obtain rfl := hf a P w2 v w1 h
    exact hs P w a _ hr
  | halt x w2 => rw [hr] at h; cases h
theorem MildS.ite {α : Type} {c : Prop} [Decidable c] {x y : Sem α} (hx : MildS x) (hy : MildS y) : MildS (if c then x else y) := by split <;> assumption
theorem MildS.newRow (e : TypeId) (cs : Array Value) : MildS (Go.newRow e cs) := by
  unfold Go.newRow
  refine MildS.then ?_ fun _ => CalmS.pure _
  intro P w v w1 h
  unfold Go.newObj at h
  simp only [Sem.run] at h
  injection h with _ h
  exact .inr ⟨_, h.symm⟩
theorem CalmS.zeroValue (t : TypeId) : CalmS (Go.zeroValue t) := by
  unfold Go.zeroValue
  refine CalmS.bind (WIS.typeInfo _).calm fun i => ?_
  split
  · exact CalmS.pure _
  · exact (NeverOk.unsupported _).wis.calm
theorem MildS.newVar (t : TypeId) (v : Value) : MildS (Go.newVar t v) := MildS.newRow _ _
theorem MildS.alloc (t : TypeId) : MildS (Instr.alloc t true (.tuple #[])) := by
  unfold Instr.alloc
  refine MildS.bind (CalmS.zeroValue _) fun z => ?_
  exact MildS.then (MildS.newVar _ _) fun _ => CalmS.pure _
theorem MildS.box (t : TypeId) (v : Value) : MildS (Instr.box t v) := MildS.then (MildS.newVar _ _) fun _ => CalmS.pure _
theorem MildS.buildSlice (t : TypeId) (n : Nat) (ps : Array (Nat × Value)) : MildS (Instr.buildSlice t n ps) := by
  unfold Instr.buildSlice
  refine MildS.bind (WIS.underlying _).calm fun d => ?_
  split
  · refine MildS.bind (WIS.sizeOf _).calm fun sz => ?_
    have hn : ∀ (f : PUnit → Sem Value) (u : Unsupported), MildS (unsupported u >>= f) := fun f u => CalmS.mild (WIS.calm (NeverOk.wis (NeverOk.bind_left (NeverOk.unsupported u))))
    dsimp only
    refine MildS.ite (hn _ _) (MildS.ite ?_ ?_)
    · refine MildS.bind (CalmS.pure _) fun zero => ?_
      cases Instr.fill (fun i => some (i * sz, sz)) (Array.map (fun x => zero[x % zero.size]!) (Array.range (n * sz))) ps.toList with
      | none => exact (CalmS.stuck _).mild
      | some cells => exact MildS.then (MildS.newRow _ _) fun _ => CalmS.pure _
    · refine MildS.bind (CalmS.zeroValue _) fun z => MildS.bind (CalmS.pure _) fun zero => ?_
      cases Instr.fill (fun i => some (i * sz, sz)) (Array.map (fun x => zero[x % zero.size]!) (Array.range (n * sz))) ps.toList with
      | none => exact (CalmS.stuck _).mild
      | some cells => exact MildS.then (MildS.newRow _ _) fun _ => CalmS.pure _
  · exact (CalmS.stuck _).mild
theorem Mild.of_value {P : Program} {s : Sem Value} (hs : MildS s) {w : World} {n : Next} {w1 : World} (hr : (do pure (Next.value (← s)) : Sem Next).run P w = .ok n w1) : (w1 = w ∨ ∃ b, w1 = w.alloc b) ∧ ∃ v, n = .value v := by
  rw [Sem.run_bind] at hr
  cases hc : s.run P w with
  | ok v w2 =>
    rw [hc] at hr
    simp only [Result.andThen_ok, Sem.run_pure] at hr
    injection hr with h1 h2
    subst h2
    exact ⟨hs P w v _ hc, v, h1.symm⟩
  | halt x w2 => rw [hc] at hr; cases hr
def makesB (o : Oper) : Bool := match o.op with
  | .alloc _ | .box .. | .buildSlice .. => true
  | _ => false
theorem makesB_sound (P : Program) (o : Oper) (h : makesB o = true) : Mild P o := by
  obtain ⟨odst, op, type, pos, after, guard⟩ := o
  cases op with
  | alloc t => exact fun ρ w n w1 hr => Mild.of_value (MildS.alloc t) hr
  | box t x => exact fun ρ w n w1 hr => Mild.of_value (MildS.box t _) hr
  | buildSlice t n ps => exact fun ρ w n w1 hr => Mild.of_value (MildS.buildSlice t _ _) hr
  | _ => cases h
def stayB (P : Program) (o : Oper) : Bool := wiB P o || (match o.op with | .load .. => true | _ => false)
theorem stayB_sound (P : Program) (o : Oper) (h : stayB P o = true) : Stay P o := by
  simp only [stayB, Bool.or_eq_true] at h
  rcases h with h | h
  · exact (wiB_sound P h).stay
  obtain ⟨odst, op, type, pos, after, guard⟩ := o
  cases op with
  | load t a =>
    intro ρ w v hr b
    simp only [execOp] at hr ⊢
    rw [Sem.run_bind] at hr ⊢
    cases hc : (Instr.loadAt t (ρ a)).run P w with
    | ok u w2 =>
      rw [hc] at hr
      simp only [Result.andThen_ok, Sem.run_pure] at hr
      injection hr with h1 h2
      subst h2
      rw [(StayS.loadAt t (ρ a) P _ u _ hc).2 b]
      simp only [Result.andThen_ok, Sem.run_pure]
      rw [h1]
    | halt x w2 => rw [hc] at hr; cases hr
  | _ => cases h

section
variable {P : Program} {ops : Array Oper} {Q : Exit → Act → World → Prop} {md : Region.Mode}
theorem mild_step {j : Nat} {oj : Oper} {K : Act → World → Prop} {a : Act} {w : World} (hj : ops[j]? = some oj) (hc : Mild P oj) (h : wpOp P ops (Clean Q) j K a w) :
    ∃ v w1, ((Region.wanted oj (yielded ops a.tmps) = true ∧ (execOp a.eval oj).run P w = .ok (.value v) w1) ∨ (Region.wanted oj (yielded ops a.tmps) = false ∧ v = undef ∧ w1 = w)) ∧ (w1 = w ∨ ∃ b, w1 = w.alloc b) ∧ K (a.put oj.dst v) w1 := by
  unfold wpOp at h
  simp only [hj] at h
  cases hw : Region.wanted oj (yielded ops a.tmps)
  · simp only [hw, Bool.false_eq_true, if_false] at h
    exact ⟨undef, w, .inr ⟨rfl, rfl, rfl⟩, .inl rfl, h⟩
  · simp only [hw, if_true] at h
    rcases h with h | ⟨_, h⟩
    case inr => exact (Clean.letsOut h).elim
    unfold Oper.wp at h
    cases hr : (execOp a.eval oj).run P w with
    | ok n w1 =>
      obtain ⟨hw1, v, rfl⟩ := hc _ _ _ _ hr
      rw [hr] at h
      exact ⟨v, w1, .inl ⟨rfl, rfl⟩, hw1, h⟩
    | halt x w1 =>
      rw [hr] at h
      cases x <;> simp only [Oper.upon] at h <;> exact (h : False).elim
theorem wpOp_of_run {j : Nat} {oj : Oper} {K : Act → World → Prop} {a : Act} {w w1 : World} {v : Value} (hj : ops[j]? = some oj)
    (h : (Region.wanted oj (yielded ops a.tmps) = true ∧ (execOp a.eval oj).run P w = .ok (.value v) w1) ∨ (Region.wanted oj (yielded ops a.tmps) = false ∧ v = undef ∧ w1 = w)) (hK : K (a.put oj.dst v) w1) : wpOp P ops (Clean Q) j K a w := by
  unfold Go.wpOp
  simp only [hj]
  rcases h with ⟨hw, hv⟩ | ⟨hw, rfl, rfl⟩
  · simp only [hw, if_true, Oper.wp, hv, Oper.upon]; exact .inl hK
  · simp only [hw, Bool.false_eq_true, if_false]; exact hK
theorem YieldsAt.stay {o : Oper} {v : Value} {a : Act} {w w1 : World} (h : YieldsAt P ops o v a w) (hs : Stay P o) (hw : w1 = w ∨ ∃ b, w1 = w.alloc b) : YieldsAt P ops o v a w1 := by
  rcases hw with rfl | ⟨b, rfl⟩
  · exact h
  · rcases h with ⟨h1, h2⟩ | h
    · exact .inl ⟨h1, hs _ _ _ h2 b⟩
    · exact .inr h
theorem wpOp_putMild {j : Nat} {oi oj : Oper} {v : Value} (hj : ops[j]? = some oj) (hap : oi.apart ops oj = true)
    (hsi : ∀ cs b, oi.op ≠ .select cs b) (hsj : ∀ cs b, oj.op ≠ .select cs b) (hcj : Mild P oj) (hst : Stay P oi) {K : Act → World → Prop} {a : Act} {w : World}
    (hy : YieldsAt P ops oi v a w) (h : wpOp P ops (Clean Q) j K (a.put oi.dst v) w) :
    wpOp P ops (Clean Q) j (fun a' w' => YieldsAt P ops oi v a' w' ∧ K (a'.put oi.dst v) w') a w := by
  obtain ⟨h1, h2, h3⟩ := Oper.apart_spec hap
  obtain ⟨u, w1, hu, hw1, hK⟩ := mild_step hj hcj h
  rw [execOp_put oj hsj a oi.dst v h1, wanted_put oj a oi.dst v h1] at hu
  refine wpOp_of_run hj hu ⟨(hy.of_same (execOp_put oi hsi a oj.dst u h3) (wanted_put oi a oj.dst u h3)).stay hst hw1, ?_⟩
  rw [← Act.put_comm a v u h2]
  exact hK
theorem wpAny_mild {i : Nat} {oi : Oper} {v : Value} (hi : ops[i]? = some oi) (hst : Stay P oi) (hsel : ∀ (j : Nat) (o : Oper) cs b, ops[j]? = some o → o.op ≠ .select cs b)
    (L0 : Array Bool) (u : Nat → Bool)
    (hcl : ∀ j oj, ops[j]? = some oj → j ≠ i → L0.getD j true = false → (∀ e ∈ oj.after, Region.binds md e = true → L0.getD e.on false = true ∨ u e.on = true) → u j = true)
    (hgood : ∀ j oj, ops[j]? = some oj → u j = true → Mild P oj ∧ oi.apart ops oj = true) (hui : u i = false) (hLi : L0.getD i true = false) (hsz : L0.size = ops.size) :
    ∀ (fuel : Nat) (listed : Array Bool) (a : Act) (w : World), listed.size = ops.size → (∀ k, listed.getD k false = true → L0.getD k false = true ∨ u k = true) → (∀ k, L0.getD k false = true → listed.getD k false = true) →
      i ∈ Region.ready md ops listed → YieldsAt P ops oi v a w →
      wpAny P md ops (Clean Q) fuel (listed.setIfInBounds i true) (a.put oi.dst v) w → wpAny P md ops (Clean Q) (fuel + 1) listed a w := by
  intro fuel
  have hu_of : ∀ (listed : Array Bool) (j : Nat), listed.size = ops.size → (∀ k, listed.getD k false = true → L0.getD k false = true ∨ u k = true) → (∀ k, L0.getD k false = true → listed.getD k false = true) →
      j ∈ Region.ready md ops listed → j ≠ i → u j = true := by
    intro listed j hls hinv hinv2 hj hji
    obtain ⟨hjun, oj, hoj, hall⟩ := mem_ready.1 hj
    refine hcl j oj hoj hji ?_ (fun e he hb => hinv _ (hall e he hb))
    have hlt : j < L0.size := by rw [hsz]; exact (Array.getElem?_eq_some_iff.1 hoj).1
    cases hL : L0.getD j true
    · rfl
    · have h1 : L0.getD j false = true := by
        simp [hlt] at hL ⊢
        exact hL
      have h2 := hinv2 j h1
      have hlt2 : j < listed.size := by rw [hls, ← hsz]; exact hlt
      simp [hlt2] at h2 hjun
      rw [h2] at hjun
      cases hjun
  induction fuel with
  | zero =>
    intro listed a w hls hinv hinv2 hr hy H
    refine ⟨fun h => (by rw [h] at hr; cases hr), fun j hj => ?_⟩
    by_cases hji : j = i
    · subst hji; exact hy.wpOp hi H
    · have := ready_mono hj hji
      rw [H.1] at this
      cases this
  | succ fuel ih =>
    intro listed a w hls hinv hinv2 hr hy H
    refine ⟨fun h => (by rw [h] at hr; cases hr), fun j hj => ?_⟩
    by_cases hji : j = i
    · subst hji; exact hy.wpOp hi H
    · have h1 := H.2 j (ready_mono hj hji)
      obtain ⟨hjun, oj, hoj, hall⟩ := mem_ready.1 hj
      have huj := hu_of listed j hls hinv hinv2 hj hji
      obtain ⟨hcj, hap⟩ := hgood j oj hoj huj
      have h2 := wpOp_putMild hoj hap (fun cs b => hsel i oi cs b hi) (fun cs b => hsel j oj cs b hoj) hcj hst hy h1
      refine wpOp_mono (fun a' w' h3 => ?_) h2
      obtain ⟨hy', h3⟩ := h3
      refine ih (listed.setIfInBounds j true) a' w' (by simpa using hls) ?_ ?_ (ready_mono hr (Ne.symm hji)) hy' ?_
      · intro k hk
        by_cases hjk : j = k
        · subst hjk; exact .inr huj
        · rw [getD_set_ne false hjk] at hk; exact hinv k hk
      · intro k hk
        exact getD_set_true (hinv2 k hk)
      · rw [Array.setIfInBounds_comm _ _ hji]
        exact h3
end

def lateTake (P : Program) (calmB : Oper → Bool) (md : Region.Mode) (ops : Array Oper) (listed : Array Bool) (i : Nat) : Bool :=
  let u := ahead md ops listed i
  match ops[i]? with
  | none => false
  | some oi => stayB P oi && calmB oi && !u.getD i false && !listed.getD i true && listed.size == ops.size && (List.range ops.size).all fun j =>
      (j == i || listed.getD j true || u.getD j false || ((ops[j]?).map fun oj => !(oj.after.all fun e => !Region.binds md e || listed.getD e.on false || u.getD e.on false)).getD false) &&
      (!u.getD j false || ((ops[j]?).map fun oj => (calmB oj || makesB oj) && oi.apart ops oj).getD false)
def takesA (P : Program) (calmB : Oper → Bool) (md : Region.Mode) (ops : Array Oper) (listed : Array Bool) (i : Nat) : Bool := takes P calmB md ops listed i || lateTake P calmB md ops listed i
def planA (P : Program) (calmB : Oper → Bool) (md : Region.Mode) (ops : Array Oper) : Nat → Array Bool → Option Plan
  | 0, listed => if (Region.ready md ops listed).isEmpty then some (.leaf []) else none
  | n + 1, listed =>
    match Region.ready md ops listed with
    | [] => some (.leaf [])
    | r :: rs =>
      match (r :: rs).find? (takesA P calmB md ops listed) with
      | some i => (planA P calmB md ops n (listed.setIfInBounds i true)).map (.cons i)
      | none =>
        match (if rs.isEmpty then none else (r :: rs).find? (typedTake P md ops listed)) with
        | some i => (planA P calmB md ops n (listed.setIfInBounds i true)).map fun p => .check [] i (p.cons i)
        | none => rs.foldr (fun i acc => match planA P calmB md ops n (listed.setIfInBounds i true), acc with | some p, some q => some (.fork [] (p.cons i) q) | _, _ => none)
            ((planA P calmB md ops n (listed.setIfInBounds r true)).map (.cons r))

section
variable {P : Program} {ops : Array Oper} {Q : Exit → Act → World → Prop} {md : Region.Mode} {calmB : Oper → Bool}
theorem lateTake_sound (hcalm : ∀ o, calmB o = true → Calm P o) (hsel : Region.noSelect ops = true) {i : Nat} {oi : Oper} {v : Value} (hi : ops[i]? = some oi) {listed : Array Bool} (h : lateTake P calmB md ops listed i = true)
    {n : Nat} {a : Act} {w : World} (hr : i ∈ Region.ready md ops listed) (hy : YieldsAt P ops oi v a w)
    (H : wpAny P md ops (Clean Q) n (listed.setIfInBounds i true) (a.put oi.dst v) w) : wpAny P md ops (Clean Q) (n + 1) listed a w := by
  simp only [lateTake, hi, Bool.and_eq_true, Bool.not_eq_true', List.all_eq_true, List.mem_range, beq_iff_eq] at h
  obtain ⟨⟨⟨⟨⟨hst, _⟩, hu⟩, hl⟩, hsz⟩, hall⟩ := h
  refine wpAny_mild hi (stayB_sound P _ hst) (fun j o cs b ho => Region.noSelect_spec hsel j o cs b ho) listed (fun k => (ahead md ops listed i).getD k false) ?_ ?_ hu hl hsz n listed a w hsz (fun k hk => .inl hk) (fun k hk => hk) hr hy H
  · intro j oj hj hji hLj he
    have h1 := (hall j (Array.getElem?_eq_some_iff.1 hj).1).1
    simp only [hj, Option.map_some, Option.getD_some, Bool.or_eq_true, beq_iff_eq, hji, hLj, false_or, Bool.false_eq_true] at h1
    rcases h1 with h1 | h1
    · exact h1
    · exfalso
      rw [Bool.not_eq_true', ← Bool.not_eq_true, Array.all_eq_true_iff_forall_mem] at h1
      refine h1 fun e hem => ?_
      cases hb : Region.binds md e
      · simp
      · rcases he e hem hb with h | h <;> simp_all
  · intro j oj hj huj
    have h1 := (hall j (Array.getElem?_eq_some_iff.1 hj).1).2
    simp only [hj, Option.map_some, Option.getD_some, huj, Bool.not_true, Bool.false_or, Bool.and_eq_true] at h1
    refine ⟨?_, h1.2⟩
    rcases Bool.or_eq_true _ _ ▸ h1.1 with h2 | h2
    · exact (hcalm _ h2).mild
    · exact makesB_sound P _ h2

theorem planA_sound (hcalm : ∀ o, calmB o = true → Calm P o) (hsel : Region.noSelect ops = true) :
    ∀ (n : Nat) (listed : Array Bool) (p : Plan), planA P calmB md ops n listed = some p → ∀ (a : Act) (w : World), wpPlan P ops Q p a w → wpAny P md ops (Clean Q) n listed a w := by
  intro n
  induction n with
  | zero =>
    intro listed p h
    simp only [planA] at h
    split at h
    · rename_i hr
      injection h with h; subst h
      intro a w H
      refine ⟨by simpa using hr, ?_⟩
      show Q .normal a w
      simpa [wpPlan, wpOps, Exit.then] using H
    · cases h
  | succ n ih =>
    intro listed p h
    simp only [planA] at h
    cases hr : Region.ready md ops listed with
    | nil =>
      rw [hr] at h
      injection h with h; subst h
      intro a w H
      refine ⟨fun _ => ?_, fun i hi => by rw [hr] at hi; cases hi⟩
      show Q .normal a w
      simpa [wpPlan, wpOps, Exit.then] using H
    | cons r rs =>
      rw [hr] at h
      simp only at h
      cases hf : (r :: rs).find? (takesA P calmB md ops listed) with
      | some i =>
        rw [hf] at h
        simp only [Option.map_eq_some_iff] at h
        obtain ⟨p', hp', rfl⟩ := h
        intro a w H
        have hti := List.find?_some hf
        have himem : i ∈ Region.ready md ops listed := by rw [hr]; exact List.mem_of_find?_eq_some hf
        obtain ⟨_, oi, hi, _⟩ := mem_ready.1 himem
        have hcalmi : Calm P oi := by
          simp only [takesA, takes, hi, Option.map_some, Option.getD_some, Bool.or_eq_true, Bool.and_eq_true] at hti
          rcases hti with (⟨h1, _⟩ | h1) | h1
          · exact (wiB_sound P h1).calm
          · simp only [calmTake, hi, Bool.and_eq_true] at h1
            exact hcalm _ h1.1.1.1.1
          · simp only [lateTake, hi, Bool.and_eq_true] at h1
            exact hcalm _ h1.1.1.1.1.2
        obtain ⟨v, hy, hK⟩ := calm_step hi hcalmi (wpPlan_cons H)
        have hrest := ih _ _ hp' _ _ hK
        simp only [takesA, takes, hi, Option.map_some, Option.getD_some, Bool.or_eq_true, Bool.and_eq_true] at hti
        rcases hti with (⟨h1, h2⟩ | h1) | h1
        · exact wpAny_take hi hsel h2 (by simpa using himem) (fun _ _ _ h => h) (yields_of_wi (wiB_sound P h1) hy) hrest
        · exact calmTake_sound hcalm hsel hi h1 himem hy hrest
        · exact lateTake_sound hcalm hsel hi h1 himem hy hrest
      | none =>
        rw [hf] at h
        simp only at h
        cases hg : (if rs.isEmpty then none else (r :: rs).find? (typedTake P md ops listed)) with
        | some i =>
          rw [hg] at h
          simp only [Option.map_eq_some_iff] at h
          obtain ⟨p', hp', rfl⟩ := h
          intro a w H
          have hfi : (r :: rs).find? (typedTake P md ops listed) = some i := by
            split at hg
            · cases hg
            · exact hg
          have hti := List.find?_some hfi
          have himem : i ∈ Region.ready md ops listed := by rw [hr]; exact List.mem_of_find?_eq_some hfi
          obtain ⟨_, oi, hi, _⟩ := mem_ready.1 himem
          simp only [typedTake, hi, Option.map_some, Option.getD_some, Bool.and_eq_true] at hti
          have H' : TypedAt ops i a ∧ wpPlan P ops Q (p'.cons i) a w := by simpa [wpPlan, wpOps, Exit.then] using H
          have hwi : Region.wanted oi (yielded ops a.tmps) = true → WIat P oi a.eval := by
            intro hw
            have ht := H'.1
            simp only [TypedAt, hi] at ht
            exact typed_wi hti.1 (ht hw)
          obtain ⟨v, hy, hK⟩ := calm_step' hi (fun hw n w1 hrun => by
            obtain ⟨v, rfl, hv⟩ := hwi hw w n w1 hrun
            rw [hv w] at hrun
            injection hrun with _ h2
            exact ⟨h2.symm, v, rfl⟩) (wpPlan_cons H'.2)
          exact wpAny_take hi hsel hti.2 (by simpa using himem) (fun _ _ _ h => h) (yields_of_typed hwi hy) (ih _ _ hp' _ _ hK)
        | none =>
          rw [hg] at h
          simp only at h
          have key : ∀ (l : List Nat) (p : Plan), l.foldr (fun i acc => match planA P calmB md ops n (listed.setIfInBounds i true), acc with | some p, some q => some (.fork [] (p.cons i) q) | _, _ => none)
              ((planA P calmB md ops n (listed.setIfInBounds r true)).map (.cons r)) = some p →
              ∀ a w, wpPlan P ops Q p a w → ∀ i ∈ r :: l, wpOp P ops (Clean Q) i (wpAny P md ops (Clean Q) n (listed.setIfInBounds i true)) a w := by
            intro l
            induction l with
            | nil =>
              intro p hp a w H i hi
              simp only [List.foldr_nil, Option.map_eq_some_iff] at hp
              obtain ⟨p', hp', rfl⟩ := hp
              obtain rfl : i = r := by simpa using hi
              exact wpOp_mono (fun a w h => ih _ _ hp' a w h) (wpPlan_cons H)
            | cons j l ihl =>
              intro p hp a w H i hi
              simp only [List.foldr_cons] at hp
              cases hpj : planA P calmB md ops n (listed.setIfInBounds j true) with
              | none => rw [hpj] at hp; simp at hp
              | some pj =>
                rw [hpj] at hp
                cases hq : l.foldr (fun i acc => match planA P calmB md ops n (listed.setIfInBounds i true), acc with | some p, some q => some (Plan.fork [] (p.cons i) q) | _, _ => none)
                    ((planA P calmB md ops n (listed.setIfInBounds r true)).map (.cons r)) with
                | none => rw [hq] at hp; simp at hp
                | some q =>
                  rw [hq] at hp
                  simp only [Option.some.injEq] at hp
                  subst hp
                  have H' : wpPlan P ops Q (pj.cons j) a w ∧ wpPlan P ops Q q a w := by simpa [wpPlan, wpOps, Exit.then] using H
                  rcases List.mem_cons.1 hi with rfl | hi
                  · exact ihl q hq a w H'.2 i (by simp)
                  · rcases List.mem_cons.1 hi with rfl | hi
                    · exact wpOp_mono (fun a w h => ih _ _ hpj a w h) (wpPlan_cons H'.1)
                    · exact ihl q hq a w H'.2 i (by simp [hi])
          intro a w H
          exact wpAny_all hr (by simp) (key _ _ h a w H)


/-- A STATEMENT WHOSE ORDER IS OPEN, by its plan: loads are taken ahead of what makes memory. -/
theorem region_planA (hcalm : ∀ o, calmB o = true → Calm P o) {id : Nat} {a : Act} {w : World} (t : Plan) (hm : P.follows .mixedOrders = true) (hsel : Region.noSelect ops = true)
    (ht : planA P calmB .any ops ops.size (Array.replicate ops.size false) = some t) (h : wpPlan P ops Q t a w.drew) : (Code.region id ops true).wp P Q a w :=
  Code.wp_mono Clean.imp (wp_region_any hm (planA_sound hcalm hsel _ _ _ ht _ _ h))
end
end Go.Proofs.YtaghecgjmkhpcaaGreatDoor
