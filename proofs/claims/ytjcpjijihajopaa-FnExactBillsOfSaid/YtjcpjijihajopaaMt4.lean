/-
  What is asked of the program, by reckoning.
-/
import Derived.Test.YtjcpjijihajopaaMt3
set_option linter.unusedSectionVars false
set_option linter.unusedSimpArgs false
set_option linter.unusedVariables false
namespace Go.Mt
open Go.Conc Go.Tt
set_option linter.unusedVariables false
def valOk : Nat → Value → Bool
  | 0, _ => false
  | n + 1, v => match v with
    | .bool _ | .int _ _ | .string _ | .nilFunc | .nilIface | .pointer none | .slice none _ _ | .map none | .chan none => true
    | .agg xs | .tuple xs => xs.all (valOk n)
    | _ => false
theorem valOk_vr {S : FuncId → Prop} {K R : Pr} : ∀ (n : Nat) (v : Value), valOk n v = true → VR S K R v v := by
  intro n
  induction n with
  | zero => intro v h; cases h
  | succ n ih =>
    intro v h
    have arr : ∀ xs : Array Value, xs.all (valOk n) = true → ArR S K R xs xs := fun xs hx => ⟨rfl, fun i a b h1 h2 => by
      rw [h1] at h2
      obtain rfl := Option.some.inj h2
      rw [Array.all_eq_true_iff_forall_mem] at hx
      exact ih a (hx a (Array.mem_of_getElem? h1))⟩
    cases v with
    | bool b => exact .bool b
    | int k m => exact .int k m
    | string s => exact .string s
    | nilFunc => exact .nilFunc
    | nilIface => exact .nilIface
    | pointer a => cases a with | none => exact .pointer .none | some a => simp [valOk] at h
    | slice a m c => cases a with | none => exact .slice .none | some a => simp [valOk] at h
    | map a => cases a with | none => exact .map .none | some a => simp [valOk] at h
    | chan a => cases a with | none => exact .chan .none | some a => simp [valOk] at h
    | agg xs => exact .agg rfl (arr xs (by simpa [valOk] using h)).2
    | tuple xs => exact .tuple rfl (arr xs (by simpa [valOk] using h)).2
    | _ => simp [valOk] at h
/-- A value that names no memory. -/
def Zok (v : Value) : Prop := ∀ (S : FuncId → Prop) (K R : Pr), VR S K R v v
theorem Zok.cells {z : Value} (h : Zok z) : ∀ x ∈ z.cells, Zok x := fun x hx S K R => by
  obtain ⟨i, hi, rfl⟩ := Array.mem_iff_getElem.1 hx
  exact (h S K R).cells.2 i _ _ (Array.getElem?_eq_getElem hi) (Array.getElem?_eq_getElem hi)
theorem Zok.agg {xs : Array Value} (h : ∀ x ∈ xs, Zok x) : Zok (.agg xs) := fun S K R => .agg rfl fun i v v' h1 h2 => by
  rw [h1] at h2
  obtain rfl := Option.some.inj h2
  exact h v (Array.mem_of_getElem? h1) S K R
def ZInfo (info : TypeId → Option TypeInfo) : Prop := ∀ t i z, info t = some i → i.zero = some z → Zok z
theorem forIn_inv {α β : Type} {P : β → Prop} {f : α → β → Option (ForInStep β)} (hf : ∀ a b r, P b → f a b = some r → P (match r with | .yield b => b | .done b => b)) : ∀ (l : List α) (b b' : β), P b → forIn l b f = some b' → P b' := by
  intro l
  induction l with
  | nil => intro b b' hb h; simp only [List.forIn_nil, pure, Option.some.injEq] at h; exact h ▸ hb
  | cons a l ih =>
    intro b b' hb h
    simp only [List.forIn_cons, bind, Option.bind_eq_some_iff] at h
    obtain ⟨r, h1, h2⟩ := h
    have := hf a b r hb h1
    cases r with
    | yield c => exact ih c b' this h2
    | done c => simp only [pure, Option.some.injEq] at h2; exact h2 ▸ this
theorem zok_struct {info : TypeId → Option TypeInfo} (hI : ZInfo info) {fs : Array Field} {i : TypeInfo} {z : Value} (h : Made.reckonStruct info fs = some i) (hz : i.zero = some z) : Zok z := by
  unfold Made.reckonStruct at h
  simp only [bind, pure, Option.bind_eq_some_iff] at h
  obtain ⟨a, h1, h2⟩ := h
  rw [← Array.forIn_toList] at h1
  have key : ∀ xs, a.2.2.2.2.2.2.2.1 = some xs → ∀ x ∈ xs, Zok x := by
    refine forIn_inv (P := fun s => ∀ xs, s.2.2.2.2.2.2.2.1 = some xs → ∀ x ∈ xs, Zok x) (fun f s r hP h => ?_) _ _ _ (fun xs hx => by simp only [Option.some.injEq] at hx; subst hx; simp) h1
    simp only [Option.bind_eq_some_iff] at h
    obtain ⟨j, hj, h⟩ := h
    have key : ∀ xs, (s.2.2.2.2.2.2.2.1.bind fun a => j.zero.bind fun b => some (a ++ b.cells)) = some xs → ∀ x ∈ xs, Zok x := by
      intro xs hx
      simp only [Option.bind_eq_some_iff, Option.some.injEq] at hx
      obtain ⟨u, h3, v, h4, rfl⟩ := hx
      intro x hm
      rcases Array.mem_append.1 hm with hm | hm
      · exact hP u h3 x hm
      · exact (hI _ j v hj h4).cells x hm
    repeat' (first | split at h | (simp only [Option.bind_eq_some_iff] at h; obtain ⟨_, h0, h⟩ := h))
    all_goals first
      | (cases h0; done)
      | (simp only [Option.some.injEq] at h; subst h; exact key)
      | (simp only [Option.some.injEq] at h; subst h; intro xs hx; cases hx)
  split at h2 <;> (simp only [Option.some.injEq] at h2; subst h2; simp only at hz; obtain ⟨xs, h3, rfl⟩ := Option.map_eq_some_iff.1 hz; exact Zok.agg (key xs h3))
theorem zok_reckon {info : TypeId → Option TypeInfo} (hI : ZInfo info) {d : TypeDesc} {i : TypeInfo} {z : Value} (h : Made.reckon info d = some i) (hz : i.zero = some z) : Zok z := by
  have hw : ∀ (d : TypeDesc) (s : String) (v : Value) (b : Bool) (n : Nat), Zok v → ∀ z, (Made.word d s v b n).zero = some z → Zok z := fun d s v b n hv z hz => by
    simp only [Made.word, Option.some.injEq] at hz
    exact hz ▸ hv
  have p0 : Zok (.pointer none) := fun _ _ _ => .pointer .none
  have s0 : Zok (.slice none 0 0) := fun _ _ _ => .slice .none
  have m0 : Zok (.map none) := fun _ _ _ => .map .none
  have c0 : Zok (.chan none) := fun _ _ _ => .chan .none
  have f0 : Zok .nilFunc := fun _ _ _ => .nilFunc
  unfold Made.reckon at h
  cases d with
  | pointer e =>
    simp only [bind, pure, Option.bind_eq_some_iff] at h
    obtain ⟨j, _, h⟩ := h
    split at h
    · cases h
    · split at h
      · cases h
      · simp only [Option.bind_eq_some_iff, Option.some.injEq] at h
        obtain ⟨_, _, rfl⟩ := h
        exact hw _ _ _ _ _ p0 z hz
    · simp only [Option.bind_eq_some_iff, Option.some.injEq] at h
      obtain ⟨_, _, rfl⟩ := h
      exact hw _ _ _ _ _ p0 z hz
  | slice e =>
    simp only [bind, pure, Option.bind_eq_some_iff, Option.some.injEq] at h
    obtain ⟨_, _, _, _, rfl⟩ := h
    exact hw _ _ _ _ _ s0 z hz
  | map k e =>
    simp only [bind, pure, Option.bind_eq_some_iff, Option.some.injEq] at h
    obtain ⟨_, _, _, _, _, _, _, _, rfl⟩ := h
    exact hw _ _ _ _ _ m0 z hz
  | chan dir e =>
    simp only [bind, pure, Option.bind_eq_some_iff, Option.some.injEq] at h
    obtain ⟨_, _, _, _, rfl⟩ := h
    exact hw _ _ _ _ _ c0 z hz
  | func ps rs v =>
    simp only [bind, pure, Option.bind_eq_some_iff, Option.some.injEq] at h
    obtain ⟨_, _, rfl⟩ := h
    exact hw _ _ _ _ _ f0 z hz
  | array n e =>
    simp only [bind, pure, Option.bind_eq_some_iff, Option.some.injEq] at h
    obtain ⟨j, hj, _, _, rfl⟩ := h
    simp only at hz
    split at hz
    · cases hz
    · split at hz
      · simp only [Option.some.injEq] at hz; subst hz; exact Zok.agg (by simp)
      · obtain ⟨u, hu, rfl⟩ := Option.map_eq_some_iff.1 hz
        refine Zok.agg fun x hx => ?_
        simp only [Array.mem_flatten, Array.mem_replicate] at hx
        obtain ⟨xs, ⟨_, rfl⟩, hx⟩ := hx
        exact (hI _ j u hj hu).cells x hx
  | struct fs => exact zok_struct hI h hz
  | _ => cases h
def zerosOk (p : Program) : Bool := (List.range p.types.size).all fun t => match p.info? t with | some i => (match i.zero with | some z => valOk 12 z | none => true) | none => true
def resOk : List ResultVar → Bool
  | [] => true
  | [_] => true
  | [_, _] => true
  | _ => false
theorem resOk_plain {l : List ResultVar} (h : resOk l = true) : plainRes l := by
  unfold resOk at h
  split at h
  · exact .inl rfl
  · exact .inr (.inl ⟨_, rfl⟩)
  · exact .inr (.inr ⟨_, _, rfl⟩)
  · cases h
def fnFit (p : Program) (fs gs : FuncId → Bool) (f : FuncId) : Bool :=
  match p.funcs[f]? with
  | some fn => !(fn.name == "runtime.NumGoroutine") && resOk fn.results.toList && (match fn.body with | some c => fitCode p ⟨fs, gs, false⟩ c | none => false)
  | none => false
theorem fnFit_ok {p : Program} {fs gs : FuncId → Bool} {f : FuncId} (h : fnFit p fs gs f = true) : ∃ fn c, p.funcs[f]? = some fn ∧ (fn.name == "runtime.NumGoroutine") = false ∧ fn.body = some c ∧ fitCode p ⟨fs, gs, false⟩ c = true ∧ plainRes fn.results.toList := by
  unfold fnFit at h
  cases hf : p.funcs[f]? with
  | none => rw [hf] at h; cases h
  | some fn =>
    rw [hf] at h
    simp only [Bool.and_eq_true, Bool.not_eq_true'] at h
    cases hb : fn.body with
    | none => rw [hb] at h; cases h.2
    | some c => rw [hb] at h; exact ⟨fn, c, rfl, h.1.1, hb, h.2, resOk_plain h.1.2⟩
theorem zeros_low {p : Program} (h : zerosOk p = true) {t : TypeId} {i : TypeInfo} {z : Value} (ht : t < p.types.size) (hi : p.types[t]? = some i) (hz : i.zero = some z) : Zok z := by
  unfold zerosOk at h
  rw [List.all_eq_true] at h
  have := h t (List.mem_range.2 ht)
  have e : p.info? t = some i := by show Tables.info? p.toTables t = some i; unfold Tables.info?; rw [if_pos ht]; exact hi
  rw [e] at this
  simp only [hz] at this
  exact fun S K R => valOk_vr 12 z this
theorem zeros_at {p : Program} (h : zerosOk p = true) : ∀ n, ZInfo (Made.infoAt p.toTables n) := by
  intro n
  induction n with
  | zero => intro t i z hi; cases hi
  | succ n ih =>
    intro t i z hi hz
    unfold Made.infoAt at hi
    split at hi
    · next ht => exact zeros_low h ht hi hz
    · obtain ⟨d, _, hd⟩ := Option.bind_eq_some_iff.1 hi
      exact zok_reckon ih hd hz
theorem zeros_ok {p : Program} (h : zerosOk p = true) {S : FuncId → Prop} {K R : Pr} {t : TypeId} {i : TypeInfo} {z : Value} (hi : p.info? t = some i) (hz : i.zero = some z) : VR S K R z z := by
  have hi' : Tables.info? p.toTables t = some i := hi
  unfold Tables.info? at hi'
  split at hi'
  · next ht => exact zeros_low h ht hi' hz S K R
  · exact zeros_at h Made.depth t i z hi' hz S K R
/-- Functions given by a list of numbers. -/
def inL (l : List Nat) (f : FuncId) : Bool := l.contains f
theorem inL_mem {l : List Nat} {f : FuncId} (h : inL l f = true) : f ∈ l := by simpa [inL] using h
theorem fit3_of {p : Program} {gl fl : List Nat} (hz : zerosOk p = true) (h : gl.all (fnFit p (inL fl) (inL gl)) = true) : Fit3 (PS p (inL gl)) (inL fl) where
  zero := fun K R t i z hi hz' => zeros_ok hz hi hz'
  fn := fun f hf _ => by
    obtain ⟨fn, c, h1, h2, h3, h4, _⟩ := fnFit_ok (List.all_eq_true.1 h f (inL_mem hf))
    exact ⟨fn, c, h1, h1, h2, h3, h4⟩
  opq := fun f _ ho => by cases ho
  low := fun f ho => by cases ho
  dyn := fun h => by cases h
  guard := fun t => rfl
  res := fun f hf _ fn hfn => by
    obtain ⟨fn', c, h1, h2, h3, h4, h5⟩ := fnFit_ok (List.all_eq_true.1 h f (inL_mem hf))
    have h1' : (PS p (inL gl)).c.funcs[f]? = some fn' := h1
    rw [h1'] at hfn
    obtain rfl := Option.some.inj hfn
    exact h5
  follows := rfl
  none := fun _ => rfl
/-- op, gs, lone functions, closures: by lists. -/
def opFit (p : Program) (fs gs : FuncId → Bool) (f : FuncId) : Bool :=
  match p.funcs[f]? with
  | some fn => !(fn.name == "runtime.NumGoroutine") && (match fn.body with | some c => !(fitCode p ⟨fs, gs, false⟩ c) | none => false)
  | none => false
theorem lv_of {p : Program} {ol al gl fl : List Nat} (hz : zerosOk p = true) (h1 : gl.all (fnFit p (inL fl) (inL gl)) = true) (h2 : al.all (fun f => ol.contains f || fnFit p (inL fl) (inL al) f) = true) (h3 : ol.all (opFit p (inL fl) (inL gl)) = true) (h4 : ol.all (opFit p (inL fl) (inL al)) = true) :
    Lv p (inL ol) (inL al) (inL gl) (inL fl) where
  fit := {
    zero := fun K R t i z hi hz' => zeros_ok hz hi hz'
    fn := fun f hf ho => by
      have := List.all_eq_true.1 h2 f (inL_mem hf)
      have ho' : ol.contains f = false := ho
      rw [ho', Bool.false_or] at this
      obtain ⟨fn, c, h1, h2, h3, h4, _⟩ := fnFit_ok this
      exact ⟨fn, c, h1, h1, h2, h3, h4⟩
    opq := fun f _ ho => by
      have := List.all_eq_true.1 h4 f (inL_mem ho)
      unfold opFit at this
      cases hf : p.funcs[f]? with
      | none => rw [hf] at this; cases this
      | some fn =>
        rw [hf] at this
        simp only [Bool.and_eq_true, Bool.not_eq_true'] at this
        cases hb : fn.body with
        | none => rw [hb] at this; cases this.2
        | some c => exact ⟨fn, fn, c, c, rfl, rfl, this.1, this.1, hb, hb⟩
    low := fun f ho => by cases ho
    dyn := fun h => by cases h
    guard := fun t => rfl
    res := fun f hf ho fn hfn => by
      have := List.all_eq_true.1 h2 f (inL_mem hf)
      have ho' : ol.contains f = false := ho
      rw [ho', Bool.false_or] at this
      obtain ⟨fn', c, h1, h2, h3, h4, h5⟩ := fnFit_ok this
      have h1' : (PL p (inL ol) (inL al)).c.funcs[f]? = some fn' := h1
      rw [h1'] at hfn
      obtain rfl := Option.some.inj hfn
      exact h5
    follows := rfl }
  fit₁ := fit3_of hz h1
  nofit := fun f ho => by
    have := List.all_eq_true.1 h3 f (inL_mem ho)
    unfold opFit at this
    cases hf : p.funcs[f]? with
    | none => rw [hf] at this; cases this
    | some fn =>
      rw [hf] at this
      simp only [Bool.and_eq_true, Bool.not_eq_true'] at this
      cases hb : fn.body with
      | none => rw [hb] at this; cases this.2
      | some c => rw [hb] at this; exact ⟨fn, c, rfl, hb, this.1, by simpa using this.2⟩
end Go.Mt
