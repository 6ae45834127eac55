/-
  Behaviours of whatever rank: the rules by which they are built.
  A lone contract carried to a goroutine in company.
  What is behind the calls that start goroutines: goroutine 0 beside leavers, judged from here to the run's end.
  THE LAW LEVEL: the lone walk goes over a ghost world; goroutine 0's real world is any that is related to it.
  The law level's rules.
-/
import Derived.Test.YtjcpjijihajopaaMt2
import Derived.Test.YtjcpjijihajopaaTt4
import Derived.Below
set_option linter.unusedSectionVars false
set_option linter.unusedSimpArgs false
set_option linter.unusedVariables false
namespace Go.Mt
open Go.Conc
open Go.ConcR (KK wgBlock WgAt stA smA rd wr)
set_option linter.unusedVariables false
section
variable {L : Type} {P : Program} {ty : TypeId} {Wg : Nat} {A : Proto L} {Fin : Goroutine → World → Prop}
variable {K K' : Bool → Ph L → Nat → Terr → Goroutine → World → Prop}
theorem Way1.mono (hK : ∀ m ph d τ g w, K m ph d τ g w → K' m ph d τ g w) {main : Bool} {ph : Ph L} {d : Nat} {τ : Terr} {g : Goroutine} {w : World} (h : Way1 P ty Wg K main ph d τ g w) : Way1 P ty Wg K' main ph d τ g w := by
  have own : ∀ {ph : Ph L}, Own1 P ty Wg K main ph d τ g w → Own1 P ty Wg K' main ph d τ g w := fun h w₁ s => by
    obtain ⟨g', w', es, h1, h2, h3, h4, h5⟩ := h w₁ s
    exact ⟨g', w', es, h1, h2, h3, h4, hK _ _ _ _ _ _ h5⟩
  have idle : ∀ {ph : Ph L}, Idle1 P ty Wg K main ph d τ g w → Idle1 P ty Wg K' main ph d τ g w := fun h w₁ s => by
    obtain ⟨g', es, h1, h2, h3, h4⟩ := h w₁ s
    exact ⟨g', es, h1, h2, h3, hK _ _ _ _ _ _ h4⟩
  cases ph <;> first | exact h | exact own h | exact idle h
theorem AtUsr.mono (hK : ∀ m ph d τ g w, K m ph d τ g w → K' m ph d τ g w) {main : Bool} {l : L} {d : Nat} {τ : Terr} {g : Goroutine} {w : World} (h : AtUsr P ty Wg A K main l d τ g w) : AtUsr P ty Wg A K' main l d τ g w := by
  unfold AtUsr at *
  split
  all_goals (rename_i e; simp only [e] at h)
  · obtain ⟨ho, v, z, τ', h1, h2, h3, h4, h4', h5, h6⟩ := h
    exact ⟨ho, v, z, τ', h1, h2, h3, h4, h4', h5, hK _ _ _ _ _ _ h6⟩
  · obtain ⟨ho, z, b, h1, h2, h3⟩ := h
    exact ⟨ho, z, b, h1, fun v hv => hK _ _ _ _ _ _ (h2 v hv), fun x => hK _ _ _ _ _ _ (h3 x)⟩
  · refine ⟨h.1, h.2.1, fun w₁ s₁ s r hc => ?_⟩
    obtain ⟨g', h1, h2, h3⟩ := h.2.2 w₁ s₁ s r hc
    exact ⟨g', h1, h2, hK _ _ _ _ _ _ h3⟩
  · intro w₁ s₁ v hv hw
    obtain ⟨g', h1, h2, h3⟩ := h w₁ s₁ v hv hw
    exact ⟨g', h1, h2, hK _ _ _ _ _ _ h3⟩
  · refine ⟨h.1, fun w₁ s₁ => ?_⟩
    obtain ⟨g', child, τm, τc, h1, h2, h3, h4, h5, h6, h7, h8, h9, h10, h11⟩ := h.2 w₁ s₁
    exact ⟨g', child, τm, τc, h1, h2, h3, h4, h5, h6, h7, h8, h9, hK _ _ _ _ _ _ h10, hK _ _ _ _ _ _ h11⟩
  · refine ⟨h.1, h.2.1, h.2.2.1, fun w₁ s₁ => ?_⟩
    obtain ⟨g', h1, h2, h3⟩ := h.2.2.2 w₁ s₁
    exact ⟨g', h1, h2, hK _ _ _ _ _ _ h3⟩
  · intro w₁ s₁ v hv hw
    obtain ⟨g', h1, h2, h3, h4⟩ := h w₁ s₁ v hv hw
    exact ⟨g', h1, h2, fun x => hK _ _ _ _ _ _ (h3 x), fun x => hK _ _ _ _ _ _ (h4 x)⟩
theorem AtPh.mono (hK : ∀ m ph d τ g w, K m ph d τ g w → K' m ph d τ g w) {main : Bool} {ph : Ph L} {d : Nat} {τ : Terr} {g : Goroutine} {w : World} (h : AtPh P ty Wg A Fin K main ph d τ g w) : AtPh P ty Wg A Fin K' main ph d τ g w := by
  cases ph with
  | gone => exact h
  | quit l => exact h
  | usr l => exact AtUsr.mono hK h
  | rel l =>
    intro w₁ s₁ v wt a b c
    obtain ⟨g', h1, h2, h3, h4, h5⟩ := h w₁ s₁ v wt a b c
    exact ⟨g', h1, h2, h3, fun x => hK _ _ _ _ _ _ (h4 x), h5⟩
  | l1 l =>
    intro w₁ s₁ a
    obtain ⟨g', h1, h2, h3, h4⟩ := h w₁ s₁ a
    exact ⟨g', h1, h2, h3, hK _ _ _ _ _ _ h4⟩
  | l2 l =>
    intro w₁ s₁ a
    obtain ⟨g', h1, h2, h3, h4⟩ := h w₁ s₁ a
    exact ⟨g', h1, h2, h3, hK _ _ _ _ _ _ h4⟩
  | l3 l => exact h
  | w1 b =>
    intro w₁ s₁ v hvb hv hw
    obtain ⟨g', h1, h2, h3, h4⟩ := h w₁ s₁ v hvb hv hw
    exact ⟨g', h1, h2, fun x => hK _ _ _ _ _ _ (h3 x), fun x => hK _ _ _ _ _ _ (h4 x)⟩
  | w2 vs =>
    intro w₁ s₁ v hv hw
    obtain ⟨h1, h2⟩ := h w₁ s₁ v hv hw
    exact ⟨fun e => let ⟨g', a, b, c⟩ := h1 e; ⟨g', a, b, hK _ _ _ _ _ _ c⟩, fun e => let ⟨g', a, b, c⟩ := h2 e; ⟨g', a, b, hK _ _ _ _ _ _ c⟩⟩
  | w3 =>
    refine ⟨h.1, fun w₁ s₁ => ⟨(h.2 w₁ s₁).1, fun e => ?_⟩⟩
    obtain ⟨g', a, b, c⟩ := (h.2 w₁ s₁).2 e
    exact ⟨g', a, b, hK _ _ _ _ _ _ c⟩
  | w4 =>
    intro w₁ s₁ a
    obtain ⟨g', h1, h2, h3⟩ := h w₁ s₁ a
    exact ⟨g', h1, h2, hK _ _ _ _ _ _ h3⟩
  | w5 => exact h
def BehE (P : Program) (ty : TypeId) (Wg : Nat) (A : Proto L) (Fin : Goroutine → World → Prop) (main : Bool) (ph : Ph L) (d : Nat) (τ : Terr) (g : Goroutine) (w : World) : Prop := ∃ r, Beh P ty Wg A Fin r main ph d τ g w
variable {main : Bool} {ph : Ph L} {d : Nat} {τ : Terr} {g : Goroutine} {w w₁ : World}
theorem BehE.rely (h : BehE P ty Wg A Fin main ph d τ g w) (s : Suf ty Wg τ w w₁) : BehE P ty Wg A Fin main ph d τ g w₁ := let ⟨r, hr⟩ := h; ⟨r, hr.rely s⟩
theorem BehE.mk (hrun : g.status = .running) (h : Way1 P ty Wg (BehE P ty Wg A Fin) main ph d τ g w ∨ AtPh P ty Wg A Fin (BehE P ty Wg A Fin) main ph d τ g w) : BehE P ty Wg A Fin main ph d τ g w := by
  let ι := { x : Bool × Ph L × Nat × Terr × Goroutine × World // BehE P ty Wg A Fin x.1 x.2.1 x.2.2.1 x.2.2.2.1 x.2.2.2.2.1 x.2.2.2.2.2 }
  let f : ι → Rk := fun x => x.2.choose
  have hK : ∀ m ph d τ g w, BehE P ty Wg A Fin m ph d τ g w → ∃ i, Beh P ty Wg A Fin (f i) m ph d τ g w := fun m ph d τ g w hb => ⟨⟨(m, ph, d, τ, g, w), hb⟩, hb.choose_spec⟩
  exact ⟨.mk ι f, hrun, h.imp (fun x => x.mono hK) fun x => x.mono hK⟩
/-- An own step. -/
theorem BehE.own (hrun : g.status = .running) (hl : ph.live) (h : Own1 P ty Wg (BehE P ty Wg A Fin) main ph d τ g w) : BehE P ty Wg A Fin main ph d τ g w :=
  .mk hrun (.inl (by cases ph <;> first | exact h | exact hl.elim))
theorem BehE.usr {l : L} (hrun : g.status = .running) (h : AtUsr P ty Wg A (BehE P ty Wg A Fin) main l d τ g w) : BehE P ty Wg A Fin main (.usr l) d τ g w := .mk hrun (.inr h)
/-- What is held of the beginning. -/
structure Start (P : Program) (ty : TypeId) (Wg : Nat) (A : Proto L) (Fin : Goroutine → World → Prop) (Shun : Loc → Prop) (gs : Array Goroutine) (w : World) (t : Trace) (q : Nat → Nat) (l : L) (τ : Terr) (a : Goroutine) (B : Nat) : Prop where
  main : gs[0]? = some a
  leave : Leavers P t gs q
  past : Past Shun B t
  beh : BehE P ty Wg A Fin true (.usr l) 0 τ a w
  grp : WgAt ty Wg w 0 0
  low : B ≤ Wg ∧ B ≤ w.heap.size
  bnd : ∀ b, τ.own b ∨ τ.still b ∨ τ.pass b → b < w.heap.size ∧ b ≠ Wg ∧ ∀ l, onB l b → ¬ Shun l
  pend : A.pend l = false
  inv : A.Inv (fun i => if i = 0 then .run l else .gone) (fun _ => none)
/-- THE PHASE. -/
theorem phase (hA : A.Ok) {Shun : Loc → Prop} {gs : Array Goroutine} {t : Trace} {q : Nat → Nat} {l : L} {a : Goroutine} {B : Nat} (S : Start P ty Wg A Fin Shun gs w t q l τ a B) (sl : Option (Nat × Nat)) :
    ∃ N m' t', runNT P N (crowd gs w sl) t = (.next m', t') ∧ Goal P Wg Fin Shun m' t' := by
  obtain ⟨r, hr⟩ := S.beh
  have h0 : 0 < gs.size := (Array.getElem?_eq_some_iff.1 S.main).1
  let none' : Terr := ⟨fun _ => False, fun _ => False, fun _ => False⟩
  let T : Nat → Td L := fun i => if i = 0 then ⟨.usr l, .inr r, τ, a⟩ else ⟨.gone, .inl (q i), none', default⟩
  have t0 : T 0 = ⟨.usr l, .inr r, τ, a⟩ := by simp [T]
  have tn : ∀ i, i ≠ 0 → T i = ⟨.gone, .inl (q i), none', default⟩ := fun i hi => by simp [T, hi]
  have hrun : a.status = .running := by cases r with | mk ι f => exact hr.1
  have hcnt : cnt (fun i => (T i).ph) gs.size = 0 := cnt_zero (fun j hj => by simp only [tn j hj, Ph.pre]) _
  have hvv : vv A (fun i => (T i).ph) gs.size = 0 := by
    unfold vv pnd; rw [hcnt]; simp only [t0, S.pend]; rfl
  have hpr : (fun i => (T i).ph.proj) = fun i => if i = 0 then .run l else .gone := by
    funext i
    by_cases hi : i = 0
    · subst hi; rw [t0]; rfl
    · rw [tn i hi, if_neg hi]; rfl
  refine phase_run (ty := ty) hA (T := T) (ch := fun _ => none) (Shun := Shun) ⟨⟨h0, fun i hi => (by rw [tn i (by omega)]), (by rw [t0]; trivial), fun i hi => (by rw [tn i hi]; exact id), fun i hi b => ?_, fun i j b hij hb => ?_, fun i b hb => ?_, fun i b hb => ?_, fun i l' hi => ?_, fun c b hc => (by cases hc), ?_, (by rw [hpr]; exact S.inv)⟩,
    ⟨fun i x hi => ?_, fun i j gi gj c v z z' sh sh' hi hj => ?_, fun i gi c z sh hi e => (by cases e), fun x hx hp => (by rw [t0] at hp; cases hp), ?_⟩⟩ sl
  · by_cases h : i = 0
    · subst h; rw [t0] at hi; cases hi
    · rw [tn i h]; exact ⟨id, id, id⟩
  · by_cases h : i = 0
    · subst h
      rw [tn j (Ne.symm hij)]; exact ⟨id, id, id⟩
    · rw [tn i h] at hb; exact hb.elim
  · by_cases h : i = 0
    · subst h
      rw [t0] at hb
      have := S.bnd b (hb.imp id .inl)
      exact ⟨this.1, this.2.1, rfl⟩
    · rw [tn i h] at hb; exact hb.elim False.elim False.elim
  · by_cases h : i = 0
    · subst h
      rw [t0] at hb
      have := S.bnd b (.inr (.inr hb))
      exact ⟨this.1, this.2.1⟩
    · rw [tn i h] at hb; exact hb.elim
  · by_cases h : i = 0
    · subst h; rw [t0] at hi; cases hi
    · rw [tn i h] at hi; cases hi
  · unfold Grp
    simp only [t0]
    refine ⟨by rw [hvv]; simpa using S.grp, fun i e => ?_⟩
    by_cases h : i = 0
    · subst h; rw [t0] at e; exact e
    · rw [tn i h] at e; exact e
  · by_cases h : i = 0
    · subst h
      rw [S.main] at hi; cases hi
      refine (sits_stays (by rw [t0]; exact id)).2 ⟨r, by rw [t0], ?_, .inl (by rw [t0]; exact Awake.self hrun)⟩
      have hd : Deaf t 0 = 0 := S.past.hears
      rw [t0, hd]; exact hr
    · refine (sits_leaves (by rw [tn i h]; trivial)).2 ⟨q i, by rw [tn i h], S.leave.old i x (by omega) hi⟩
  · exfalso
    by_cases h : i = 0
    · subst h
      rw [S.main] at hi; cases hi
      simp [parked] at hrun
    · have := (S.leave.old i _ (by omega) hi).status
      simp [parked] at this
  · refine TI.begin S.past S.low.2 S.leave.above (fun j => ?_) (fun b hb => ?_) S.low.1
    · by_cases h : j = 0
      · subst h; rw [t0]; exact ⟨fun _ => rfl, fun _ => trivial⟩
      · rw [tn j h]; exact ⟨fun e => e.elim, fun e => absurd e h⟩
    · rw [t0] at hb
      exact (S.bnd b hb).2.2
end
end Go.Mt
namespace Go.Mt
open Go.Conc Go.Tt
open Go.ConcR (KK wgBlock WgAt stA smA rd wr)
set_option linter.unusedVariables false
/-- What the walk leaves of the territory: blocks that the relation does not name, or that are still, stand. -/
structure Lft (ty : TypeId) (Wg : Nat) (R : Pr) (St : Nat → Prop) (τ τ' : Terr) (W W' : World) : Prop where
  tape : W'.tape = W.tape
  os : W'.os = W.os
  output : W'.output = W.output
  size : W.heap.size ≤ W'.heap.size
  keep : ∀ b, b < W.heap.size → τ.own b ∨ τ.still b → (∀ a, R a b → St a) → W'.heap[b]? = W.heap[b]?
  still : τ'.still = τ.still
  pass : τ'.pass = τ.pass
  own : ∀ b, τ'.own b → τ.own b ∨ (W.heap.size ≤ b ∧ b < W'.heap.size)
  own' : ∀ b, τ.own b → τ'.own b
  live : WgLive ty Wg W → WgLive ty Wg W'
def Terra (τ : Terr) (R : Pr) (St : Nat → Prop) : Prop := ∀ a b, R a b → (St a → τ.still b) ∧ (¬ St a → τ.own b)
section
variable {L : Type} {P : Pair} {fs : FuncId → Bool} {K : Pr} {G' : Nat} {St : Nat → Prop} {ty : TypeId} {Wg : Nat} {A : Proto L} {Fin : Goroutine → World → Prop}
theorem evT_of_evOk {main : Bool} {R : Pr} {τ : Terr} {e : Event} (h : EvOk R St e) (ht : Terra τ R St) : EvT Wg main τ.own τ.still e := by
  rcases h with rfl | ⟨b, a, h1, h2, h3⟩
  · trivial
  · obtain ⟨t1, t2⟩ := ht a b h2
    obtain ⟨loc, wr, sy⟩ := e
    have key : τ.own b ∨ (τ.still b ∧ wr = false) := by
      by_cases hs : St a
      · refine .inr ⟨t1 hs, ?_⟩
        cases wr
        · rfl
        · exact absurd hs (h3 rfl)
      · exact .inl (t2 hs)
    cases loc with
    | cell x => simp only [evBlock, Option.some.injEq] at h1; subst h1; exact key
    | obj r => simp only [evBlock, Option.some.injEq] at h1; subst h1; exact key
    | _ => simp [evBlock] at h1
theorem evOk_quiet {R : Pr} {e : Event} (h : EvOk R St e) : e.loc ≠ .mark .disable ∧ e.loc ≠ .mark .enable := by
  rcases h with rfl | ⟨b, a, h1, _⟩
  · exact ⟨by simp, by simp⟩
  · obtain ⟨loc, wr, sy⟩ := e
    cases loc <;> simp [evBlock] at h1 ⊢
theorem wrel_suf {S : FuncId → Prop} {R : Pr} {w W W₁ : World} {τ : Terr} (h : WRel S K R G' St w W) (ht : Terra τ R St) (hK : ∀ a b, K a b → b < W.heap.size) (s : Suf ty Wg τ W W₁) : WRel S K R G' St w W₁ := by
  refine ⟨h.inj, h.inj', fun a b x => ⟨(h.lt a b x).1, Nat.lt_of_lt_of_le (h.lt a b x).2 s.size⟩, h.low, ⟨h.gle.1, Nat.le_trans h.gle.2 s.size⟩, fun a b x => ?_, h.rest, h.st, h.np⟩
  obtain ⟨o, o', h1, h2, h3⟩ := h.cont a b x
  refine ⟨o, o', h1, ?_, h3⟩
  rw [s.keep b ?_]; exact h2
  by_cases hs : St a
  · exact .inr ((ht a b x).1 hs)
  · exact .inl ((ht a b x).2 hs)
theorem Lft.refl {R : Pr} {τ : Terr} {W : World} : Lft ty Wg R St τ τ W W := ⟨rfl, rfl, rfl, Nat.le_refl _, fun _ _ _ _ => rfl, rfl, rfl, fun _ h => .inl h, fun _ h => h, id⟩
/-- THE TREE IN COMPANY. -/
theorem LT.beh (F : Fit2 P fs) (hG : G' = P.globals.size) {Q : Fm → World → Prop} {main : Bool} {ph : Ph L} {d : Nat} {base : List Frame} (hl : ph.live) {m : Fm} {ms : List Fm} {w : World} (h : Tt.LT P.g Q m ms w) :
    ∀ {R : Pr} {W : World} {m' : Fm} {ms' : List Fm} {τ : Terr}, WRel (SF fs) K R G' St w W → FmR P fs K R m m' → MsR P fs K R ms ms' → LowS P true m ms → Terra τ R St → ¬ τ.own Wg →
      Wg < W.heap.size →
      (∀ (mT : Fm) (wT : World), mT.ret = true → Q mT wT → ∀ (R' : Pr) (W' : World) (mT' : Fm) (τ' : Terr), R.le R' → WRel (SF fs) K R' G' St wT W' → FmR P fs K R' mT mT' → Terra τ' R' St → Lft ty Wg R St τ τ' W W' →
        (∀ a b, R' a b → R a b ∨ W.heap.size ≤ b) → BehE P.c ty Wg A Fin main ph d τ' (G mT'.fr base) W') →
      BehE P.c ty Wg A Fin main ph d τ (G m'.fr (ms'.map Fm.fr ++ base)) W := by
  induction h with
  | stop hr hq =>
    rename_i m w
    intro R W m' ms' τ hw hm hms hlow ht hWg _ hc
    cases hms
    exact hc m w hr hq R W m' τ (.refl R) hw hm ht .refl fun a b x => .inl x
  | step nx hs hrun hlt ih =>
    rename_i m ms w
    intro R W m' ms' τ hw hm hms hlow ht hWg hWl hc
    refine BehE.own rfl hl fun W₁ s => ?_
    have hw₁ := wrel_suf hw ht (fun a b x => (hw.lt a b (.inr x)).2) s
    let T : Tape := fun n q => W₁.tape (W₁.drawn + n) q
    have hw₂ : WRel (SF fs) K R G' St (tp w T 0) W₁ := ⟨hw₁.inj, hw₁.inj', hw₁.lt, hw₁.low, hw₁.gle, hw₁.cont, hw₁.rest, hw₁.st, hw₁.np⟩
    have htp : Tp (tp w T 0) W₁ := fun n q => by show W₁.tape (W₁.drawn + (0 + n)) q = _; rw [Nat.zero_add]
    obtain ⟨R1, x', W1, ev, e1, e2, e3, e4, e5⟩ := Sim.run hG _ (sim_stepS F (hw₂.relOk hG) hm hms hlow hs) hw₂ htp (hrun T)
    replace e2 := e2.resolve_right fun x => Bool.noConfusion x.1
    have hst := stepG_stepS (main := main) e1 base
    have hev : (stepS P.c m' ms').events P.c W₁ #[] = ev := by rw [e4]; simp
    rw [hev] at hst
    have hsub : ∀ e ∈ seen P.c m'.fn ev, EvOk R1 St e := fun e he => e5 e (mem_seen he)
    have hsz : W₁.heap.size ≤ W1.heap.size := e3.size.2
    have ht1 : Terra (τ.grow W₁ W1) R1 St := fun a b x => by
      rcases e3.new a b x with y | ⟨y1, y2⟩
      · exact ⟨(ht a b y).1, fun z => .inl ((ht a b y).2 z)⟩
      · refine ⟨fun z => ?_, fun _ => .inr ⟨y2, (e3.rel.ltR a b x).2⟩⟩
        obtain ⟨⟨b', hb'⟩, _⟩ := hw₂.st a z
        have := (hw₂.ltR a b' hb').1
        omega
    have hg : Gua τ.own W₁ W1 := ⟨e3.tape.2, e3.os.2, e3.out.2, hsz, fun b hb hno => e3.keep b hb fun a x => Classical.byContradiction fun z => hno ((ht a b x).2 z)⟩
    have hWl₁ : WgLive ty Wg W₁ → WgLive ty Wg W1 := fun x => by
      obtain ⟨p, q, hx⟩ := id x
      exact ⟨p, q, (hg.keep Wg x.lt hWg).trans hx⟩
    refine ⟨_, W1, _, hst, rfl, hg, fun e he => evT_of_evOk (hsub e he) ht1, ?_⟩
    rw [deafBehind_still (fun e he => evOk_quiet (hsub e he))]
    have hWg1 : ¬ (τ.grow W₁ W1).own Wg := fun e => e.elim hWg fun x => by have := s.size; omega
    have lift : ∀ {τ' : Terr} {W' : World}, Lft ty Wg R1 St (τ.grow W₁ W1) τ' W1 W' → Lft ty Wg R St τ τ' W W' := fun {τ' W'} l => by
      refine ⟨(l.tape.trans e3.tape.2).trans s.tape, (l.os.trans e3.os.2).trans s.os, (l.output.trans e3.out.2).trans s.output, Nat.le_trans s.size (Nat.le_trans hsz l.size), fun b hb ho hn => ?_, l.still, l.pass, fun b hb => ?_, fun b hb => l.own' b (.inl hb), fun x => l.live (hWl₁ (s.live x))⟩
      · have hb1 : b < W₁.heap.size := Nat.lt_of_lt_of_le hb s.size
        rw [l.keep b (by omega) (ho.imp .inl id) (fun a x => ?_), e3.keep b hb1 (fun a x => hn a x), s.keep b ho]
        rcases e3.new a b x with y | ⟨_, y⟩
        · exact hn a y
        · omega
      · rcases l.own b hb with (y | ⟨y1, y2⟩) | ⟨y1, y2⟩
        · exact .inl y
        · exact .inr ⟨Nat.le_trans s.size y1, Nat.lt_of_lt_of_le y2 l.size⟩
        · exact .inr ⟨by have := s.size; omega, y2⟩
    have goon := ih T e3.rel e2.1 e2.2.1 e2.2.2 ht1
    refine goon hWg1 (by have := s.size; omega) fun mT wT a b R' W' mT' τ' c1 c2 c3 c4 c5 c6 => ?_
    exact hc mT wT a b R' W' mT' τ' (e3.le.trans c1) c2 c3 c4 (lift c5) fun p q x => by
      rcases c6 p q x with y | y
      · rcases e3.new p q y with z | ⟨_, z⟩
        · exact .inl z
        · exact .inr (Nat.le_trans s.size z)
      · exact .inr (by have := s.size; omega)
end
end Go.Mt
namespace Go.Mt
open Go.Conc Go.Tt
open Go.ConcN (sumTo sumTo_upd upd_ne upd_same)
open Go.ConcR (KK wgBlock WgAt stA smA rd wr)
set_option linter.unusedVariables false
/-- The run ends, and well. -/
def Ends (P : Program) (Post : Value → World → Prop) (m : Machine) (t : Trace) : Prop :=
  ∃ M last o w' t', runNT P (M + 1) m t = (.ended o w', t') ∧ runN P M m = .next last ∧ step P last = .ended o w' ∧ Conc.Good P Post last o w' t'
section
variable {P : Program} {Post : Value → World → Prop}
theorem Ends.step {m m' : Machine} {t : Trace} {ops : Array MemOp} (h : stepT P m = (.next m', ops)) (he : Ends P Post m' (t ++ ops)) : Ends P Post m t := by
  obtain ⟨M, last, o, w', t', h1, h2, h3, h4⟩ := he
  refine ⟨M + 1, last, o, w', t', ?_, ?_, h3, h4⟩
  · rw [runNT, h]; exact h1
  · have : Go.step P m = .next m' := by rw [Go.step, h]
    rw [runN_next this]; exact h2
theorem Ends.run : ∀ (N : Nat) {m m' : Machine} {t t' : Trace}, runNT P N m t = (.next m', t') → Ends P Post m' t' → Ends P Post m t := by
  intro N
  induction N with
  | zero =>
    intro m m' t t' h he
    simp only [runNT, Prod.mk.injEq, Stepped.next.injEq] at h
    obtain ⟨rfl, rfl⟩ := h
    exact he
  | succ N ih =>
    intro m m' t t' h he
    rw [runNT] at h
    generalize hs : stepT P m = s at h
    obtain ⟨s, ops⟩ := s
    cases s with
    | next m1 => exact Ends.step hs (ih h he)
    | ended o w => simp at h
variable (P Post)
/-- Goroutine 0 at g, in world w, beside whatever leavers, on whatever past: the run ends well. -/
def J (Shun : Loc → Prop) (B : Nat) (g : Goroutine) (w : World) : Prop :=
  ∀ (gs : Array Goroutine) (t : Trace) (sl : Option (Nat × Nat)) (q : Nat → Nat), gs[0]? = some g → Leavers P t gs q → Past Shun B t → Ends P Post (crowd gs w sl) t
variable {P Post}
theorem J.own {Shun : Loc → Prop} {B : Nat} {g : Goroutine} {w : World} (hrun : g.status = .running)
    (h : ∀ d, ∃ g' w' es B', stepG P true g (w.at d) = .go g' w' es ∧ (∀ e ∈ es, EvL Shun B' e) ∧ B ≤ B' ∧ J P Post Shun B' g' w') : J P Post Shun B g w := by
  have key : ∀ (M : Nat) (d : Nat) (gs : Array Goroutine) (t : Trace) (sl : Option (Nat × Nat)) (q : Nat → Nat), sumTo gs.size q = M → gs[0]? = some g → Leavers P t gs q → Past Shun B t → Ends P Post (crowd gs (w.at d) sl) t := by
    intro M
    induction M using Nat.strongRecOn with
    | ind M ih =>
    intro d gs t sl q hM h0 hL hP
    have haw : ∀ x ∈ gs, awake x := by
      intro x hx
      obtain ⟨i, hi, rfl⟩ := Array.mem_iff_getElem.1 hx
      rcases Nat.eq_zero_or_pos i with rfl | hpos
      · have : gs[0] = g := by simpa [Array.getElem?_eq_getElem hi] using h0
        rw [this]; exact awake_of (.inl hrun)
      · exact awake_of ((hL.old i _ hpos (Array.getElem?_eq_getElem hi)).status.elim .inl fun x => .inr (.inr x))
    obtain ⟨i, x, d', sl', hi, hx, hst⟩ := crowd_pick (P := P) (w := w.at d) (sl := sl) haw ⟨0, g, h0, hrun⟩
    rw [show (w.at d).at d' = w.at d' from rfl] at hst
    rcases Nat.eq_zero_or_pos i with rfl | hpos
    · obtain rfl : x = g := by rw [h0] at hi; exact (Option.some.inj hi).symm
      obtain ⟨g', w', es, B', hgo, hes, hsz, hJ⟩ := h d'
      have hrunT := runT_crowd_go (P := P) (sl := sl') (i := 0) hi (show stepG P (0 == 0) x (w.at d') = _ from hgo)
      have hlt : 0 < gs.size := (Array.getElem?_eq_some_iff.1 h0).1
      refine Ends.step (hst.trans hrunT) (hJ _ _ _ q (by simp [hlt]) ⟨fun j y hj hy => ?_, fun j hj => ?_⟩ ((hP.mono hsz).own hes))
      · have hne : 0 ≠ j := by omega
        rw [Array.getElem?_setIfInBounds_ne hne, Array.getElem?_map] at hy
        obtain ⟨z, hz, rfl⟩ := Option.map_eq_some_iff.1 hy
        have hq := hL.old j z hj hz
        rw [woken_quitsD hq, Deaf_other t (by omega) _ (fun op hop => by obtain ⟨e, _, rfl⟩ := Conc.mem_ofEvents hop; rfl)]
        exact hq
      · rw [Deaf_other t (g' := 0) (by simp at hj; omega) _ (fun op hop => by obtain ⟨e, _, rfl⟩ := Conc.mem_ofEvents hop; rfl)]
        exact hL.above j (by simpa using hj)
    · have hq := hL.old i x hpos hi
      have hi0 : (i == 0) = false := by simp; omega
      have hlt : i < gs.size := (Array.getElem?_eq_some_iff.1 hi).1
      cases hqi : q i with
      | zero => rw [hqi] at hq; rw [hq.1] at hx; cases hx
      | succ k =>
        rw [hqi] at hq
        rcases hq with ⟨hf, _⟩ | ⟨_, g', es, hm, hstp, hq'⟩
        · rw [hf] at hx; cases hx
        have hrunT := runT_crowd_go (P := P) (sl := sl') (i := i) hi (by rw [hi0]; exact hstp (w.at d'))
        have hsz : ((gs.map (woken P x g' (w.at d'))).setIfInBounds i g').size = gs.size := by simp
        have hsum : sumTo gs.size (ConcN.upd q i k) + (k + 1) = sumTo gs.size q + k := by
          have := sumTo_upd q k id hlt
          simp only [hqi, id] at this
          exact this
        refine Ends.step (hst.trans hrunT) (ih (sumTo gs.size (ConcN.upd q i k)) (by omega) d' _ _ _ (ConcN.upd q i k) (by rw [hsz]) ?_ ⟨fun j y hj hy => ?_, fun j hj => ?_⟩ (hP.mute (by omega) hm))
        · have hne : i ≠ 0 := by omega
          rw [Array.getElem?_setIfInBounds_ne hne, Array.getElem?_map, h0]
          simp [woken_run hrun]
        · by_cases hji : i = j
          · subst hji
            rw [Array.getElem?_setIfInBounds_self_of_lt (by simpa using hlt)] at hy
            obtain rfl := Option.some.inj hy
            rw [ConcN.upd_same, Deaf_own]
            exact hq'
          · rw [Array.getElem?_setIfInBounds_ne hji, Array.getElem?_map] at hy
            obtain ⟨z, hz, rfl⟩ := Option.map_eq_some_iff.1 hy
            have hqj := hL.old j z hj hz
            rw [woken_quitsD hqj, ConcN.upd_ne q k (Ne.symm hji), Deaf_other t hji _ (fun op hop => by obtain ⟨e, _, rfl⟩ := Conc.mem_ofEvents hop; rfl)]
            exact hqj
        · rw [Deaf_other t (g' := i) (by simp at hj; omega) _ (fun op hop => by obtain ⟨e, _, rfl⟩ := Conc.mem_ofEvents hop; rfl)]
          exact hL.above j (by simpa using hj)
  intro gs t sl q h0 hL hP
  have := key _ w.drawn gs t sl q rfl h0 hL hP
  exact this
/-- The return. -/
theorem J.done {Shun : Loc → Prop} {B : Nat} {g : Goroutine} {w : World} (hrun : g.status = .running)
    (h : ∀ d, ∃ v es, stepG P true g (w.at d) = .ended (.done v) (w.at d) es ∧ (∀ e ∈ es, EvL Shun B e) ∧ Post v (w.at d)) : J P Post Shun B g w := by
  intro gs t sl q h0 hL hP
  exact beside_ends (B := B) (D := fun _ _ es => ∀ e ∈ es, EvL Shun B e) (n := 0) (fun _ _ _ hd => hd) h0 hL hP (fun w₁ ⟨d, hd⟩ => by subst hd; exact ⟨hrun, h d⟩)
/-- A PHASE. -/
theorem J.phase {L : Type} {ty : TypeId} {Wg : Nat} {A : Proto L} (hA : A.Ok) {Shun : Loc → Prop} {a : Goroutine} {w : World} {l : L} {τ : Terr} {B : Nat}
    (hb : BehE P ty Wg A (fun g w' => J P Post (fun l => Shun l ∨ onB l Wg) w'.heap.size g w') true (.usr l) 0 τ a w) (hg : WgAt ty Wg w 0 0) (hB : B ≤ Wg ∧ B ≤ w.heap.size)
    (bnd : ∀ b, τ.own b ∨ τ.still b ∨ τ.pass b → b < w.heap.size ∧ b ≠ Wg ∧ ∀ l, onB l b → ¬ Shun l) (pend : A.pend l = false)
    (inv : A.Inv (fun i => if i = 0 then .run l else .gone) (fun _ => none)) : J P Post Shun B a w := by
  intro gs t sl q h0 hL hP
  obtain ⟨N, m', t', h1, gs', a', w', sl', q', rfl, h2, h3, h4, h5, h6⟩ := Mt.phase hA (S := ⟨h0, hL, hP, hb, hg, hB, bnd, pend, inv⟩) sl
  exact Ends.run N h1 (h4 gs' t' sl' q' h2 h5 h6)
end
end Go.Mt
namespace Go.Mt
open Go.Conc Go.Tt
open Go.ConcR (KK wgBlock WgAt stA smA rd wr)
set_option linter.unusedVariables false
abbrev K0 : Pr := fun _ _ => False
/-- What is shunned: old blocks that the relation does not name. -/
structure Sh (n : Nat) (Shun : Loc → Prop) (R : Pr) (W : World) : Prop where
  old : ∀ l b, onB l b → b < n → ¬ Shun l
  rel : ∀ a b, R a b → ∀ l, onB l b → ¬ Shun l
  new : ∀ l b, onB l b → W.heap.size ≤ b → ¬ Shun l
/-- What stands since the beginning. -/
structure Kp (W0 : World) (R : Pr) (St : Nat → Prop) (W : World) : Prop where
  os : W.os = W0.os
  tape : W.tape = W0.tape
  output : W.output = W0.output
  size : W0.heap.size ≤ W.heap.size
  block : ∀ b, b < W0.heap.size → W.heap[b]? = W0.heap[b]?
  old : ∀ a b, R a b → b < W0.heap.size → St a
theorem Kp.below {W0 W : World} {R : Pr} {St : Nat → Prop} (h : Kp W0 R St W) : RowKit.Below W0.heap.size W0 W := ⟨h.os, h.tape, h.output, h.size, h.block⟩
section
variable (P : Pair) (fs : FuncId → Bool) (G' : Nat) (St : Nat → Prop) (W0 : World) (Post : Value → World → Prop)
def JO (m : Fm) (ms : List Fm) (w : World) : Prop :=
  ∀ (K R : Pr) (W : World) (m' : Fm) (ms' : List Fm) (Shun : Loc → Prop), WRel (SF fs) K R G' St w W → FmR P fs K R m m' → MsR P fs K R ms ms' → Sh W0.heap.size Shun R W → Kp W0 R St W →
    J P.c Post Shun W.heap.size (G m'.fr (ms'.map Fm.fr)) W
variable {P fs G' St W0 Post}
theorem JO.tape {m : Fm} {ms : List Fm} {w : World} (h : JO P fs G' St W0 Post m ms w) (T : Tape) (e : Nat) : JO P fs G' St W0 Post m ms (Tt.tp w T e) :=
  fun K R W m' ms' Shun a b c d k => h K R W m' ms' Shun a.untp b c d k
theorem evL_of_evOk {Shun : Loc → Prop} {R : Pr} {W : World} {St : Nat → Prop} {e : Event} (h : EvOk R St e) {n : Nat} (hs : Sh n Shun R W) (hlt : ∀ a b, R a b → b < W.heap.size) : EvL Shun W.heap.size e := by
  rcases h with rfl | ⟨b, a, h1, h2, h3⟩
  · exact ⟨fun x hx => by simp [MemAct.ofEvent, MemAct.touch?] at hx, by simp, by simp, trivial⟩
  · obtain ⟨loc, wr, sy⟩ := e
    cases loc with
    | cell x =>
      simp only [evBlock, Option.some.injEq] at h1
      refine ⟨fun y hy hsh => ?_, by simp, by simp, ?_⟩
      · simp only [MemAct.ofEvent, MemAct.touch?, Option.some.injEq] at hy
        subst hy
        exact absurd hsh (hs.rel a b h2 _ h1)
      · show x.block < W.heap.size
        rw [h1]; exact hlt a b h2
    | obj r =>
      simp only [evBlock, Option.some.injEq] at h1
      have hr : r < W.heap.size := by rw [h1]; exact hlt a b h2
      refine ⟨fun y hy hsh => ?_, by simp, by simp, ?_⟩
      · have hyl : y.loc = .obj r := by
          cases wr <;> cases sy <;> simp only [MemAct.ofEvent, MemAct.touch?, Option.some.injEq] at hy <;> first | (subst hy; rfl) | (cases hy; done)
        exact absurd (hyl ▸ hsh) (hs.rel a b h2 (.obj r) h1)
      · cases wr <;> cases sy <;> exact hr
    | _ => simp [evBlock] at h1
theorem WRel.at {S : FuncId → Prop} {K R : Pr} {G' : Nat} {w W : World} (h : WRel S K R G' St w W) (d : Nat) : WRel S K R G' St w (W.at d) :=
  ⟨h.inj, h.inj', h.lt, h.low, h.gle, h.cont, h.rest, h.st, h.np⟩
/-- ONE STEP of the ghost. -/
theorem JO.one (F : Fit2 P fs) (hG : G' = P.globals.size) {m : Fm} {ms : List Fm} {w : World} (hs : m.ret = true → ms ≠ []) (nx : Tape → (Fm × List Fm) × World) (hrun : ∀ T, (stepS P.g m ms).run P.g (Tt.tp w T 0) = .ok (nx T).1 (nx T).2)
    (hno : ∀ T K R y, ¬ OpR P fs K R (nx T).1 y) (hJ : ∀ T, JO P fs G' St W0 Post (nx T).1.1 (nx T).1.2 (nx T).2) : JO P fs G' St W0 Post m ms w := by
  intro K R W m' ms' Shun hw hm hms hsh hk
  refine J.own rfl fun d => ?_
  have hw₁ := WRel.at hw d
  let W₁ := W.at d
  let T : Tape := fun n q => W₁.tape (W₁.drawn + n) q
  have hw₂ : WRel (SF fs) K R G' St (Tt.tp w T 0) W₁ := ⟨hw₁.inj, hw₁.inj', hw₁.lt, hw₁.low, hw₁.gle, hw₁.cont, hw₁.rest, hw₁.st, hw₁.np⟩
  have htp : Tp (Tt.tp w T 0) W₁ := fun n q => by show W₁.tape (W₁.drawn + (0 + n)) q = _; rw [Nat.zero_add]
  obtain ⟨R1, x', W1, ev, e1, e2, e3, e4, e5⟩ := Sim.run hG _ (sim_stepS (l := false) F (hw₂.relOk hG) hm hms (fun e => by cases e) hs) hw₂ htp (hrun T)
  replace e2 := e2.resolve_right fun x => hno T K R1 x' x.2
  have hst := stepG_stepS (main := true) e1 []
  simp only [List.append_nil] at hst
  have hev : (stepS P.c m' ms').events P.c W₁ #[] = ev := by rw [e4]; simp
  rw [hev] at hst
  have hsz : W.heap.size ≤ W1.heap.size := e3.size.2
  have hsh1 : Sh W0.heap.size Shun R1 W1 := ⟨hsh.old, fun a b x l hl => by
    rcases e3.new a b x with y | ⟨_, y⟩
    · exact hsh.rel a b y l hl
    · exact hsh.new l b hl y, fun l b hl hb => hsh.new l b hl (Nat.le_trans hsz hb)⟩
  have hk1 : Kp W0 R1 St W1 := by
    refine ⟨e3.os.2.trans hk.os, e3.tape.2.trans hk.tape, e3.out.2.trans hk.output, Nat.le_trans hk.size hsz, fun b hb => ?_, fun a b x hb => ?_⟩
    · have hbW : b < W.heap.size := Nat.lt_of_lt_of_le hb hk.size
      rw [e3.keep b hbW (fun a x => hk.old a b x hb)]
      exact hk.block b hb
    · rcases e3.new a b x with y | ⟨_, y⟩
      · exact hk.old a b y hb
      · have h9 : W.heap.size ≤ b := y
        have := hk.size
        omega
  refine ⟨_, W1, _, W1.heap.size, hst, fun e he => evL_of_evOk (e5 e (mem_seen he)) hsh1 (fun a b x => (e3.rel.ltR a b x).2), hsz, ?_⟩
  exact hJ T K R1 W1 x'.1 x'.2 Shun e3.rel e2.1 e2.2.1 hsh1 hk1
/-- A TREE of the ghost's, none of whose steps comes to an opaque function. -/
theorem LTs.jo (F : Fit2 P fs) (hG : G' = P.globals.size) {N : Fm → Prop} (hop : ∀ f xs, P.op f = true → ¬ N (entF P.g f xs)) {Stop : Fm → List Fm → World → Prop} (hS : ∀ m ms w, Stop m ms w → JO P fs G' St W0 Post m ms w) {m : Fm} {ms : List Fm} {w : World} (h : LTs P.g N Stop m ms w) :
    JO P fs G' St W0 Post m ms w := by
  induction h with
  | stop hs => exact hS _ _ _ hs
  | step nx hs hrun hN hlt ih =>
    rename_i m ms w
    refine JO.one F hG hs nx hrun (fun T K R y ho => ?_) ih
    obtain ⟨f, xs, xs', c, c', rest, rest', h1, h2, h3, h4, _⟩ := ho.ex
    have hNT := hN T
    rw [h4] at hNT
    exact hop f xs h1 hNT
end
end Go.Mt
namespace Go.Mt
open Go.Conc Go.Tt
open Go.ConcR (KK wgBlock WgAt stA smA rd wr)
set_option linter.unusedVariables false
/-- The pair of the law level: one program; op: the functions that start goroutines; gs: those that may be called. -/
abbrev PL (p : Program) (op gs : FuncId → Bool) : Pair := ⟨p, p.funcs, op, fun _ => false, gs, false⟩
abbrev PS (p : Program) (gs : FuncId → Bool) : Pair := ⟨p, p.funcs, fun _ => false, fun _ => false, gs, false⟩
abbrev noFn : FuncId → Bool := fun _ => false
/-- What is asked of the program. -/
structure Lv (p : Program) (op gs gs₁ fs : FuncId → Bool) : Prop where
  fit : Fit2 (PL p op gs) fs
  fit₁ : Fit3 (PS p gs₁) fs
  nofit : ∀ f, op f = true → ∃ fn c, p.funcs[f]? = some fn ∧ fn.body = some c ∧ (fn.name == "runtime.NumGoroutine") = false ∧ fitCode p ⟨fs, gs₁, false⟩ c = false
section
variable {p : Program} {op gs gs₁ fs : FuncId → Bool} {St : Nat → Prop} {W0 : World} {Post : Value → World → Prop}
/-- The judgement, for a program. -/
abbrev JL (p : Program) (op gs fs : FuncId → Bool) (St : Nat → Prop) (W0 : World) (Post : Value → World → Prop) (m : Fm) (ms : List Fm) (w : World) : Prop := JO (PL p op gs) fs p.globals.size St W0 Post m ms w
theorem entF_fn (p : Program) (f : FuncId) (xs : Array Value) : (entF p f xs).fn = f := by
  unfold entF
  split
  · split <;> rfl
  · rfl
theorem JO.untape {P : Pair} {fs : FuncId → Bool} {G' : Nat} {m : Fm} {ms : List Fm} {w : World} {T : Tape} {e : Nat} (h : JO P fs G' St W0 Post m ms (Tt.tp w T e)) : JO P fs G' St W0 Post m ms w :=
  fun K R W m' ms' Shun a b c d k => h K R W m' ms' Shun ⟨a.inj, a.inj', a.lt, a.low, a.gle, a.cont, a.rest, a.st, a.np⟩ b c d k
theorem RelS.tape {P : Pair} {fs : FuncId → Bool} {K : Pr} {G' : Nat} {m : Fm} {ms : List Fm} {w : World} (h : RelS P fs K G' St m ms w) (T : Tape) (e : Nat) : RelS P fs K G' St m ms (Tt.tp w T e) := by
  obtain ⟨R, W, m', ms', a, b, c⟩ := h
  exact ⟨R, W, m', ms', ⟨a.inj, a.inj', a.lt, a.low, a.gle, a.cont, a.rest, a.st, a.np⟩, b, c⟩
/-- The tree of a text. -/
theorem piece_tree {P₁ : Pair} {fs₁ : FuncId → Bool} {K₁ : Pr} {G₁ : Nat} {St₁ : Nat → Prop} (F₁ : Fit3 P₁ fs₁) (hG₁ : G₁ = P₁.globals.size) {fn : FuncId} {tmps : Array Value} {c : Code} {w : World} {Q : Exit → Go.Act → World → Prop}
    (hrel : RelS P₁ fs₁ K₁ G₁ St₁ ⟨fn, tmps, [.code c], false⟩ [] w) (hwp : ∀ T, Code.wp P₁.g c Q ⟨tmps, []⟩ (Tt.tp w T 0)) (hx : ∀ e a w, Q e a w → e = .normal ∨ e = .ret) (hQt : ∀ e a w T k, Q e a w → Q e a (Tt.tp w T k)) :
    Tt.LT P₁.g (fun mT wT => mT.ret = true ∧ ((mT.todo = [] ∧ Q .normal ⟨mT.tmps, []⟩ wT) ∨ Q .ret ⟨mT.tmps, []⟩ wT)) ⟨fn, tmps, [.code c], false⟩ [] w := by
  refine bar F₁ hG₁ (fun m w T e h => ⟨h.1, h.2.imp (fun x => ⟨x.1, hQt _ _ _ _ _ x.2⟩) (hQt _ _ _ _ _)⟩) ⟨hrel, fun T => ?_⟩
  let b : Frame := { (default : Frame) with fn := fn, kind := .normal }
  obtain ⟨e, a', w', hq, harr⟩ := hwp T b [] [pz]
  have hrel' := RelS.tape hrel T 0
  have fin : ∀ todo, Steps P₁.g (lone (b.at ⟨tmps, []⟩ [.code c]) [pz] (Tt.tp w T 0)) (lone { b.at a' todo with mode := .returning } [pz] w') → ((todo = [] ∧ Q .normal a' w') ∨ Q .ret a' w') →
      ∃ n mT wT, Its P₁.g n ⟨fn, tmps, [.code c], false⟩ [] (Tt.tp w T 0) mT wT ∧ mT.ret = true ∧ ((mT.todo = [] ∧ Q .normal ⟨mT.tmps, []⟩ wT) ∨ Q .ret ⟨mT.tmps, []⟩ wT) := by
    intro todo hs hqq
    obtain ⟨n, hn⟩ := hs
    obtain ⟨k, mT, hi, hfr⟩ := reach F₁ hG₁ (frT := { b.at a' todo with mode := .returning }) rfl n hrel' hn
    have h1 : mT.tmps = a'.tmps := congrArg Frame.tmps hfr
    have h2 : a'.defers = [] := (congrArg Frame.defers hfr).symm
    have h3 : mT.todo = todo := congrArg Frame.todo hfr
    have h4 : mT.ret = true := by
      cases hr : mT.ret with
      | true => rfl
      | false => have := congrArg Frame.mode hfr; rw [Fm.fr_run hr] at this; cases this
    have h5 : (⟨mT.tmps, []⟩ : Go.Act) = a' := by rw [h1, ← h2]
    exact ⟨k, mT, w', hi, h4, by rw [h5, h3]; exact hqq⟩
  rcases hx e a' w' hq with rfl | rfl
  · exact fin [] (Steps.trans harr (Steps.one step_end)) (.inl ⟨rfl, hq⟩)
  · obtain ⟨todo, hs⟩ := harr
    exact fin todo hs (.inr hq)
def notOp (p : Program) (op : FuncId → Bool) (m : Fm) : Prop := ∀ f xs, op f = true → m ≠ entF p f xs
theorem Lv.hop (L : Lv p op gs gs₁ fs) : ∀ f xs, (PL p op gs).op f = true → ¬ notOp p op (entF (PL p op gs).g f xs) := fun f xs h hn => hn f xs h rfl
theorem Lv.hN (L : Lv p op gs gs₁ fs) {K₁ : Pr} : ∀ m R y, FmR (PS p gs₁) fs K₁ R m y → notOp p op m := by
  rintro m R y hm f xs ho rfl
  obtain ⟨fn, c, h1, h2, _, h4⟩ := L.nofit f ho
  have h5 : entF p f xs = ⟨f, xs ++ Array.replicate (fn.ntmps - xs.size) undef, [.code c], false⟩ := by simp [entF, h1, h2]
  have hf := hm.fit
  rw [h5] at hf
  have := hf (.code c) (by simp)
  have h6 : cls (PS p gs₁) fs f = ⟨fs, gs₁, false⟩ := rfl
  simp only [fitItem, h6, h4] at this
  cases this
theorem relS_piece {K : Pr} {R : Pr} {fn : FuncId} {tmps : Array Value} {c : Code} {k : List Item} {w W : World} {m' : Fm} (hc : fitCode p ⟨fs, gs₁, false⟩ c = true)
    (hw : WRel (SF fs) K R p.globals.size St w W) (hm : FmR (PL p op gs) fs K R ⟨fn, tmps, .code c :: k, false⟩ m') : RelS (PS p gs₁) fs K p.globals.size St ⟨fn, tmps, [.code c], false⟩ [] w := by
  refine ⟨R, W, { m' with todo := [.code c] }, [], hw, ⟨hm.fn, rfl, hm.ret, hm.tmps, fun i hi => ?_, hm.infs⟩, .nil⟩
  simp only [List.mem_cons, List.not_mem_nil, or_false] at hi
  subst hi
  exact hc
/-- A PIECE OF TEXT, by the kit's walk. -/
theorem JO.piece (L : Lv p op gs gs₁ fs) {fn : FuncId} {tmps : Array Value} {c : Code} {k : List Item} {b : List Fm} {w : World} (hc : fitCode p ⟨fs, gs₁, false⟩ c = true) (hfn : op fn = false)
    (hwp : ∀ T, Code.wp p c (fun e a' w' => e = .normal ∧ JL p op gs fs St W0 Post ⟨fn, a'.tmps, k, false⟩ b w') ⟨tmps, []⟩ (Tt.tp w T 0)) : JL p op gs fs St W0 Post ⟨fn, tmps, .code c :: k, false⟩ b w := by
  intro K R W m' ms' Shun hw hm hms hsh hk
  have hrel := relS_piece (gs₁ := gs₁) hc hw hm
  have tree := piece_tree L.fit₁ rfl hrel hwp (fun e a w h => .inl h.1) (fun e a w T k h => ⟨h.1, h.2.tape T k⟩)
  have tree2 := LT.app L.fit₁ rfl (N := notOp p op) (Stop := fun m ms w => JL p op gs fs St W0 Post m ms w) k b (fn0 := fn) (L.hN (K₁ := K)) (fun m e f xs ho e2 => by rw [e2, entF_fn] at e; rw [e, hfn] at ho; cases ho)
    (fun x w e1 e2 e3 hq => by
      have h1 := hq w.tape
      rcases h1.2 with h | h
      · have h2 := JO.untape h.2.2
        obtain ⟨xf, xt, xd, xr⟩ := x
        simp only at e1 e2 e3 h2
        subst e1 e2 e3
        exact h2
      · cases h.1)
    (fun x w e1 e2 e3 hq => by
      rcases hq.2 with h | h
      · exact absurd h.1 e3
      · cases h.1) tree rfl hrel (fun _ e => by cases e)
  exact LTs.jo L.fit rfl L.hop (fun m ms w h => h) tree2 K R W m' ms' Shun hw hm hms hsh hk
/-- A step that draws nothing, enters nothing and leaves the world. -/
theorem JO.ctl (L : Lv p op gs gs₁ fs) {m m1 : Fm} {ms : List Fm} {w : World} (hr : m.ret = false) (hf : op m1.fn = false) (hrun : ∀ w, (runS p m ms).run p w = .ok (m1, ms) w) (hJ : JL p op gs fs St W0 Post m1 ms w) : JL p op gs fs St W0 Post m ms w := by
  refine JO.one L.fit rfl (fun e => by rw [hr] at e; cases e) (fun T => ((m1, ms), Tt.tp w T 0)) (fun T => ?_) (fun T K R y ho => ?_) fun T => hJ.tape T 0
  · show (stepS p m ms).run p _ = _
    simp only [stepS, hr, Bool.false_eq_true, if_false]
    exact hrun _
  · obtain ⟨f, xs, xs', c, c', rest, rest', h1, h2, h3, h4, _⟩ := ho.ex
    simp only [Prod.mk.injEq] at h4
    have h5 := h4.1
    rw [h5, entF_fn] at hf
    have h6 : op f = true := h1
    rw [hf] at h6; cases h6
theorem JO.seq (L : Lv p op gs gs₁ fs) {fn : FuncId} {tmps : Array Value} {a b : Code} {k : List Item} {ms : List Fm} {w : World} (hf : op fn = false) (h : JL p op gs fs St W0 Post ⟨fn, tmps, .code a :: .code b :: k, false⟩ ms w) : JL p op gs fs St W0 Post ⟨fn, tmps, .code (.seq a b) :: k, false⟩ ms w :=
  JO.ctl L rfl hf (fun w => rfl) h
theorem JO.cond (L : Lv p op gs gs₁ fs) {fn : FuncId} {tmps : Array Value} {c : Operand} {a b : Code} {k : List Item} {ms : List Fm} {w : World} {t : Bool} (hf : op fn = false) (hc : (Go.Act.mk tmps []).eval c = .bool t) (h : JL p op gs fs St W0 Post ⟨fn, tmps, .code (if t then a else b) :: k, false⟩ ms w) : JL p op gs fs St W0 Post ⟨fn, tmps, .code (.cond c a b) :: k, false⟩ ms w := by
  refine JO.ctl L rfl hf (fun w => ?_) h
  have he : Fm.eval ⟨fn, tmps, .code (.cond c a b) :: k, false⟩ c = .bool t := by rw [← hc]; cases c <;> rfl
  simp only [runS, he, Pure.pure, Sem.run]
theorem JO.skip (L : Lv p op gs gs₁ fs) {fn : FuncId} {tmps : Array Value} {k : List Item} {ms : List Fm} {w : World} (hf : op fn = false) (h : JL p op gs fs St W0 Post ⟨fn, tmps, k, false⟩ ms w) : JL p op gs fs St W0 Post ⟨fn, tmps, .code .skip :: k, false⟩ ms w := JO.ctl L rfl hf (fun w => rfl) h
theorem JO.ret (L : Lv p op gs gs₁ fs) {fn : FuncId} {tmps : Array Value} {k : List Item} {ms : List Fm} {w : World} (hf : op fn = false) (h : JL p op gs fs St W0 Post ⟨fn, tmps, .code .ret :: k, true⟩ ms w) : JL p op gs fs St W0 Post ⟨fn, tmps, .code .ret :: k, false⟩ ms w := JO.ctl L rfl hf (fun w => rfl) h
theorem JO.fall (L : Lv p op gs gs₁ fs) {fn : FuncId} {tmps : Array Value} {ms : List Fm} {w : World} (hf : op fn = false) (h : JL p op gs fs St W0 Post ⟨fn, tmps, [], true⟩ ms w) : JL p op gs fs St W0 Post ⟨fn, tmps, [], false⟩ ms w := JO.ctl L rfl hf (fun w => rfl) h
theorem JO.reg (L : Lv p op gs gs₁ fs) {fn : FuncId} {tmps : Array Value} {id : Nat} {ops : Array Oper} {k : List Item} {ms : List Fm} {w : World} (hf : op fn = false) (h : JL p op gs fs St W0 Post ⟨fn, tmps, .inRegion ops (List.range ops.size) :: k, false⟩ ms w) : JL p op gs fs St W0 Post ⟨fn, tmps, .code (.region id ops false) :: k, false⟩ ms w := JO.ctl L rfl hf (fun w => rfl) h
theorem JO.regEnd (L : Lv p op gs gs₁ fs) {fn : FuncId} {tmps : Array Value} {ops : Array Oper} {k : List Item} {ms : List Fm} {w : World} (hf : op fn = false) (h : JL p op gs fs St W0 Post ⟨fn, tmps, k, false⟩ ms w) : JL p op gs fs St W0 Post ⟨fn, tmps, .inRegion ops [] :: k, false⟩ ms w := JO.ctl L rfl hf (fun w => rfl) h
/-- An operation that yields a value and leaves the world. -/
theorem JO.opv (L : Lv p op gs gs₁ fs) {fn : FuncId} {tmps : Array Value} {ops : Array Oper} {i : Nat} {rest : List Nat} {k : List Item} {ms : List Fm} {w : World} {o : Oper} {v : Value} (hf : op fn = false) (ho : ops[i]? = some o) (hwt : Region.wanted o (yielded ops tmps) = true)
    (hx : ∀ T e, (execOp (Go.Act.mk tmps []).eval o).run p (Tt.tp w T e) = .ok (.value v) (Tt.tp w T e)) (h : JL p op gs fs St W0 Post ⟨fn, (Go.Act.put ⟨tmps, []⟩ o.dst v).tmps, .inRegion ops rest :: k, false⟩ ms w) : JL p op gs fs St W0 Post ⟨fn, tmps, .inRegion ops (i :: rest) :: k, false⟩ ms w := by
  refine JO.one L.fit rfl (fun e => by cases e) (fun T => ((⟨fn, (Go.Act.put ⟨tmps, []⟩ o.dst v).tmps, .inRegion ops rest :: k, false⟩, ms), Tt.tp w T 0)) (fun T => ?_) (fun T K R y hoo => ?_) fun T => h.tape T 0
  · show (stepS p _ ms).run p _ = _
    simp only [stepS, Bool.false_eq_true, if_false, runS, ho, Option.map_some, Option.getD_some, hwt, if_true]
    have he : Fm.eval ⟨fn, tmps, .inRegion ops (i :: rest) :: k, false⟩ = (Go.Act.mk tmps []).eval := by funext x; cases x <;> rfl
    rw [he]
    refine (Sem.run_bind' p _ _ _).trans ?_
    rw [hx]
    simp only [Result.andThen, opS, Pure.pure, Sem.run, Fm.fin, ho, Option.bind_some, Go.Act.put]
    cases o.dst <;> rfl
  · obtain ⟨f, xs, xs', c, c', rest, rest', h1, h2, h3, h4, _⟩ := hoo.ex
    simp only [Prod.mk.injEq] at h4
    have h5 := congrArg Fm.fn h4.1
    rw [entF_fn] at h5
    have h6 : op f = true := h1
    simp only at h5
    rw [← h5, hf] at h6; cases h6
/-- Its way back. -/
theorem JO.back (L : Lv p op gs gs₁ fs) {x m : Fm} {ms : List Fm} {w : World} {ops : Array Oper} {i : Nat} {rest : List Nat} {k : List Item} {v : Value} (hr : x.ret = true) (htd : m.todo = .inRegion ops (i :: rest) :: k) {fnx : Func} (hfx : p.funcs[x.fn]? = some fnx) (hv : (resS fnx.results.toList x.tmps).run p w = .ok v w) (hf : op m.fn = false)
    (h : JL p op gs fs St W0 Post (m.fin ops i rest k v) ms w) : JL p op gs fs St W0 Post x (m :: ms) w := by
  refine JO.one L.fit rfl (fun _ => by simp) (fun T => ((m.fin ops i rest k v, ms), Tt.tp w T 0)) (fun T => ?_) (fun T K R y hoo => ?_) fun T => h.tape T 0
  · show (stepS p x (m :: ms)).run p _ = _
    simp only [stepS, hr, if_true]
    exact (retS_mk htd hfx ((tf_resS _ _ w v w hv).2 T 0)).1
  · obtain ⟨f, xs, xs', c, c', rest, rest', h1, h2, h3, h4, _⟩ := hoo.ex
    simp only [Prod.mk.injEq] at h4
    have h5 := congrArg Fm.fn h4.1
    rw [entF_fn] at h5
    have h6 : op f = true := h1
    have h7 : m.fn = f := h5
    rw [← h7, hf] at h6; cases h6
/-- THE REST OF A TEXT, to its end. -/
theorem JO.tail (L : Lv p op gs gs₁ fs) {fn : FuncId} {tmps : Array Value} {c : Code} {b : List Fm} {w : World} (hc : fitCode p ⟨fs, gs₁, false⟩ c = true) (hfn : op fn = false)
    (hwp : ∀ T, Code.wp p c (fun e a' w' => (e = .normal ∨ e = .ret) ∧ ∀ todo, JL p op gs fs St W0 Post ⟨fn, a'.tmps, todo, true⟩ b w') ⟨tmps, []⟩ (Tt.tp w T 0)) : JL p op gs fs St W0 Post ⟨fn, tmps, [.code c], false⟩ b w := by
  intro K R W m' ms' Shun hw hm hms hsh hk
  have hrel := relS_piece (gs₁ := gs₁) hc hw hm
  have tree := piece_tree L.fit₁ rfl hrel hwp (fun e a w h => h.1) (fun e a w T k h => ⟨h.1, fun todo => (h.2 todo).tape T k⟩)
  have tree2 := LT.app L.fit₁ rfl (N := notOp p op) (Stop := fun m ms w => JL p op gs fs St W0 Post m ms w) [] b (fn0 := fn) (L.hN (K₁ := K)) (fun m e f xs ho e2 => by rw [e2, entF_fn] at e; rw [e, hfn] at ho; cases ho)
    (fun x w e1 e2 e3 hq => by
      have h1 := hq w.tape
      have h2 : JL p op gs fs St W0 Post ⟨fn, x.tmps, [], true⟩ b w := by
        rcases h1.2 with h | h
        · exact JO.untape (h.2.2 [])
        · exact JO.untape (h.2 [])
      obtain ⟨xf, xt, xd, xr⟩ := x
      simp only at e1 e2 e3 h2
      subst e1 e2 e3
      exact JO.fall L hfn h2)
    (fun x w e1 e2 e3 hq => by
      have h2 : JL p op gs fs St W0 Post ⟨fn, x.tmps, x.todo, true⟩ b w := by
        rcases hq.2 with h | h
        · exact h.2.2 _
        · exact h.2 _
      obtain ⟨xf, xt, xd, xr⟩ := x
      simp only at e1 e2 e3 h2
      subst e1 e2
      rw [Fm.app_nil]
      exact h2) tree rfl hrel (fun _ e => by cases e)
  exact LTs.jo L.fit rfl L.hop (fun m ms w h => h) tree2 K R W m' ms' Shun hw hm hms hsh hk
theorem Lv.noOp (L : Lv p op gs gs₁ fs) {f : FuncId} (hg : gs₁ f = true) : op f = false := by
  cases ho : op f with
  | false => rfl
  | true =>
    obtain ⟨fn, c, h1, h2, _, h4⟩ := L.nofit f ho
    obtain ⟨fn', c', g1, g2, g3, g4, g5⟩ := L.fit₁.fn f hg rfl
    have h1' : (PS p gs₁).c.funcs[f]? = some fn := h1
    rw [g2] at h1'
    obtain rfl := Option.some.inj h1'
    rw [h2] at g4
    obtain rfl := Option.some.inj g4
    have h6 : cls (PS p gs₁) fs f = ⟨fs, gs₁, false⟩ := rfl
    rw [h6] at g5
    have g5' : fitCode p ⟨fs, gs₁, false⟩ c = true := g5
    rw [h4] at g5'; cases g5'
theorem results_inv {p : Program} {fn : Func} (hp : plainRes fn.results.toList) {tmps : Array Value} {v : Value} {w w' : World} (h : (results fn tmps).run p w = .ok v w') : (resS fn.results.toList tmps).run p w = .ok v w := by
  rw [results_resS hp] at h
  obtain ⟨rfl, _⟩ := tf_resS _ _ w v w' h
  exact h
theorem exec_call {p : Program} {o : Oper} {f : FuncId} {args : Array Operand} {ats : Array TypeId} (hop : o.op = .call ⟨.value (.func f), args, ats⟩) {ρ : Operand → Value} (hρ : ∀ g, ρ (.func g) = .func (.func g) #[] #[]) {fn : Func} {c : Code} (hf : p.funcs[f]? = some fn)
    (hn : (fn.name == "runtime.NumGoroutine") = false) (hb : fn.body = some c) (w : World) : (execOp ρ o).run p w = .ok (.enter f (args.map ρ)) w ∧ (execOp ρ o).events p w #[] = #[] := by
  obtain ⟨dst, op', type, pos, after, guard⟩ := o
  simp only at hop
  subst hop
  have hn' : ¬ fn.name = "runtime.NumGoroutine" := by simpa using hn
  constructor
  · simp [execOp, resolve, Deferred.ofValue, hρ, invoke, callFunc, program, bind, Sem.bind, pure, Sem.run, hf, hn', hb]
  · simp [execOp, resolve, Deferred.ofValue, hρ, invoke, callFunc, program, bind, Sem.bind, pure, Sem.run, Sem.events, Sem.runT, hf, hn', hb]
/-- A CALL of a lone function, by its contract. -/
theorem JO.callL (L : Lv p op gs gs₁ fs) {m : Fm} {ms : List Fm} {w : World} {ops : Array Oper} {i : Nat} {rest : List Nat} {k : List Item} {o : Oper} {f : FuncId} {args : Array Operand} {ats : Array TypeId} (hr : m.ret = false) (htd : m.todo = .inRegion ops (i :: rest) :: k)
    (ho : ops[i]? = some o) (hwt : Region.wanted o (yielded ops m.tmps) = true) (hop : o.op = .call ⟨.value (.func f), args, ats⟩) (hg : gs₁ f = true) (hfn : op m.fn = false) (hargs : args.all (okX fs) = true)
    {Q : Value → World → Prop} (hQt : ∀ v w T e, Q v w → Q v (Tt.tp w T e)) (hc : ∀ T, Calls p f (args.map m.eval) (Tt.tp w T 0) (fun e w' => ∃ v, e = .returned v ∧ Q v w'))
    (hJ : ∀ v w', Q v w' → JL p op gs fs St W0 Post (m.fin ops i rest k v) ms w') : JL p op gs fs St W0 Post m ms w := by
  have hof := L.noOp hg
  obtain ⟨fn, c, g1, g2, g3, g4, g5⟩ := L.fit₁.fn f hg rfl
  have g2' : p.funcs[f]? = some fn := g2
  have hpl : plainRes fn.results.toList := L.fit₁.res f hg rfl fn g2
  have hent : entF p f (args.map m.eval) = ⟨f, args.map m.eval ++ Array.replicate (fn.ntmps - (args.map m.eval).size) undef, [.code c], false⟩ := by simp [entF, g2', g4]
  -- behind the call's beginning
  have hback : ∀ (x : Fm) (wx : World), x.ret = true → x.fn = f → (∃ v, (resS fn.results.toList x.tmps).run p wx = .ok v wx ∧ Q v wx) → JL p op gs fs St W0 Post x (m :: ms) wx := by
    intro x wx h1 h2 ⟨v, h3, h4⟩
    exact JO.back L h1 htd (v := v) (fnx := fn) (by rw [h2]; exact g2') h3 hfn (hJ v wx h4)
  intro K R W m' ms' Shun hw hm hms hsh hk
  have hxs : ArR (SF fs) K R (args.map m.eval) (args.map m'.eval) := ArR.maps hm.eval hargs
  have hfm : FmR (PS p gs₁) fs K R (entF p f (args.map m.eval)) (entF p f (args.map m'.eval)) := by
    have hent' : entF p f (args.map m'.eval) = ⟨f, args.map m'.eval ++ Array.replicate (fn.ntmps - (args.map m'.eval).size) undef, [.code c], false⟩ := by simp [entF, g2', g4]
    rw [hent, hent']
    refine ⟨rfl, rfl, rfl, hxs.pad _, fun j hj => ?_, ⟨fn, fn, g1, g2, rfl, hpl⟩⟩
    simp only [List.mem_cons, List.not_mem_nil, or_false] at hj
    subst hj; exact g5
  have hrel : RelS (PS p gs₁) fs K p.globals.size St (entF p f (args.map m.eval)) [] w := ⟨R, W, _, [], hw, hfm, .nil⟩
  have tree : Tt.LT p (fun mT wT => mT.ret = true ∧ mT.fn = f ∧ ∃ v, (resS fn.results.toList mT.tmps).run p wT = .ok v wT ∧ Q v wT) (entF p f (args.map m.eval)) [] w := by
    refine bar (P := PS p gs₁) L.fit₁ rfl (fun m w T e h => ⟨h.1, h.2.1, let ⟨v, a, b⟩ := h.2.2; ⟨v, (tf_resS _ _ w v w a).2 T e, hQt _ _ _ _ b⟩⟩) ⟨hrel, fun T => ?_⟩
    obtain ⟨e, w', fr, ⟨v, rfl, hq⟩, hcm, hff, hlv⟩ := hc T [pz]
    obtain ⟨hmode, hdef, hkind, fn', hfn', hres⟩ := hlv
    obtain ⟨n, hn⟩ := hcm
    have hfr0 : Frame.enter p f (args.map m.eval) .normal = (entF p f (args.map m.eval)).fr := by rw [hent]; exact enter_fr g2' g4
    rw [hfr0] at hn
    obtain ⟨k2, mT, hi, hfr⟩ := reach (P := PS p gs₁) L.fit₁ rfl hmode n (RelS.tape hrel T 0) hn
    have h1 : mT.tmps = fr.tmps := congrArg Frame.tmps hfr
    have h2 : mT.fn = f := (congrArg Frame.fn hfr).trans hff
    have h4 : mT.ret = true := by
      cases hr : mT.ret with
      | true => rfl
      | false => rw [← hfr, Fm.fr_run hr] at hmode; cases hmode
    rw [hff, g2'] at hfn'
    obtain rfl := Option.some.inj hfn'
    exact ⟨k2, mT, w', hi, h4, h2, v, by rw [h1]; exact results_inv hpl hres, hq⟩
  have tree2 := LT.app (P₁ := PS p gs₁) L.fit₁ rfl (N := notOp p op) (Stop := fun m ms w => JL p op gs fs St W0 Post m ms w) [] (m :: ms) (fn0 := f) (L.hN (K₁ := K)) (fun x e f' xs ho' e2 => by rw [e2, entF_fn] at e; rw [e, hof] at ho'; cases ho')
    (fun x w e1 e2 e3 hq => by
      obtain ⟨_, _, v, h5, h6⟩ := hq w.tape
      have h7 : JL p op gs fs St W0 Post { x with ret := true } (m :: ms) w := JO.untape (T := w.tape) (e := 0) (hback _ _ rfl e1 ⟨v, h5, h6⟩)
      obtain ⟨xf, xt, xd, xr⟩ := x
      simp only at e1 e2 e3 h7
      subst e1 e2 e3
      exact JO.fall L hof h7)
    (fun x w e1 e2 e3 hq => by
      rw [Fm.app_nil]
      exact hback _ _ e2 e1 hq.2.2) tree (entF_fn _ _ _) hrel (fun _ e => by rw [hent] at e; cases e)
  have hJe : JL p op gs fs St W0 Post (entF p f (args.map m.eval)) (m :: ms) w := by
    have := LTs.jo L.fit rfl L.hop (fun m ms w h => h) tree2
    rwa [show appS [] (m :: ms) (entF p f (args.map m.eval)) [] = (entF p f (args.map m.eval), m :: ms) from by simp [appS, Fm.app_nil]] at this
  refine JO.one L.fit rfl (fun e => by rw [hr] at e; cases e) (fun T => ((entF p f (args.map m.eval), m :: ms), Tt.tp w T 0)) (fun T => ?_) (fun T K R y hoo => ?_) (fun T => hJe.tape T 0) K R W m' ms' Shun hw hm hms hsh hk
  · show (stepS p m ms).run p _ = _
    simp only [stepS, hr, Bool.false_eq_true, if_false, runS, htd, ho, Option.map_some, Option.getD_some, hwt, if_true]
    refine (Sem.run_bind' p _ _ _).trans ?_
    rw [(exec_call hop (fun g => rfl) g2' g3 g4 (Tt.tp w T 0)).1]
    simp only [Result.andThen, opS, g2', g4, Pure.pure, Sem.run, hent]
  · obtain ⟨f', xs, xs', c, c', rest, rest', h1, h2, h3, h4, _⟩ := hoo.ex
    simp only [Prod.mk.injEq] at h4
    have h5 := congrArg Fm.fn h4.1
    rw [entF_fn, entF_fn] at h5
    have h6 : op f' = true := h1
    rw [← h5, hof] at h6; cases h6
/-- A CALL of a function that starts goroutines: by what is held of it in the real world. -/
theorem JO.callF (L : Lv p op gs gs₁ fs) {m : Fm} {ms : List Fm} {w : World} {ops : Array Oper} {i : Nat} {rest : List Nat} {k : List Item} {o : Oper} {f : FuncId} {args : Array Operand} {ats : Array TypeId} (hr : m.ret = false) (htd : m.todo = .inRegion ops (i :: rest) :: k)
    (ho : ops[i]? = some o) (hwt : Region.wanted o (yielded ops m.tmps) = true) (hop : o.op = .call ⟨.value (.func f), args, ats⟩) (hg : op f = true) (hargs : args.all (okX fs) = true)
    (hF : ∀ (K R : Pr) (W : World) (m' : Fm) (ms' : List Fm) (Shun : Loc → Prop) (xs' : Array Value), WRel (SF fs) K R p.globals.size St w W → FmR (PL p op gs) fs K R m m' → MsR (PL p op gs) fs K R ms ms' → Sh W0.heap.size Shun R W → Kp W0 R St W → ArR (SF fs) K R (args.map m.eval) xs' →
      J p Post Shun W.heap.size (G (Frame.enter p f xs' .normal) (m'.fr :: ms'.map Fm.fr)) W) : JL p op gs fs St W0 Post m ms w := by
  obtain ⟨fn, c, g2', g4, g3, _⟩ := L.nofit f hg
  intro K R W m' ms' Shun hw hm hms hsh hk
  refine J.own rfl fun d => ?_
  have hxs : ArR (SF fs) K R (args.map m.eval) (args.map m'.eval) := ArR.maps hm.eval hargs
  have hr' : m'.ret = false := hm.ret.symm.trans hr
  have htd' : m'.todo = .inRegion ops (i :: rest) :: k := hm.todo.symm.trans htd
  have hwt' : Region.wanted o (yielded ops m'.tmps) = true := by rw [← yielded_rel ops hm.tmps]; exact hwt
  have hent : Frame.enter p f (args.map m'.eval) .normal = (⟨f, args.map m'.eval ++ Array.replicate (fn.ntmps - (args.map m'.eval).size) undef, [.code c], false⟩ : Fm).fr := enter_fr g2' g4
  obtain ⟨x1, x2⟩ := exec_call hop (ρ := m'.eval) (fun g => rfl) g2' g3 g4 (W.at d)
  have hs : (stepS p m' ms').run p (W.at d) = .ok (⟨f, args.map m'.eval ++ Array.replicate (fn.ntmps - (args.map m'.eval).size) undef, [.code c], false⟩, m' :: ms') (W.at d) := by
    simp only [stepS, hr', Bool.false_eq_true, if_false, runS, htd', ho, Option.map_some, Option.getD_some, hwt', if_true]
    refine (Sem.run_bind' p _ _ _).trans ?_
    rw [x1]
    simp only [Result.andThen, opS, g2', g4, Pure.pure, Sem.run]
  have hst := stepG_stepS (main := true) hs []
  simp only [List.append_nil] at hst
  have he : (stepS p m' ms').events p (W.at d) #[] = #[] := by
    simp only [stepS, hr', Bool.false_eq_true, if_false, runS, htd', ho, Option.map_some, Option.getD_some, hwt', if_true]
    refine (Sem.events_bind' p _ _ _ #[]).trans ?_
    rw [x1, Result.evThen_ok, x2]
    simp only [opS, g2', g4]; rfl
  rw [he, Conc.seen_none] at hst
  refine ⟨_, W.at d, #[], W.heap.size, hst, fun e he => by simp at he, Nat.le_refl _, ?_⟩
  rw [← hent]
  exact hF K R (W.at d) m' ms' Shun (args.map m'.eval) (WRel.at hw d) hm hms ⟨hsh.old, hsh.rel, hsh.new⟩ ⟨hk.os, hk.tape, hk.output, hk.size, hk.block, hk.old⟩ hxs
/-- The run's end. -/
theorem JO.fin (L : Lv p op gs gs₁ fs) {x : Fm} {w : World} {fn : Func} {t : Tmp} (hr : x.ret = true) (hf : p.funcs[x.fn]? = some fn) (ht : fn.results = #[.tmp t]) (hi : p.inits.idxOf? x.fn = none) (hP : ∀ K R W v', VR (SF fs) K R (x.tmps.getD t undef) v' → Kp W0 R St W → Post v' W) : JL p op gs fs St W0 Post x [] w := by
  intro K R W m' ms' Shun hw hm hms hsh hk
  cases hms
  refine J.done rfl fun d => ?_
  have hr' : m'.ret = true := hm.ret.symm.trans hr
  have hfn' : p.funcs[m'.fn]? = some fn := by rw [← hm.fn]; exact hf
  have hi' : p.inits.idxOf? m'.fn = none := by rw [← hm.fn]; exact hi
  refine ⟨m'.tmps.getD t undef, #[], ?_, fun e he => by simp at he, hP K R (W.at d) _ (hm.tmps.getD t vr_undef) ⟨hk.os, hk.tape, hk.output, hk.size, hk.block, hk.old⟩⟩
  have r1 := results_tmp ht m'.tmps p (W.at d)
  have r2 := Conc.events_results_tmp (P := p) (w := W.at d) ht m'.tmps #[]
  rw [Fm.fr_ret hr']
  simp [G, stepG, unwind, doReturn, hfn', r1, r2, Conc.seen_none, GStep.after, hi']
end
end Go.Mt
