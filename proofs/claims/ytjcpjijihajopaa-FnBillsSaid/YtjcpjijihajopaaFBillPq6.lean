/-
 Part 6 of what stands behind the last text.
-/
import Derived.Below
import Derived.Test.YtjcpjijihajopaaFBillPq5
set_option linter.unusedSectionVars false
set_option linter.unusedSimpArgs false
set_option linter.unusedVariables false
namespace Go.Mt
open Go.Conc
open Go.ConcR (KK wgBlock WgAt stA smA rd wr)
section
variable {L : Type} {P : Program} {ty : TypeId} {Wg : Nat} {A : Proto L} {Fin : Goroutine -> World -> Prop}
variable {K K' : Bool -> Ph L -> Nat -> Terr -> Goroutine -> World -> Prop}
theorem Way1.mono (hK : ∀ m ph d τ g w, K m ph d τ g w -> K' m ph d τ g w) {main : Bool} {ph : Ph L} {d : Nat} {τ : Terr} {g : Goroutine} {w : World} (h : Way1 P ty Wg K main ph d τ g w) : Way1 P ty Wg K' main ph d τ g w := by
 have own : ∀ {ph : Ph L}, Own1 P ty Wg K main ph d τ g w -> Own1 P ty Wg K' main ph d τ g w := λ h w₁ s => by
   obtain ⟨g', w', es, h1, h2, h3, h4, h5⟩ := h w₁ s
   exact ⟨g', w', es, h1, h2, h3, h4, hK _ _ _ _ _ _ h5⟩
 have idle : ∀ {ph : Ph L}, Idle1 P ty Wg K main ph d τ g w -> Idle1 P ty Wg K' main ph d τ g w := λ h w₁ s => by
   obtain ⟨g', es, h1, h2, h3, h4⟩ := h w₁ s
   exact ⟨g', es, h1, h2, h3, hK _ _ _ _ _ _ h4⟩
 cases ph <;> first | exact h | exact own h | exact idle h
theorem AtUsr.mono (hK : ∀ m ph d τ g w, K m ph d τ g w -> K' m ph d τ g w) {main : Bool} {l : L} {d : Nat} {τ : Terr} {g : Goroutine} {w : World} (h : AtUsr P ty Wg A K main l d τ g w) : AtUsr P ty Wg A K' main l d τ g w := by
 unfold AtUsr at *
 split
 all_goals (rename_i e; simp only [e] at h)
 . obtain ⟨ho, v, z, τ', h1, h2, h3, h4, h4', h5, h6⟩ := h
   exact ⟨ho, v, z, τ', h1, h2, h3, h4, h4', h5, hK _ _ _ _ _ _ h6⟩
 . obtain ⟨ho, z, b, h1, h2, h3⟩ := h
   exact ⟨ho, z, b, h1, λ v hv => hK _ _ _ _ _ _ (h2 v hv), λ x => hK _ _ _ _ _ _ (h3 x)⟩
 . refine ⟨h.1, h.2.1, λ w₁ s₁ s r hc => ?_⟩
   obtain ⟨g', h1, h2, h3⟩ := h.2.2 w₁ s₁ s r hc
   exact ⟨g', h1, h2, hK _ _ _ _ _ _ h3⟩
 . intro w₁ s₁ v hv hw
   obtain ⟨g', h1, h2, h3⟩ := h w₁ s₁ v hv hw
   exact ⟨g', h1, h2, hK _ _ _ _ _ _ h3⟩
 . refine ⟨h.1, λ w₁ s₁ => ?_⟩
   obtain ⟨g', child, τm, τc, h1, h2, h3, h4, h5, h6, h7, h8, h9, h10, h11⟩ := h.2 w₁ s₁
   exact ⟨g', child, τm, τc, h1, h2, h3, h4, h5, h6, h7, h8, h9, hK _ _ _ _ _ _ h10, hK _ _ _ _ _ _ h11⟩
 . refine ⟨h.1, h.2.1, h.2.2.1, λ w₁ s₁ => ?_⟩
   obtain ⟨g', h1, h2, h3⟩ := h.2.2.2 w₁ s₁
   exact ⟨g', h1, h2, hK _ _ _ _ _ _ h3⟩
 . intro w₁ s₁ v hv hw
   obtain ⟨g', h1, h2, h3, h4⟩ := h w₁ s₁ v hv hw
   exact ⟨g', h1, h2, λ x => hK _ _ _ _ _ _ (h3 x), λ x => hK _ _ _ _ _ _ (h4 x)⟩
theorem AtPh.mono (hK : ∀ m ph d τ g w, K m ph d τ g w -> K' m ph d τ g w) {main : Bool} {ph : Ph L} {d : Nat} {τ : Terr} {g : Goroutine} {w : World} (h : AtPh P ty Wg A Fin K main ph d τ g w) : AtPh P ty Wg A Fin K' main ph d τ g w := by
 cases ph with
 | gone => exact h
 | quit l => exact h
 | usr l => exact AtUsr.mono hK h
 | rel l =>
   intro w₁ s₁ v wt a b c
   obtain ⟨g', h1, h2, h3, h4, h5⟩ := h w₁ s₁ v wt a b c
   exact ⟨g', h1, h2, h3, λ x => hK _ _ _ _ _ _ (h4 x), h5⟩
 | l1 l =>
   intro w₁ s₁ a
   obtain ⟨g', h1, h2, h3, h4⟩ := h w₁ s₁ a
   exact ⟨g', h1, h2, h3, hK _ _ _ _ _ _ h4⟩
 | l2 l =>
   intro w₁ s₁ a
   obtain ⟨g', h1, h2, h3, h4⟩ := h w₁ s₁ a
   exact ⟨g', h1, h2, h3, hK _ _ _ _ _ _ h4⟩
 | l3 l => exact h
 | w1 b =>
   intro w₁ s₁ v hvb hv hw
   obtain ⟨g', h1, h2, h3, h4⟩ := h w₁ s₁ v hvb hv hw
   exact ⟨g', h1, h2, λ x => hK _ _ _ _ _ _ (h3 x), λ x => hK _ _ _ _ _ _ (h4 x)⟩
 | w2 vs =>
   intro w₁ s₁ v hv hw
   obtain ⟨h1, h2⟩ := h w₁ s₁ v hv hw
   exact ⟨λ e => let ⟨g', a, b, c⟩ := h1 e; ⟨g', a, b, hK _ _ _ _ _ _ c⟩, λ e => let ⟨g', a, b, c⟩ := h2 e; ⟨g', a, b, hK _ _ _ _ _ _ c⟩⟩
 | w3 =>
   refine ⟨h.1, λ w₁ s₁ => ⟨(h.2 w₁ s₁).1, λ e => ?_⟩⟩
   obtain ⟨g', a, b, c⟩ := (h.2 w₁ s₁).2 e
   exact ⟨g', a, b, hK _ _ _ _ _ _ c⟩
 | w4 =>
   intro w₁ s₁ a
   obtain ⟨g', h1, h2, h3⟩ := h w₁ s₁ a
   exact ⟨g', h1, h2, hK _ _ _ _ _ _ h3⟩
 | w5 => exact h
def BehE (P : Program) (ty : TypeId) (Wg : Nat) (A : Proto L) (Fin : Goroutine -> World -> Prop) (main : Bool) (ph : Ph L) (d : Nat) (τ : Terr) (g : Goroutine) (w : World) : Prop := ∃ r, Beh P ty Wg A Fin r main ph d τ g w
variable {main : Bool} {ph : Ph L} {d : Nat} {τ : Terr} {g : Goroutine} {w w₁ : World}
theorem BehE.mk (hrun : g.status = .running) (h : Way1 P ty Wg (BehE P ty Wg A Fin) main ph d τ g w \/ AtPh P ty Wg A Fin (BehE P ty Wg A Fin) main ph d τ g w) : BehE P ty Wg A Fin main ph d τ g w := by
 let ι := { x : Bool × Ph L × Nat × Terr × Goroutine × World // BehE P ty Wg A Fin x.1 x.2.1 x.2.2.1 x.2.2.2.1 x.2.2.2.2.1 x.2.2.2.2.2 }
 let f : ι -> Rk := λ x => x.2.choose
 have hK : ∀ m ph d τ g w, BehE P ty Wg A Fin m ph d τ g w -> ∃ i, Beh P ty Wg A Fin (f i) m ph d τ g w := λ m ph d τ g w hb => ⟨⟨(m, ph, d, τ, g, w), hb⟩, hb.choose_spec⟩
 exact ⟨.mk ι f, hrun, h.imp (λ x => x.mono hK) λ x => x.mono hK⟩
theorem BehE.own (hrun : g.status = .running) (hl : ph.live) (h : Own1 P ty Wg (BehE P ty Wg A Fin) main ph d τ g w) : BehE P ty Wg A Fin main ph d τ g w :=
 .mk hrun (.inl (by cases ph <;> first | exact h | exact hl.elim))
theorem BehE.usr {l : L} (hrun : g.status = .running) (h : AtUsr P ty Wg A (BehE P ty Wg A Fin) main l d τ g w) : BehE P ty Wg A Fin main (.usr l) d τ g w := .mk hrun (.inr h)
structure Start (P : Program) (ty : TypeId) (Wg : Nat) (A : Proto L) (Fin : Goroutine -> World -> Prop) (Shun : Loc -> Prop) (gs : Array Goroutine) (w : World) (t : Trace) (q : Nat -> Nat) (l : L) (τ : Terr) (a : Goroutine) (B : Nat) : Prop where
 main : gs[0]? = some a
 leave : Leavers P t gs q
 past : Past Shun B t
 beh : BehE P ty Wg A Fin true (.usr l) 0 τ a w
 grp : WgAt ty Wg w 0 0
 low : B <= Wg /\ B <= w.heap.size
 bnd : ∀ b, τ.own b \/ τ.still b \/ τ.pass b -> b < w.heap.size /\ b ≠ Wg /\ ∀ l, onB l b -> ¬ Shun l
 pend : A.pend l = false
 inv : A.Inv (λ i => if i = 0 then .run l else .gone) (λ _ => none)
theorem phase (hA : A.Ok) {Shun : Loc -> Prop} {gs : Array Goroutine} {t : Trace} {q : Nat -> Nat} {l : L} {a : Goroutine} {B : Nat} (S : Start P ty Wg A Fin Shun gs w t q l τ a B) (sl : Option (Nat × Nat)) :
   ∃ N m' t', runNT P N (crowd gs w sl) t = (.next m', t') /\ Goal P Wg Fin Shun m' t' := by
 obtain ⟨r, hr⟩ := S.beh
 have h0 : 0 < gs.size := (Array.getElem?_eq_some_iff.1 S.main).1
 let none' : Terr := ⟨λ _ => False, λ _ => False, λ _ => False⟩
 let T : Nat -> Td L := λ i => if i = 0 then ⟨.usr l, .inr r, τ, a⟩ else ⟨.gone, .inl (q i), none', default⟩
 have t0 : T 0 = ⟨.usr l, .inr r, τ, a⟩ := by simp [T]
 have tn : ∀ i, i ≠ 0 -> T i = ⟨.gone, .inl (q i), none', default⟩ := λ i hi => by simp [T, hi]
 have hrun : a.status = .running := by cases r with | mk ι f => exact hr.1
 have hcnt : cnt (λ i => (T i).ph) gs.size = 0 := cnt_zero (λ j hj => by simp only [tn j hj, Ph.pre]) _
 have hvv : vv A (λ i => (T i).ph) gs.size = 0 := by
   unfold vv pnd; rw [hcnt]; simp only [t0, S.pend]; rfl
 have hpr : (λ i => (T i).ph.proj) = λ i => if i = 0 then .run l else .gone := by
   funext i
   by_cases hi : i = 0
   . subst hi; rw [t0]; rfl
   . rw [tn i hi, if_neg hi]; rfl
 refine phase_run (ty := ty) hA (T := T) (ch := λ _ => none) (Shun := Shun) ⟨⟨h0, λ i hi => (by rw [tn i (by omega)]), (by rw [t0]; trivial), λ i hi => (by rw [tn i hi]; exact id), λ i hi b => ?_, λ i j b hij hb => ?_, λ i b hb => ?_, λ i b hb => ?_, λ i l' hi => ?_, λ c b hc => (by cases hc), ?_, (by rw [hpr]; exact S.inv)⟩,
   ⟨λ i x hi => ?_, λ i j gi gj c v z z' sh sh' hi hj => ?_, λ i gi c z sh hi e => (by cases e), λ x hx hp => (by rw [t0] at hp; cases hp), ?_⟩⟩ sl
 . by_cases h : i = 0
   . subst h; rw [t0] at hi; cases hi
   . rw [tn i h]; exact ⟨id, id, id⟩
 . by_cases h : i = 0
   . subst h
     rw [tn j (Ne.symm hij)]; exact ⟨id, id, id⟩
   . rw [tn i h] at hb; exact hb.elim
 . by_cases h : i = 0
   . subst h
     rw [t0] at hb
     have := S.bnd b (hb.imp id .inl)
     exact ⟨this.1, this.2.1, rfl⟩
   . rw [tn i h] at hb; exact hb.elim False.elim False.elim
 . by_cases h : i = 0
   . subst h
     rw [t0] at hb
     have := S.bnd b (.inr (.inr hb))
     exact ⟨this.1, this.2.1⟩
   . rw [tn i h] at hb; exact hb.elim
 . by_cases h : i = 0
   . subst h; rw [t0] at hi; cases hi
   . rw [tn i h] at hi; cases hi
 . unfold Grp
   simp only [t0]
   refine ⟨by rw [hvv]; simpa using S.grp, λ i e => ?_⟩
   by_cases h : i = 0
   . subst h; rw [t0] at e; exact e
   . rw [tn i h] at e; exact e
 . by_cases h : i = 0
   . subst h
     rw [S.main] at hi; cases hi
     refine (sits_stays (by rw [t0]; exact id)).2 ⟨r, by rw [t0], ?_, .inl (by rw [t0]; exact Awake.self hrun)⟩
     have hd : Deaf t 0 = 0 := S.past.hears
     rw [t0, hd]; exact hr
   . refine (sits_leaves (by rw [tn i h]; trivial)).2 ⟨q i, by rw [tn i h], S.leave.old i x (by omega) hi⟩
 . exfalso
   by_cases h : i = 0
   . subst h
     rw [S.main] at hi; cases hi
     simp [parked] at hrun
   . have := (S.leave.old i _ (by omega) hi).status
     simp [parked] at this
 . refine TI.begin S.past S.low.2 S.leave.above (λ j => ?_) (λ b hb => ?_) S.low.1
   . by_cases h : j = 0
     . subst h; rw [t0]; exact ⟨λ _ => rfl, λ _ => trivial⟩
     . rw [tn j h]; exact ⟨λ e => e.elim, λ e => absurd e h⟩
   . rw [t0] at hb
     exact (S.bnd b hb).2.2
end
end Go.Mt
namespace Go.Mt
open Go.Conc Go.Tt
open Go.ConcR (KK wgBlock WgAt stA smA rd wr)
def Terra (τ : Terr) (R : Pr) (St : Nat -> Prop) : Prop := ∀ a b, R a b -> (St a -> τ.still b) /\ (¬ St a -> τ.own b)
section
variable {L : Type} {P : Pair} {fs : FuncId -> Bool} {K : Pr} {G' : Nat} {St : Nat -> Prop} {ty : TypeId} {Wg : Nat} {A : Proto L} {Fin : Goroutine -> World -> Prop}
theorem evT_of_evOk {main : Bool} {R : Pr} {τ : Terr} {e : Event} (h : EvOk R St e) (ht : Terra τ R St) : EvT Wg main τ.own τ.still e := by
 rcases h with rfl | ⟨b, a, h1, h2, h3⟩
 . trivial
 . obtain ⟨t1, t2⟩ := ht a b h2
   obtain ⟨loc, wr, sy⟩ := e
   have key : τ.own b \/ (τ.still b /\ wr = false) := by
     by_cases hs : St a
     . refine .inr ⟨t1 hs, ?_⟩
       cases wr
       . rfl
       . exact absurd hs (h3 rfl)
     . exact .inl (t2 hs)
   cases loc with
   | cell x => simp only [evBlock, Option.some.injEq] at h1; subst h1; exact key
   | obj r => simp only [evBlock, Option.some.injEq] at h1; subst h1; exact key
   | _ => simp [evBlock] at h1
theorem evOk_quiet {R : Pr} {e : Event} (h : EvOk R St e) : e.loc ≠ .mark .disable /\ e.loc ≠ .mark .enable := by
 rcases h with rfl | ⟨b, a, h1, _⟩
 . exact ⟨by simp, by simp⟩
 . obtain ⟨loc, wr, sy⟩ := e
   cases loc <;> simp [evBlock] at h1 ⊢
theorem _root_.Go.Tt.WRel.suf {S : FuncId -> Prop} {R : Pr} {w W W₁ : World} {τ : Terr} (h : WRel S K R G' St w W) (ht : Terra τ R St) (hK : ∀ a b, K a b -> b < W.heap.size) (s : Suf ty Wg τ W W₁) : WRel S K R G' St w W₁ := by
 refine ⟨h.inj, h.inj', λ a b x => ⟨(h.lt a b x).1, Nat.lt_of_lt_of_le (h.lt a b x).2 s.size⟩, h.low, ⟨h.gle.1, Nat.le_trans h.gle.2 s.size⟩, λ a b x => ?_, h.rest, h.st, h.np⟩
 obtain ⟨o, o', h1, h2, h3⟩ := h.cont a b x
 refine ⟨o, o', h1, ?_, h3⟩
 rw [s.keep b ?_]; exact h2
 by_cases hs : St a
 . exact .inr ((ht a b x).1 hs)
 . exact .inl ((ht a b x).2 hs)
end
end Go.Mt
namespace Go.Mt
open Go.Conc Go.Tt
open Go.ConcN (sumTo sumTo_upd upd_ne upd_same)
open Go.ConcR (KK wgBlock WgAt stA smA rd wr)
def Ends (P : Program) (Post : Value -> World -> Prop) (m : Machine) (t : Trace) : Prop :=
 ∃ M last o w' t', runNT P (M + 1) m t = (.ended o w', t') /\ runN P M m = .next last /\ step P last = .ended o w' /\ Conc.Good P Post last o w' t'
section
variable {P : Program} {Post : Value -> World -> Prop}
theorem Ends.step {m m' : Machine} {t : Trace} {ops : Array MemOp} (h : stepT P m = (.next m', ops)) (he : Ends P Post m' (t ++ ops)) : Ends P Post m t := by
 obtain ⟨M, last, o, w', t', h1, h2, h3, h4⟩ := he
 refine ⟨M + 1, last, o, w', t', ?_, ?_, h3, h4⟩
 . rw [runNT, h]; exact h1
 . have : Go.step P m = .next m' := by rw [Go.step, h]
   rw [runN_next this]; exact h2
theorem Ends.run : ∀ (N : Nat) {m m' : Machine} {t t' : Trace}, runNT P N m t = (.next m', t') -> Ends P Post m' t' -> Ends P Post m t := by
 intro N
 induction N with
 | zero =>
   intro m m' t t' h he
   simp only [runNT, Prod.mk.injEq, Stepped.next.injEq] at h
   obtain ⟨rfl, rfl⟩ := h
   exact he
 | succ N ih =>
   intro m m' t t' h he
   rw [runNT] at h
   generalize hs : stepT P m = s at h
   obtain ⟨s, ops⟩ := s
   cases s with
   | next m1 => exact Ends.step hs (ih h he)
   | ended o w => simp at h
variable (P Post)
def J (Shun : Loc -> Prop) (B : Nat) (g : Goroutine) (w : World) : Prop :=
 ∀ (gs : Array Goroutine) (t : Trace) (sl : Option (Nat × Nat)) (q : Nat -> Nat), gs[0]? = some g -> Leavers P t gs q -> Past Shun B t -> Ends P Post (crowd gs w sl) t
variable {P Post}
theorem J.own {Shun : Loc -> Prop} {B : Nat} {g : Goroutine} {w : World} (hrun : g.status = .running)
   (h : ∀ d, ∃ g' w' es B', stepG P true g (w.at d) = .go g' w' es /\ (∀ e ∈ es, EvL Shun B' e) /\ B <= B' /\ J P Post Shun B' g' w') : J P Post Shun B g w := by
 have key : ∀ (M : Nat) (d : Nat) (gs : Array Goroutine) (t : Trace) (sl : Option (Nat × Nat)) (q : Nat -> Nat), sumTo gs.size q = M -> gs[0]? = some g -> Leavers P t gs q -> Past Shun B t -> Ends P Post (crowd gs (w.at d) sl) t := by
   intro M
   induction M using Nat.strongRecOn with
   | ind M ih =>
   intro d gs t sl q hM h0 hL hP
   have haw : ∀ x ∈ gs, awake x := by
     intro x hx
     obtain ⟨i, hi, rfl⟩ := Array.mem_iff_getElem.1 hx
     rcases Nat.eq_zero_or_pos i with rfl | hpos
     . have : gs[0] = g := by simpa [Array.getElem?_eq_getElem hi] using h0
       rw [this]; exact awake_of (.inl hrun)
     . exact awake_of ((hL.old i _ hpos (Array.getElem?_eq_getElem hi)).status.elim .inl λ x => .inr (.inr x))
   obtain ⟨i, x, d', sl', hi, hx, hst⟩ := crowd_pick (P := P) (w := w.at d) (sl := sl) haw ⟨0, g, h0, hrun⟩
   rw [show (w.at d).at d' = w.at d' from rfl] at hst
   rcases Nat.eq_zero_or_pos i with rfl | hpos
   . obtain rfl : x = g := by rw [h0] at hi; exact (Option.some.inj hi).symm
     obtain ⟨g', w', es, B', hgo, hes, hsz, hJ⟩ := h d'
     have hrunT := runT_crowd_go (P := P) (sl := sl') (i := 0) hi (show stepG P (0 == 0) x (w.at d') = _ from hgo)
     have hlt : 0 < gs.size := (Array.getElem?_eq_some_iff.1 h0).1
     refine Ends.step (hst.trans hrunT) (hJ _ _ _ q (by simp [hlt]) ⟨λ j y hj hy => ?_, λ j hj => ?_⟩ ((hP.mono hsz).own hes))
     . have hne : 0 ≠ j := by omega
       rw [Array.getElem?_setIfInBounds_ne hne, Array.getElem?_map] at hy
       obtain ⟨z, hz, rfl⟩ := Option.map_eq_some_iff.1 hy
       have hq := hL.old j z hj hz
       rw [woken_quitsD hq, Deaf_other t (by omega) _ (λ op hop => by obtain ⟨e, _, rfl⟩ := Conc.mem_ofEvents hop; rfl)]
       exact hq
     . rw [Deaf_other t (g' := 0) (by simp at hj; omega) _ (λ op hop => by obtain ⟨e, _, rfl⟩ := Conc.mem_ofEvents hop; rfl)]
       exact hL.above j (by simpa using hj)
   . have hq := hL.old i x hpos hi
     have hi0 : (i == 0) = false := by simp; omega
     have hlt : i < gs.size := (Array.getElem?_eq_some_iff.1 hi).1
     cases hqi : q i with
     | zero => rw [hqi] at hq; rw [hq.1] at hx; cases hx
     | succ k =>
       rw [hqi] at hq
       rcases hq with ⟨hf, _⟩ | ⟨_, g', es, hm, hstp, hq'⟩
       . rw [hf] at hx; cases hx
       have hrunT := runT_crowd_go (P := P) (sl := sl') (i := i) hi (by rw [hi0]; exact hstp (w.at d'))
       have hsz : ((gs.map (woken P x g' (w.at d'))).setIfInBounds i g').size = gs.size := by simp
       have hsum : sumTo gs.size (ConcN.upd q i k) + (k + 1) = sumTo gs.size q + k := by
         have := sumTo_upd q k id hlt
         simp only [hqi, id] at this
         exact this
       refine Ends.step (hst.trans hrunT) (ih (sumTo gs.size (ConcN.upd q i k)) (by omega) d' _ _ _ (ConcN.upd q i k) (by rw [hsz]) ?_ ⟨λ j y hj hy => ?_, λ j hj => ?_⟩ (hP.mute (by omega) hm))
       . have hne : i ≠ 0 := by omega
         rw [Array.getElem?_setIfInBounds_ne hne, Array.getElem?_map, h0]
         simp [woken_run hrun]
       . by_cases hji : i = j
         . subst hji
           rw [Array.getElem?_setIfInBounds_self_of_lt (by simpa using hlt)] at hy
           obtain rfl := Option.some.inj hy
           rw [ConcN.upd_same, Deaf_own]
           exact hq'
         . rw [Array.getElem?_setIfInBounds_ne hji, Array.getElem?_map] at hy
           obtain ⟨z, hz, rfl⟩ := Option.map_eq_some_iff.1 hy
           have hqj := hL.old j z hj hz
           rw [woken_quitsD hqj, ConcN.upd_ne q k (Ne.symm hji), Deaf_other t hji _ (λ op hop => by obtain ⟨e, _, rfl⟩ := Conc.mem_ofEvents hop; rfl)]
           exact hqj
       . rw [Deaf_other t (g' := i) (by simp at hj; omega) _ (λ op hop => by obtain ⟨e, _, rfl⟩ := Conc.mem_ofEvents hop; rfl)]
         exact hL.above j (by simpa using hj)
 intro gs t sl q h0 hL hP
 have := key _ w.drawn gs t sl q rfl h0 hL hP
 exact this
theorem J.done {Shun : Loc -> Prop} {B : Nat} {g : Goroutine} {w : World} (hrun : g.status = .running)
   (h : ∀ d, ∃ v es, stepG P true g (w.at d) = .ended (.done v) (w.at d) es /\ (∀ e ∈ es, EvL Shun B e) /\ Post v (w.at d)) : J P Post Shun B g w := by
 intro gs t sl q h0 hL hP
 exact beside_ends (B := B) (D := λ _ _ es => ∀ e ∈ es, EvL Shun B e) (n := 0) (λ _ _ _ hd => hd) h0 hL hP (λ w₁ ⟨d, hd⟩ => by subst hd; exact ⟨hrun, h d⟩)
theorem J.phase {L : Type} {ty : TypeId} {Wg : Nat} {A : Proto L} (hA : A.Ok) {Shun : Loc -> Prop} {a : Goroutine} {w : World} {l : L} {τ : Terr} {B : Nat}
   (hb : BehE P ty Wg A (λ g w' => J P Post (λ l => Shun l \/ onB l Wg) w'.heap.size g w') true (.usr l) 0 τ a w) (hg : WgAt ty Wg w 0 0) (hB : B <= Wg /\ B <= w.heap.size)
   (bnd : ∀ b, τ.own b \/ τ.still b \/ τ.pass b -> b < w.heap.size /\ b ≠ Wg /\ ∀ l, onB l b -> ¬ Shun l) (pend : A.pend l = false)
   (inv : A.Inv (λ i => if i = 0 then .run l else .gone) (λ _ => none)) : J P Post Shun B a w := by
 intro gs t sl q h0 hL hP
 obtain ⟨N, m', t', h1, gs', a', w', sl', q', rfl, h2, h3, h4, h5, h6⟩ := Mt.phase hA (S := ⟨h0, hL, hP, hb, hg, hB, bnd, pend, inv⟩) sl
 exact Ends.run N h1 (h4 gs' t' sl' q' h2 h5 h6)
end
end Go.Mt
namespace Go.Mt
open Go.Conc Go.Tt
open Go.ConcR (KK wgBlock WgAt stA smA rd wr)
abbrev K0 : Pr := λ _ _ => False
structure Sh (n : Nat) (Shun : Loc -> Prop) (R : Pr) (W : World) : Prop where
 old : ∀ l b, onB l b -> b < n -> ¬ Shun l
 rel : ∀ a b, R a b -> ∀ l, onB l b -> ¬ Shun l
 new : ∀ l b, onB l b -> W.heap.size <= b -> ¬ Shun l
structure Kp (W0 : World) (R : Pr) (St : Nat -> Prop) (W : World) : Prop where
 os : W.os = W0.os
 tape : W.tape = W0.tape
 output : W.output = W0.output
 size : W0.heap.size <= W.heap.size
 block : ∀ b, b < W0.heap.size -> W.heap[b]? = W0.heap[b]?
 old : ∀ a b, R a b -> b < W0.heap.size -> St a
theorem Kp.below {W0 W : World} {R : Pr} {St : Nat -> Prop} (h : Kp W0 R St W) : RowKit.Below W0.heap.size W0 W := ⟨h.os, h.tape, h.output, h.size, h.block⟩
section
variable (P : Pair) (fs : FuncId -> Bool) (G' : Nat) (St : Nat -> Prop) (W0 : World) (Post : Value -> World -> Prop)
def JO (m : Fm) (ms : List Fm) (w : World) : Prop :=
 ∀ (K R : Pr) (W : World) (m' : Fm) (ms' : List Fm) (Shun : Loc -> Prop), WRel (SF fs) K R G' St w W -> FmR P fs K R m m' -> MsR P fs K R ms ms' -> Sh W0.heap.size Shun R W -> Kp W0 R St W ->
   J P.c Post Shun W.heap.size (G m'.fr (ms'.map Fm.fr)) W
variable {P fs G' St W0 Post}
theorem JO.tape {m : Fm} {ms : List Fm} {w : World} (h : JO P fs G' St W0 Post m ms w) (T : Tape) (e : Nat) : JO P fs G' St W0 Post m ms (Tt.tp w T e) :=
 λ K R W m' ms' Shun a b c d k => h K R W m' ms' Shun a.untp b c d k
theorem evL_of_evOk {Shun : Loc -> Prop} {R : Pr} {W : World} {St : Nat -> Prop} {e : Event} (h : EvOk R St e) {n : Nat} (hs : Sh n Shun R W) (hlt : ∀ a b, R a b -> b < W.heap.size) : EvL Shun W.heap.size e := by
 rcases h with rfl | ⟨b, a, h1, h2, h3⟩
 . exact ⟨λ x hx => by simp [MemAct.ofEvent, MemAct.touch?] at hx, by simp, by simp, trivial⟩
 . obtain ⟨loc, wr, sy⟩ := e
   cases loc with
   | cell x =>
     simp only [evBlock, Option.some.injEq] at h1
     refine ⟨λ y hy hsh => ?_, by simp, by simp, ?_⟩
     . simp only [MemAct.ofEvent, MemAct.touch?, Option.some.injEq] at hy
       subst hy
       exact absurd hsh (hs.rel a b h2 _ h1)
     . show x.block < W.heap.size
       rw [h1]; exact hlt a b h2
   | obj r =>
     simp only [evBlock, Option.some.injEq] at h1
     have hr : r < W.heap.size := by rw [h1]; exact hlt a b h2
     refine ⟨λ y hy hsh => ?_, by simp, by simp, ?_⟩
     . have hyl : y.loc = .obj r := by
         cases wr <;> cases sy <;> simp only [MemAct.ofEvent, MemAct.touch?, Option.some.injEq] at hy <;> first | (subst hy; rfl) | (cases hy; done)
       exact absurd (hyl ▸ hsh) (hs.rel a b h2 (.obj r) h1)
     . cases wr <;> cases sy <;> exact hr
   | _ => simp [evBlock] at h1
theorem WRel.at {S : FuncId -> Prop} {K R : Pr} {G' : Nat} {w W : World} (h : WRel S K R G' St w W) (d : Nat) : WRel S K R G' St w (W.at d) :=
 ⟨h.inj, h.inj', h.lt, h.low, h.gle, h.cont, h.rest, h.st, h.np⟩
theorem JO.one (F : Fit2 P fs) (hG : G' = P.globals.size) {m : Fm} {ms : List Fm} {w : World} (hs : m.ret = true -> ms ≠ []) (nx : Tape -> (Fm × List Fm) × World) (hrun : ∀ T, (stepS P.g m ms).run P.g (Tt.tp w T 0) = .ok (nx T).1 (nx T).2)
   (hno : ∀ T K R y, ¬ OpR P fs K R (nx T).1 y) (hJ : ∀ T, JO P fs G' St W0 Post (nx T).1.1 (nx T).1.2 (nx T).2) : JO P fs G' St W0 Post m ms w := by
 intro K R W m' ms' Shun hw hm hms hsh hk
 refine J.own rfl λ d => ?_
 have hw₁ := WRel.at hw d
 let W₁ := W.at d
 let T : Tape := λ n q => W₁.tape (W₁.drawn + n) q
 have hw₂ : WRel (SF fs) K R G' St (Tt.tp w T 0) W₁ := ⟨hw₁.inj, hw₁.inj', hw₁.lt, hw₁.low, hw₁.gle, hw₁.cont, hw₁.rest, hw₁.st, hw₁.np⟩
 have htp : Tp (Tt.tp w T 0) W₁ := λ n q => by show W₁.tape (W₁.drawn + (0 + n)) q = _; rw [Nat.zero_add]
 obtain ⟨R1, x', W1, ev, e1, e2, e3, e4, e5⟩ := Sim.run hG _ (sim_stepS (l := false) F (hw₂.relOk hG) hm hms (λ e => by cases e) hs) hw₂ htp (hrun T)
 replace e2 := e2.resolve_right λ x => hno T K R1 x' x.2
 have hst := stepG_stepS (main := true) e1 []
 simp only [List.append_nil] at hst
 have hev : (stepS P.c m' ms').events P.c W₁ #[] = ev := by rw [e4]; simp
 rw [hev] at hst
 have hsz : W.heap.size <= W1.heap.size := e3.size.2
 have hsh1 : Sh W0.heap.size Shun R1 W1 := ⟨hsh.old, λ a b x l hl => by
   rcases e3.new a b x with y | ⟨_, y⟩
   . exact hsh.rel a b y l hl
   . exact hsh.new l b hl y, λ l b hl hb => hsh.new l b hl (Nat.le_trans hsz hb)⟩
 have hk1 : Kp W0 R1 St W1 := by
   refine ⟨e3.os.2.trans hk.os, e3.tape.2.trans hk.tape, e3.out.2.trans hk.output, Nat.le_trans hk.size hsz, λ b hb => ?_, λ a b x hb => ?_⟩
   . have hbW : b < W.heap.size := Nat.lt_of_lt_of_le hb hk.size
     rw [e3.keep b hbW (λ a x => hk.old a b x hb)]
     exact hk.block b hb
   . rcases e3.new a b x with y | ⟨_, y⟩
     . exact hk.old a b y hb
     . have h9 : W.heap.size <= b := y
       have := hk.size
       omega
 refine ⟨_, W1, _, W1.heap.size, hst, λ e he => evL_of_evOk (e5 e (mem_seen he)) hsh1 (λ a b x => (e3.rel.ltR a b x).2), hsz, ?_⟩
 exact hJ T K R1 W1 x'.1 x'.2 Shun e3.rel e2.1 e2.2.1 hsh1 hk1
theorem LTs.jo (F : Fit2 P fs) (hG : G' = P.globals.size) {N : Fm -> Prop} (hop : ∀ f xs, P.op f = true -> ¬ N (entF P.g f xs)) {Stop : Fm -> List Fm -> World -> Prop} (hS : ∀ m ms w, Stop m ms w -> JO P fs G' St W0 Post m ms w) {m : Fm} {ms : List Fm} {w : World} (h : LTs P.g N Stop m ms w) :
   JO P fs G' St W0 Post m ms w := by
 induction h with
 | stop hs => exact hS _ _ _ hs
 | step nx hs hrun hN hlt ih =>
   rename_i m ms w
   refine JO.one F hG hs nx hrun (λ T K R y ho => ?_) ih
   obtain ⟨f, xs, xs', c, c', rest, rest', h1, h2, h3, h4, _⟩ := ho.ex
   have hNT := hN T
   rw [h4] at hNT
   exact hop f xs h1 hNT
end
end Go.Mt
namespace Go.Mt
open Go.Conc Go.Tt
open Go.ConcR (KK wgBlock WgAt stA smA rd wr)
abbrev PL (p : Program) (op gs : FuncId -> Bool) : Pair := ⟨p, p.funcs, op, λ _ => false, gs, false⟩
abbrev PS (p : Program) (gs : FuncId -> Bool) : Pair := ⟨p, p.funcs, λ _ => false, λ _ => false, gs, false⟩
structure Lv (p : Program) (op gs gs₁ fs : FuncId -> Bool) : Prop where
 fit : Fit2 (PL p op gs) fs
 fit₁ : Fit3 (PS p gs₁) fs
 nofit : ∀ f, op f = true -> ∃ fn c, p.funcs[f]? = some fn /\ fn.body = some c /\ (fn.name == "runtime.NumGoroutine") = false /\ fitCode p ⟨fs, gs₁, false⟩ c = false
section
variable {p : Program} {op gs gs₁ fs : FuncId -> Bool} {St : Nat -> Prop} {W0 : World} {Post : Value -> World -> Prop}
abbrev JL (p : Program) (op gs fs : FuncId -> Bool) (St : Nat -> Prop) (W0 : World) (Post : Value -> World -> Prop) (m : Fm) (ms : List Fm) (w : World) : Prop := JO (PL p op gs) fs p.globals.size St W0 Post m ms w
theorem entF_fn (p : Program) (f : FuncId) (xs : Array Value) : (entF p f xs).fn = f := by
 unfold entF
 split
 . split <;> rfl
 . rfl
theorem JO.untape {P : Pair} {fs : FuncId -> Bool} {G' : Nat} {m : Fm} {ms : List Fm} {w : World} {T : Tape} {e : Nat} (h : JO P fs G' St W0 Post m ms (Tt.tp w T e)) : JO P fs G' St W0 Post m ms w :=
 λ K R W m' ms' Shun a b c d k => h K R W m' ms' Shun ⟨a.inj, a.inj', a.lt, a.low, a.gle, a.cont, a.rest, a.st, a.np⟩ b c d k
theorem RelS.tape {P : Pair} {fs : FuncId -> Bool} {K : Pr} {G' : Nat} {m : Fm} {ms : List Fm} {w : World} (h : RelS P fs K G' St m ms w) (T : Tape) (e : Nat) : RelS P fs K G' St m ms (Tt.tp w T e) := by
 obtain ⟨R, W, m', ms', a, b, c⟩ := h
 exact ⟨R, W, m', ms', ⟨a.inj, a.inj', a.lt, a.low, a.gle, a.cont, a.rest, a.st, a.np⟩, b, c⟩
theorem piece_tree {P₁ : Pair} {fs₁ : FuncId -> Bool} {K₁ : Pr} {G₁ : Nat} {St₁ : Nat -> Prop} (F₁ : Fit3 P₁ fs₁) (hG₁ : G₁ = P₁.globals.size) {fn : FuncId} {tmps : Array Value} {c : Code} {w : World} {Q : Exit -> Go.Act -> World -> Prop}
   (hrel : RelS P₁ fs₁ K₁ G₁ St₁ ⟨fn, tmps, [.code c], false⟩ [] w) (hwp : ∀ T, Code.wp P₁.g c Q ⟨tmps, []⟩ (Tt.tp w T 0)) (hx : ∀ e a w, Q e a w -> e = .normal \/ e = .ret) (hQt : ∀ e a w T k, Q e a w -> Q e a (Tt.tp w T k)) :
   Tt.LT P₁.g (λ mT wT => mT.ret = true /\ ((mT.todo = [] /\ Q .normal ⟨mT.tmps, []⟩ wT) \/ Q .ret ⟨mT.tmps, []⟩ wT)) ⟨fn, tmps, [.code c], false⟩ [] w := by
 refine bar F₁ hG₁ (λ m w T e h => ⟨h.1, h.2.imp (λ x => ⟨x.1, hQt _ _ _ _ _ x.2⟩) (hQt _ _ _ _ _)⟩) ⟨hrel, λ T => ?_⟩
 let b : Frame := { (default : Frame) with fn := fn, kind := .normal }
 obtain ⟨e, a', w', hq, harr⟩ := hwp T b [] [pz]
 have hrel' := RelS.tape hrel T 0
 have fin : ∀ todo, Steps P₁.g (lone (b.at ⟨tmps, []⟩ [.code c]) [pz] (Tt.tp w T 0)) (lone { b.at a' todo with mode := .returning } [pz] w') -> ((todo = [] /\ Q .normal a' w') \/ Q .ret a' w') ->
     ∃ n mT wT, Its P₁.g n ⟨fn, tmps, [.code c], false⟩ [] (Tt.tp w T 0) mT wT /\ mT.ret = true /\ ((mT.todo = [] /\ Q .normal ⟨mT.tmps, []⟩ wT) \/ Q .ret ⟨mT.tmps, []⟩ wT) := by
   intro todo hs hqq
   obtain ⟨n, hn⟩ := hs
   obtain ⟨k, mT, hi, hfr⟩ := reach F₁ hG₁ (frT := { b.at a' todo with mode := .returning }) rfl n hrel' hn
   have h1 : mT.tmps = a'.tmps := congrArg Frame.tmps hfr
   have h2 : a'.defers = [] := (congrArg Frame.defers hfr).symm
   have h3 : mT.todo = todo := congrArg Frame.todo hfr
   have h4 : mT.ret = true := by
     cases hr : mT.ret with
     | true => rfl
     | false => have := congrArg Frame.mode hfr; rw [Fm.fr_run hr] at this; cases this
   have h5 : (⟨mT.tmps, []⟩ : Go.Act) = a' := by rw [h1, <- h2]
   exact ⟨k, mT, w', hi, h4, by rw [h5, h3]; exact hqq⟩
 rcases hx e a' w' hq with rfl | rfl
 . exact fin [] (Steps.trans harr (Steps.one step_end)) (.inl ⟨rfl, hq⟩)
 . obtain ⟨todo, hs⟩ := harr
   exact fin todo hs (.inr hq)
def notOp (p : Program) (op : FuncId -> Bool) (m : Fm) : Prop := ∀ f xs, op f = true -> m ≠ entF p f xs
theorem Lv.hop (L : Lv p op gs gs₁ fs) : ∀ f xs, (PL p op gs).op f = true -> ¬ notOp p op (entF (PL p op gs).g f xs) := λ f xs h hn => hn f xs h rfl
theorem Lv.hN (L : Lv p op gs gs₁ fs) {K₁ : Pr} : ∀ m R y, FmR (PS p gs₁) fs K₁ R m y -> notOp p op m := by
 rintro m R y hm f xs ho rfl
 obtain ⟨fn, c, h1, h2, _, h4⟩ := L.nofit f ho
 have h5 : entF p f xs = ⟨f, xs ++ Array.replicate (fn.ntmps - xs.size) undef, [.code c], false⟩ := by simp [entF, h1, h2]
 have hf := hm.fit
 rw [h5] at hf
 have := hf (.code c) (by simp)
 have h6 : cls (PS p gs₁) fs f = ⟨fs, gs₁, false⟩ := rfl
 simp only [fitItem, h6, h4] at this
 cases this
theorem relS_piece {K : Pr} {R : Pr} {fn : FuncId} {tmps : Array Value} {c : Code} {k : List Item} {w W : World} {m' : Fm} (hc : fitCode p ⟨fs, gs₁, false⟩ c = true)
   (hw : WRel (SF fs) K R p.globals.size St w W) (hm : FmR (PL p op gs) fs K R ⟨fn, tmps, .code c :: k, false⟩ m') : RelS (PS p gs₁) fs K p.globals.size St ⟨fn, tmps, [.code c], false⟩ [] w := by
 refine ⟨R, W, { m' with todo := [.code c] }, [], hw, ⟨hm.fn, rfl, hm.ret, hm.tmps, λ i hi => ?_, hm.infs⟩, .nil⟩
 simp only [List.mem_cons, List.not_mem_nil, or_false] at hi
 subst hi
 exact hc
theorem JO.piece (L : Lv p op gs gs₁ fs) {fn : FuncId} {tmps : Array Value} {c : Code} {k : List Item} {b : List Fm} {w : World} (hc : fitCode p ⟨fs, gs₁, false⟩ c = true) (hfn : op fn = false)
   (hwp : ∀ T, Code.wp p c (λ e a' w' => e = .normal /\ JL p op gs fs St W0 Post ⟨fn, a'.tmps, k, false⟩ b w') ⟨tmps, []⟩ (Tt.tp w T 0)) : JL p op gs fs St W0 Post ⟨fn, tmps, .code c :: k, false⟩ b w := by
 intro K R W m' ms' Shun hw hm hms hsh hk
 have hrel := relS_piece (gs₁ := gs₁) hc hw hm
 have tree := piece_tree L.fit₁ rfl hrel hwp (λ e a w h => .inl h.1) (λ e a w T k h => ⟨h.1, h.2.tape T k⟩)
 have tree2 := LT.app L.fit₁ rfl (N := notOp p op) (Stop := λ m ms w => JL p op gs fs St W0 Post m ms w) k b (fn0 := fn) (L.hN (K₁ := K)) (λ m e f xs ho e2 => by rw [e2, entF_fn] at e; rw [e, hfn] at ho; cases ho)
   (λ x w e1 e2 e3 hq => by
     have h1 := hq w.tape
     rcases h1.2 with h | h
     . have h2 := JO.untape h.2.2
       obtain ⟨xf, xt, xd, xr⟩ := x
       simp only at e1 e2 e3 h2
       subst e1 e2 e3
       exact h2
     . cases h.1)
   (λ x w e1 e2 e3 hq => by
     rcases hq.2 with h | h
     . exact absurd h.1 e3
     . cases h.1) tree rfl hrel (λ _ e => by cases e)
 exact LTs.jo L.fit rfl L.hop (λ m ms w h => h) tree2 K R W m' ms' Shun hw hm hms hsh hk
theorem JO.ctl (L : Lv p op gs gs₁ fs) {m m1 : Fm} {ms : List Fm} {w : World} (hr : m.ret = false) (hf : op m1.fn = false) (hrun : ∀ w, (runS p m ms).run p w = .ok (m1, ms) w) (hJ : JL p op gs fs St W0 Post m1 ms w) : JL p op gs fs St W0 Post m ms w := by
 refine JO.one L.fit rfl (λ e => by rw [hr] at e; cases e) (λ T => ((m1, ms), Tt.tp w T 0)) (λ T => ?_) (λ T K R y ho => ?_) λ T => hJ.tape T 0
 . show (stepS p m ms).run p _ = _
   simp only [stepS, hr, Bool.false_eq_true, if_false]
   exact hrun _
 . obtain ⟨f, xs, xs', c, c', rest, rest', h1, h2, h3, h4, _⟩ := ho.ex
   simp only [Prod.mk.injEq] at h4
   have h5 := h4.1
   rw [h5, entF_fn] at hf
   have h6 : op f = true := h1
   rw [hf] at h6; cases h6
theorem JO.seq (L : Lv p op gs gs₁ fs) {fn : FuncId} {tmps : Array Value} {a b : Code} {k : List Item} {ms : List Fm} {w : World} (hf : op fn = false) (h : JL p op gs fs St W0 Post ⟨fn, tmps, .code a :: .code b :: k, false⟩ ms w) : JL p op gs fs St W0 Post ⟨fn, tmps, .code (.seq a b) :: k, false⟩ ms w :=
 JO.ctl L rfl hf (λ w => rfl) h
theorem JO.cond (L : Lv p op gs gs₁ fs) {fn : FuncId} {tmps : Array Value} {c : Operand} {a b : Code} {k : List Item} {ms : List Fm} {w : World} {t : Bool} (hf : op fn = false) (hc : (Go.Act.mk tmps []).eval c = .bool t) (h : JL p op gs fs St W0 Post ⟨fn, tmps, .code (if t then a else b) :: k, false⟩ ms w) : JL p op gs fs St W0 Post ⟨fn, tmps, .code (.cond c a b) :: k, false⟩ ms w := by
 refine JO.ctl L rfl hf (λ w => ?_) h
 have he : Fm.eval ⟨fn, tmps, .code (.cond c a b) :: k, false⟩ c = .bool t := by rw [<- hc]; cases c <;> rfl
 simp only [runS, he, Pure.pure, Sem.run]
theorem JO.skip (L : Lv p op gs gs₁ fs) {fn : FuncId} {tmps : Array Value} {k : List Item} {ms : List Fm} {w : World} (hf : op fn = false) (h : JL p op gs fs St W0 Post ⟨fn, tmps, k, false⟩ ms w) : JL p op gs fs St W0 Post ⟨fn, tmps, .code .skip :: k, false⟩ ms w := JO.ctl L rfl hf (λ w => rfl) h
theorem JO.ret (L : Lv p op gs gs₁ fs) {fn : FuncId} {tmps : Array Value} {k : List Item} {ms : List Fm} {w : World} (hf : op fn = false) (h : JL p op gs fs St W0 Post ⟨fn, tmps, .code .ret :: k, true⟩ ms w) : JL p op gs fs St W0 Post ⟨fn, tmps, .code .ret :: k, false⟩ ms w := JO.ctl L rfl hf (λ w => rfl) h
theorem JO.fall (L : Lv p op gs gs₁ fs) {fn : FuncId} {tmps : Array Value} {ms : List Fm} {w : World} (hf : op fn = false) (h : JL p op gs fs St W0 Post ⟨fn, tmps, [], true⟩ ms w) : JL p op gs fs St W0 Post ⟨fn, tmps, [], false⟩ ms w := JO.ctl L rfl hf (λ w => rfl) h
theorem JO.reg (L : Lv p op gs gs₁ fs) {fn : FuncId} {tmps : Array Value} {id : Nat} {ops : Array Oper} {k : List Item} {ms : List Fm} {w : World} (hf : op fn = false) (h : JL p op gs fs St W0 Post ⟨fn, tmps, .inRegion ops (List.range ops.size) :: k, false⟩ ms w) : JL p op gs fs St W0 Post ⟨fn, tmps, .code (.region id ops false) :: k, false⟩ ms w := JO.ctl L rfl hf (λ w => rfl) h
theorem JO.regEnd (L : Lv p op gs gs₁ fs) {fn : FuncId} {tmps : Array Value} {ops : Array Oper} {k : List Item} {ms : List Fm} {w : World} (hf : op fn = false) (h : JL p op gs fs St W0 Post ⟨fn, tmps, k, false⟩ ms w) : JL p op gs fs St W0 Post ⟨fn, tmps, .inRegion ops [] :: k, false⟩ ms w := JO.ctl L rfl hf (λ w => rfl) h
theorem JO.opv (L : Lv p op gs gs₁ fs) {fn : FuncId} {tmps : Array Value} {ops : Array Oper} {i : Nat} {rest : List Nat} {k : List Item} {ms : List Fm} {w : World} {o : Oper} {v : Value} (hf : op fn = false) (ho : ops[i]? = some o) (hwt : Region.wanted o (yielded ops tmps) = true)
   (hx : ∀ T e, (execOp (Go.Act.mk tmps []).eval o).run p (Tt.tp w T e) = .ok (.value v) (Tt.tp w T e)) (h : JL p op gs fs St W0 Post ⟨fn, (Go.Act.put ⟨tmps, []⟩ o.dst v).tmps, .inRegion ops rest :: k, false⟩ ms w) : JL p op gs fs St W0 Post ⟨fn, tmps, .inRegion ops (i :: rest) :: k, false⟩ ms w := by
 refine JO.one L.fit rfl (λ e => by cases e) (λ T => ((⟨fn, (Go.Act.put ⟨tmps, []⟩ o.dst v).tmps, .inRegion ops rest :: k, false⟩, ms), Tt.tp w T 0)) (λ T => ?_) (λ T K R y hoo => ?_) λ T => h.tape T 0
 . show (stepS p _ ms).run p _ = _
   simp only [stepS, Bool.false_eq_true, if_false, runS, ho, Option.map_some, Option.getD_some, hwt, if_true]
   have he : Fm.eval ⟨fn, tmps, .inRegion ops (i :: rest) :: k, false⟩ = (Go.Act.mk tmps []).eval := by funext x; cases x <;> rfl
   rw [he]
   refine (Sem.run_bind' p _ _ _).trans ?_
   rw [hx]
   simp only [Result.andThen, opS, Pure.pure, Sem.run, Fm.fin, ho, Option.bind_some, Go.Act.put]
   cases o.dst <;> rfl
 . obtain ⟨f, xs, xs', c, c', rest, rest', h1, h2, h3, h4, _⟩ := hoo.ex
   simp only [Prod.mk.injEq] at h4
   have h5 := congrArg Fm.fn h4.1
   rw [entF_fn] at h5
   have h6 : op f = true := h1
   simp only at h5
   rw [<- h5, hf] at h6; cases h6
theorem JO.back (L : Lv p op gs gs₁ fs) {x m : Fm} {ms : List Fm} {w : World} {ops : Array Oper} {i : Nat} {rest : List Nat} {k : List Item} {v : Value} (hr : x.ret = true) (htd : m.todo = .inRegion ops (i :: rest) :: k) {fnx : Func} (hfx : p.funcs[x.fn]? = some fnx) (hv : (resS fnx.results.toList x.tmps).run p w = .ok v w) (hf : op m.fn = false)
   (h : JL p op gs fs St W0 Post (m.fin ops i rest k v) ms w) : JL p op gs fs St W0 Post x (m :: ms) w := by
 refine JO.one L.fit rfl (λ _ => by simp) (λ T => ((m.fin ops i rest k v, ms), Tt.tp w T 0)) (λ T => ?_) (λ T K R y hoo => ?_) λ T => h.tape T 0
 . show (stepS p x (m :: ms)).run p _ = _
   simp only [stepS, hr, if_true]
   exact (retS_mk htd hfx ((tf_resS _ _ w v w hv).2 T 0)).1
 . obtain ⟨f, xs, xs', c, c', rest, rest', h1, h2, h3, h4, _⟩ := hoo.ex
   simp only [Prod.mk.injEq] at h4
   have h5 := congrArg Fm.fn h4.1
   rw [entF_fn] at h5
   have h6 : op f = true := h1
   have h7 : m.fn = f := h5
   rw [<- h7, hf] at h6; cases h6
theorem JO.tail (L : Lv p op gs gs₁ fs) {fn : FuncId} {tmps : Array Value} {c : Code} {b : List Fm} {w : World} (hc : fitCode p ⟨fs, gs₁, false⟩ c = true) (hfn : op fn = false)
   (hwp : ∀ T, Code.wp p c (λ e a' w' => (e = .normal \/ e = .ret) /\ ∀ todo, JL p op gs fs St W0 Post ⟨fn, a'.tmps, todo, true⟩ b w') ⟨tmps, []⟩ (Tt.tp w T 0)) : JL p op gs fs St W0 Post ⟨fn, tmps, [.code c], false⟩ b w := by
 intro K R W m' ms' Shun hw hm hms hsh hk
 have hrel := relS_piece (gs₁ := gs₁) hc hw hm
 have tree := piece_tree L.fit₁ rfl hrel hwp (λ e a w h => h.1) (λ e a w T k h => ⟨h.1, λ todo => (h.2 todo).tape T k⟩)
 have tree2 := LT.app L.fit₁ rfl (N := notOp p op) (Stop := λ m ms w => JL p op gs fs St W0 Post m ms w) [] b (fn0 := fn) (L.hN (K₁ := K)) (λ m e f xs ho e2 => by rw [e2, entF_fn] at e; rw [e, hfn] at ho; cases ho)
   (λ x w e1 e2 e3 hq => by
     have h1 := hq w.tape
     have h2 : JL p op gs fs St W0 Post ⟨fn, x.tmps, [], true⟩ b w := by
       rcases h1.2 with h | h
       . exact JO.untape (h.2.2 [])
       . exact JO.untape (h.2 [])
     obtain ⟨xf, xt, xd, xr⟩ := x
     simp only at e1 e2 e3 h2
     subst e1 e2 e3
     exact JO.fall L hfn h2)
   (λ x w e1 e2 e3 hq => by
     have h2 : JL p op gs fs St W0 Post ⟨fn, x.tmps, x.todo, true⟩ b w := by
       rcases hq.2 with h | h
       . exact h.2.2 _
       . exact h.2 _
     obtain ⟨xf, xt, xd, xr⟩ := x
     simp only at e1 e2 e3 h2
     subst e1 e2
     rw [Fm.app_nil]
     exact h2) tree rfl hrel (λ _ e => by cases e)
 exact LTs.jo L.fit rfl L.hop (λ m ms w h => h) tree2 K R W m' ms' Shun hw hm hms hsh hk
theorem results_inv {p : Program} {fn : Func} (hp : plainRes fn.results.toList) {tmps : Array Value} {v : Value} {w w' : World} (h : (results fn tmps).run p w = .ok v w') : (resS fn.results.toList tmps).run p w = .ok v w := by
 rw [results_resS hp] at h
 obtain ⟨rfl, _⟩ := tf_resS _ _ w v w' h
 exact h
theorem exec_call {p : Program} {o : Oper} {f : FuncId} {args : Array Operand} {ats : Array TypeId} (hop : o.op = .call ⟨.value (.func f), args, ats⟩) {ρ : Operand -> Value} (hρ : ∀ g, ρ (.func g) = .func (.func g) #[] #[]) {fn : Func} {c : Code} (hf : p.funcs[f]? = some fn)
   (hn : (fn.name == "runtime.NumGoroutine") = false) (hb : fn.body = some c) (w : World) : (execOp ρ o).run p w = .ok (.enter f (args.map ρ)) w /\ (execOp ρ o).events p w #[] = #[] := by
 obtain ⟨dst, op', type, pos, after, guard⟩ := o
 simp only at hop
 subst hop
 have hn' : ¬ fn.name = "runtime.NumGoroutine" := by simpa using hn
 constructor
 . simp [execOp, resolve, Deferred.ofValue, hρ, invoke, callFunc, program, bind, Sem.bind, pure, Sem.run, hf, hn', hb]
 . simp [execOp, resolve, Deferred.ofValue, hρ, invoke, callFunc, program, bind, Sem.bind, pure, Sem.run, Sem.events, Sem.runT, hf, hn', hb]
theorem JO.callF (L : Lv p op gs gs₁ fs) {m : Fm} {ms : List Fm} {w : World} {ops : Array Oper} {i : Nat} {rest : List Nat} {k : List Item} {o : Oper} {f : FuncId} {args : Array Operand} {ats : Array TypeId} (hr : m.ret = false) (htd : m.todo = .inRegion ops (i :: rest) :: k)
   (ho : ops[i]? = some o) (hwt : Region.wanted o (yielded ops m.tmps) = true) (hop : o.op = .call ⟨.value (.func f), args, ats⟩) (hg : op f = true) (hargs : args.all (okX fs) = true)
   (hF : ∀ (K R : Pr) (W : World) (m' : Fm) (ms' : List Fm) (Shun : Loc -> Prop) (xs' : Array Value), WRel (SF fs) K R p.globals.size St w W -> FmR (PL p op gs) fs K R m m' -> MsR (PL p op gs) fs K R ms ms' -> Sh W0.heap.size Shun R W -> Kp W0 R St W -> ArR (SF fs) K R (args.map m.eval) xs' ->
     J p Post Shun W.heap.size (G (Frame.enter p f xs' .normal) (m'.fr :: ms'.map Fm.fr)) W) : JL p op gs fs St W0 Post m ms w := by
 obtain ⟨fn, c, g2', g4, g3, _⟩ := L.nofit f hg
 intro K R W m' ms' Shun hw hm hms hsh hk
 refine J.own rfl λ d => ?_
 have hxs : ArR (SF fs) K R (args.map m.eval) (args.map m'.eval) := ArR.maps hm.eval hargs
 have hr' : m'.ret = false := hm.ret.symm.trans hr
 have htd' : m'.todo = .inRegion ops (i :: rest) :: k := hm.todo.symm.trans htd
 have hwt' : Region.wanted o (yielded ops m'.tmps) = true := by rw [<- yielded_rel ops hm.tmps]; exact hwt
 have hent : Frame.enter p f (args.map m'.eval) .normal = (⟨f, args.map m'.eval ++ Array.replicate (fn.ntmps - (args.map m'.eval).size) undef, [.code c], false⟩ : Fm).fr := enter_fr g2' g4
 obtain ⟨x1, x2⟩ := exec_call hop (ρ := m'.eval) (λ g => rfl) g2' g3 g4 (W.at d)
 have hs : (stepS p m' ms').run p (W.at d) = .ok (⟨f, args.map m'.eval ++ Array.replicate (fn.ntmps - (args.map m'.eval).size) undef, [.code c], false⟩, m' :: ms') (W.at d) := by
   simp only [stepS, hr', Bool.false_eq_true, if_false, runS, htd', ho, Option.map_some, Option.getD_some, hwt', if_true]
   refine (Sem.run_bind' p _ _ _).trans ?_
   rw [x1]
   simp only [Result.andThen, opS, g2', g4, Pure.pure, Sem.run]
 have hst := stepG_stepS (main := true) hs []
 simp only [List.append_nil] at hst
 have he : (stepS p m' ms').events p (W.at d) #[] = #[] := by
   simp only [stepS, hr', Bool.false_eq_true, if_false, runS, htd', ho, Option.map_some, Option.getD_some, hwt', if_true]
   refine (Sem.events_bind' p _ _ _ #[]).trans ?_
   rw [x1, Result.evThen_ok, x2]
   simp only [opS, g2', g4]; rfl
 rw [he, Conc.seen_none] at hst
 refine ⟨_, W.at d, #[], W.heap.size, hst, λ e he => by simp at he, Nat.le_refl _, ?_⟩
 rw [<- hent]
 exact hF K R (W.at d) m' ms' Shun (args.map m'.eval) (WRel.at hw d) hm hms ⟨hsh.old, hsh.rel, hsh.new⟩ ⟨hk.os, hk.tape, hk.output, hk.size, hk.block, hk.old⟩ hxs
theorem JO.fin (L : Lv p op gs gs₁ fs) {x : Fm} {w : World} {fn : Func} {t : Tmp} (hr : x.ret = true) (hf : p.funcs[x.fn]? = some fn) (ht : fn.results = #[.tmp t]) (hi : p.inits.idxOf? x.fn = none) (hP : ∀ K R W v', VR (SF fs) K R (x.tmps.getD t undef) v' -> Kp W0 R St W -> Post v' W) : JL p op gs fs St W0 Post x [] w := by
 intro K R W m' ms' Shun hw hm hms hsh hk
 cases hms
 refine J.done rfl λ d => ?_
 have hr' : m'.ret = true := hm.ret.symm.trans hr
 have hfn' : p.funcs[m'.fn]? = some fn := by rw [<- hm.fn]; exact hf
 have hi' : p.inits.idxOf? m'.fn = none := by rw [<- hm.fn]; exact hi
 refine ⟨m'.tmps.getD t undef, #[], ?_, λ e he => by simp at he, hP K R (W.at d) _ (hm.tmps.getD t vr_undef) ⟨hk.os, hk.tape, hk.output, hk.size, hk.block, hk.old⟩⟩
 have r1 := results_tmp ht m'.tmps p (W.at d)
 have r2 := Conc.events_results_tmp (P := p) (w := W.at d) ht m'.tmps #[]
 rw [Fm.fr_ret hr']
 simp [G, stepG, unwind, doReturn, hfn', r1, r2, Conc.seen_none, GStep.after, hi']
end
end Go.Mt
namespace Go.Mt
open Go.Conc Go.Tt
structure Dk where
 ds : List Deferred
 kd : CallKind
 ok : kd ≠ .early
abbrev Dk.nil : Dk := ⟨[], .normal, by simp⟩
def Dk.base (d : Dk) (fn : FuncId) : Frame := { (default : Frame) with fn := fn, kind := d.kd }
def fx (k : List Item) (d : Dk) (m : Fm) : Frame := { m.fr with todo := m.todo ++ k, defers := d.ds, kind := d.kd }
theorem fx_nil (m : Fm) : fx [] .nil m = m.fr := by unfold fx; simp [Fm.fr]
theorem runS_fx {p : Program} {main : Bool} {m m' : Fm} {ms ms' : List Fm} {w w' : World} (hr : m.ret = false) {k : List Item} (hne : m.todo = [] -> k = []) (h : (runS p m ms).run p w = .ok (m', ms') w') (d : Dk) (CS : List Frame) :
   (ms' = ms /\ stepG p main (G (fx k d m) CS) w = .go (G (fx k d m') CS) w' (seen p m.fn ((runS p m ms).events p w #[]))) \/
   (ms' = m :: ms /\ stepG p main (G (fx k d m) CS) w = .go (G m'.fr (fx k d m :: CS)) w' (seen p m.fn ((runS p m ms).events p w #[]))) := by
 have none0 : seen p m.fn #[] = #[] := Conc.seen_none p _
 obtain ⟨fn, tmps, todo, ret⟩ := m
 simp only at hr none0 hne ⊢
 subst hr
 unfold runS at h ⊢
 simp only at h ⊢
 split at h
 all_goals first
   | (simp [stuck, Sem.run] at h; done)
   | (obtain rfl := hne rfl
      simp only [Pure.pure, Sem.run, Result.ok.injEq, Prod.mk.injEq] at h
      obtain ⟨⟨rfl, rfl⟩, rfl⟩ := h
      refine .inl ⟨rfl, ?_⟩
      simp [G, stepG, stepG.exec, Fm.fr, fx, none0, GStep.after]
      done)
   | (simp only [Pure.pure, Sem.run, Result.ok.injEq, Prod.mk.injEq] at h
      obtain ⟨⟨rfl, rfl⟩, rfl⟩ := h
      refine .inl ⟨rfl, ?_⟩
      simp [G, stepG, stepG.exec, Fm.fr, fx, none0, GStep.after]
      done)
   | skip
 case h_8 _ c a b k0 =>
   generalize hv : Fm.eval { fn := fn, tmps := tmps, todo := Item.code (Code.cond c a b) :: k0, ret := false } c = v at h ⊢
   have hc : Frame.eval { fn := fn, tmps := tmps, todo := Item.code (Code.cond c a b) :: (k0 ++ k), defers := d.ds, mode := .run, kind := d.kd } c = v := by rw [<- hv]; cases c <;> rfl
   cases v with
   | bool t =>
     simp only [Pure.pure, Sem.run, Result.ok.injEq, Prod.mk.injEq] at h
     obtain ⟨⟨rfl, rfl⟩, rfl⟩ := h
     refine .inl ⟨rfl, ?_⟩
     simp [G, stepG, stepG.exec, Fm.fr, fx, none0, hc]
   | _ => simp [stuck, Sem.run] at h
 case h_13 _ id k0 =>
   cases he : exitTo id k0 with
   | some k' =>
     rw [he] at h
     simp only [Pure.pure, Sem.run, Result.ok.injEq, Prod.mk.injEq] at h
     obtain ⟨⟨rfl, rfl⟩, rfl⟩ := h
     refine .inl ⟨rfl, ?_⟩
     simp [G, stepG, stepG.exec, Fm.fr, fx, none0, exitTo_app k he]
   | none => rw [he] at h; simp [stuck, Sem.run] at h
 case h_14 _ id ops draw k0 =>
   cases draw with
   | true =>
     simp [choose, Sem.run, Question.forced, Question.cut, bind, Sem.bind, pure] at h
     obtain ⟨⟨rfl, rfl⟩, rfl⟩ := h
     refine .inl ⟨rfl, ?_⟩
     simp [G, stepG, stepG.exec, Fm.fr, fx, none0, choose, Sem.run, Question.forced, Question.cut, Sem.events, Sem.runT, bind, Sem.bind, pure]
   | false =>
     simp only [Bool.false_eq_true, if_false, Pure.pure, Sem.run, Result.ok.injEq, Prod.mk.injEq] at h
     obtain ⟨⟨rfl, rfl⟩, rfl⟩ := h
     refine .inl ⟨rfl, ?_⟩
     simp [G, stepG, stepG.exec, Fm.fr, fx, none0]
 case h_16 _ ops i rest k0 =>
   have hae : ∀ x, Act.eval ⟨tmps, d.ds⟩ x = Fm.eval { fn := fn, tmps := tmps, todo := Item.inRegion ops (i :: rest) :: k0, ret := false } x := λ x => by cases x <;> rfl
   have hae' : Act.eval ⟨tmps, d.ds⟩ = Fm.eval { fn := fn, tmps := tmps, todo := Item.inRegion ops (i :: rest) :: k0, ret := false } := funext hae
   have hfin : ∀ v, (d.base fn).at (Act.put ⟨tmps, d.ds⟩ ((ops[i]?).bind (·.dst)) v) (.inRegion ops rest :: (k0 ++ k)) = fx k d (Fm.fin { fn := fn, tmps := tmps, todo := Item.inRegion ops (i :: rest) :: k0, ret := false } ops i rest k0 v) := λ v => by
     unfold Fm.fin Act.put fx
     cases (ops[i]?).bind (·.dst) <;> rfl
   have hb : (d.base fn).kind ≠ .early := d.ok
   have hfx : fx k d { fn := fn, tmps := tmps, todo := Item.inRegion ops (i :: rest) :: k0, ret := false } = (d.base fn).at ⟨tmps, d.ds⟩ (.inRegion ops (i :: rest) :: (k0 ++ k)) := rfl
   rw [hfx]
   cases ho : ops[i]? with
   | none =>
     rw [ho] at h
     simp only [Option.map_none, Option.getD_none, Bool.false_eq_true, if_false, Pure.pure, Sem.run, Result.ok.injEq, Prod.mk.injEq] at h
     obtain ⟨⟨rfl, rfl⟩, rfl⟩ := h
     refine .inl ⟨rfl, ?_⟩
     rw [<- hfin undef]
     have hff : ((d.base fn).at ⟨tmps, d.ds⟩ (.inRegion ops (i :: rest) :: (k0 ++ k))).finish undef = (d.base fn).at (Act.put ⟨tmps, d.ds⟩ ((ops[i]?).bind (·.dst)) undef) (.inRegion ops rest :: (k0 ++ k)) := Frame.finish_at _ _ _ _ _ _ _
     rw [<- hff]
     simp [G, stepG, stepG.exec, none0, ho, Frame.at]
   | some o =>
     rw [ho] at h
     simp only [ho, Option.bind_some] at hfin
     simp only [Option.map_some, Option.getD_some] at h ⊢
     by_cases hw : Region.wanted o (yielded ops tmps) = true
     . rw [if_pos hw] at h
       rw [if_pos hw]
       have hrb := Sem.run_bind' p (execOp (Fm.eval { fn := fn, tmps := tmps, todo := Item.inRegion ops (i :: rest) :: k0, ret := false }) o) (opS p { fn := fn, tmps := tmps, todo := Item.inRegion ops (i :: rest) :: k0, ret := false } ms ops i rest k0) w
       have h' := hrb.symm.trans h
       have hevb := Sem.events_bind' p (execOp (Fm.eval { fn := fn, tmps := tmps, todo := Item.inRegion ops (i :: rest) :: k0, ret := false }) o) (opS p { fn := fn, tmps := tmps, todo := Item.inRegion ops (i :: rest) :: k0, ret := false } ms ops i rest k0) w #[]
       cases hx : (execOp (Fm.eval { fn := fn, tmps := tmps, todo := Item.inRegion ops (i :: rest) :: k0, ret := false }) o).run p w with
       | halt y w1 => rw [hx] at h'; cases h'
       | ok n w1 =>
         rw [hx] at h' hevb
         have hx' : (execOp (Act.eval ⟨tmps, d.ds⟩) o).run p w = .ok n w1 := by rw [hae']; exact hx
         have hl : Conc.listed p fn ⟨tmps, d.ds⟩ o w = seen p fn ((execOp (Fm.eval { fn := fn, tmps := tmps, todo := Item.inRegion ops (i :: rest) :: k0, ret := false }) o).events p w #[]) := by unfold Conc.listed; rw [hae']
         have h2 : (opS p { fn := fn, tmps := tmps, todo := Item.inRegion ops (i :: rest) :: k0, ret := false } ms ops i rest k0 n).run p w1 = .ok (m', ms') w' := h'
         have fine : ∀ (r : Fm × List Fm), opS p { fn := fn, tmps := tmps, todo := Item.inRegion ops (i :: rest) :: k0, ret := false } ms ops i rest k0 n = Pure.pure r ->
             (m', ms') = r /\ w' = w1 /\ seen p fn ((do let n <- execOp (Fm.eval { fn := fn, tmps := tmps, todo := Item.inRegion ops (i :: rest) :: k0, ret := false }) o; opS p { fn := fn, tmps := tmps, todo := Item.inRegion ops (i :: rest) :: k0, ret := false } ms ops i rest k0 n : Sem (Fm × List Fm)).events p w #[]) = Conc.listed p fn ⟨tmps, d.ds⟩ o w := λ r e => by
           rw [e] at h2
           simp only [Pure.pure, Sem.run, Result.ok.injEq] at h2
           refine ⟨h2.1.symm, h2.2.symm, ?_⟩
           rw [hl]
           congr 1
           refine hevb.trans ?_
           rw [Result.evThen_ok, e]; rfl
         cases n with
         | value v =>
           obtain ⟨e1, rfl, e3⟩ := fine _ rfl
           injection e1 with e1 e2
           subst e1 e2
           refine .inl ⟨rfl, ?_⟩
           rw [e3]
           have := Conc.stepG_value (main := main) (b := d.base fn) (a := ⟨tmps, d.ds⟩) (rest := rest) (k := k0 ++ k) (cs := CS) ho hw hb hx'
           rw [hfin] at this
           exact this
         | skip =>
           obtain ⟨e1, rfl, e3⟩ := fine _ rfl
           injection e1 with e1 e2
           subst e1 e2
           refine .inl ⟨rfl, ?_⟩
           rw [e3]
           have := Conc.stepG_none (main := main) (b := d.base fn) (a := ⟨tmps, d.ds⟩) (rest := rest) (k := k0 ++ k) (cs := CS) ho hw hb hx'
           rw [hfin] at this
           exact this
         | enter f args =>
           have h3 := h2
           simp only [opS] at h3
           cases hf : p.funcs[f]? with
           | none => rw [hf] at h3; simp [stuck, Sem.run] at h3
           | some fn2 =>
             cases hbd : fn2.body with
             | none => rw [hf] at h3; simp only [hbd] at h3; simp [stuck, Sem.run] at h3
             | some c =>
               obtain ⟨e1, rfl, e3⟩ := fine _ (by simp only [opS, hf, hbd]; rfl)
               injection e1 with e1 e2
               subst e1 e2
               refine .inr ⟨rfl, ?_⟩
               rw [e3]
               have := Conc.stepG_enter (main := main) (b := d.base fn) (a := ⟨tmps, d.ds⟩) (rest := rest) (k := k0 ++ k) (cs := CS) ho hw hb hx'
               rw [enter_fr hf hbd] at this
               exact this
         | _ => simp [opS, stuck, Sem.run] at h2
     . rw [if_neg hw] at h
       rw [if_neg hw]
       simp only [Pure.pure, Sem.run, Result.ok.injEq, Prod.mk.injEq] at h
       obtain ⟨⟨rfl, rfl⟩, rfl⟩ := h
       refine .inl ⟨rfl, ?_⟩
       have := Conc.stepG_unwanted (P := p) (main := main) (b := d.base fn) (a := ⟨tmps, d.ds⟩) (rest := rest) (k := k0 ++ k) (cs := CS) (w := w) ho (by simpa using hw)
       rw [hfin] at this
       rw [show seen p fn (Sem.events p (Pure.pure (Fm.fin { fn := fn, tmps := tmps, todo := Item.inRegion ops (i :: rest) :: k0, ret := false } ops i rest k0 undef, ms) : Sem (Fm × List Fm)) w #[]) = #[] from none0]
       exact this
theorem retS_fx {p : Program} {main : Bool} {m c m' : Fm} {rest ms' : List Fm} {w w' : World} (hr : m.ret = true) (hc : c.ret = false) (h : (retS p m (c :: rest)).run p w = .ok (m', ms') w') (k : List Item) (d : Dk) (CS : List Frame) :
   ms' = rest /\ w' = w /\ (∃ ops i r k0 v, c.todo = .inRegion ops (i :: r) :: k0 /\ m' = c.fin ops i r k0 v) /\ stepG p main (G m.fr (fx k d c :: CS)) w = .go (G (fx k d m') CS) w' (seen p m.fn ((retS p m (c :: rest)).events p w #[])) := by
 obtain ⟨ops, i, r, k0, v, fn, hct, hf, hv, rfl, rfl⟩ := retS_inv h
 obtain ⟨rfl, _⟩ := tf_resS _ _ w v w' hv
 refine ⟨rfl, rfl, ⟨ops, i, r, k0, v, hct, rfl⟩, ?_⟩
 rw [(retS_mk hct hf hv).2]
 have he : results fn m.tmps = resS fn.results.toList m.tmps := results_resS (resS_plain hv)
 have hfin : (fx k d c).finish v = fx k d (c.fin ops i r k0 v) := by
   simp only [Frame.finish, fx, Fm.fr, Fm.fin, hct, List.cons_append]
   cases (ops[i]?).bind (·.dst) <;> rfl
 rw [Fm.fr_ret hr, <- hfin]
 simp [G, stepG, unwind, doReturn, hf, he, hv, GStep.after]
def low (k : List Item) (d : Dk) : Fm -> List Fm -> List Frame
 | c, [] => [fx k d c]
 | c, e :: cs => c.fr :: low k d e cs
def stk (k : List Item) (d : Dk) (base : List Frame) (m : Fm) : List Fm -> Goroutine
 | [] => G (fx k d m) base
 | c :: cs => G m.fr (low k d c cs ++ base)
theorem stk_status (k : List Item) (d : Dk) (base : List Frame) (m : Fm) (ms : List Fm) : (stk k d base m ms).status = .running := by cases ms <;> rfl
theorem stk_step {p : Program} {main : Bool} {m m' : Fm} {ms ms' : List Fm} {w w' : World} {k : List Item} {d : Dk} {base : List Frame} (hs : m.ret = true -> ms ≠ []) (hne : ms = [] -> m.ret = false -> m.todo ≠ []) (hw : ∀ c ∈ ms, c.ret = false)
   (h : (stepS p m ms).run p w = .ok (m', ms') w') : ∃ es, stepG p main (stk k d base m ms) w = .go (stk k d base m' ms') w' es /\ ∀ e ∈ es, e ∈ seen p m.fn ((stepS p m ms).events p w #[]) := by
 cases hr : m.ret with
 | false =>
   simp only [stepS, hr, Bool.false_eq_true, if_false] at h ⊢
   cases ms with
   | nil =>
     rcases runS_fx (main := main) hr (k := k) (λ e => absurd e (hne rfl hr)) h d base with ⟨rfl, e⟩ | ⟨rfl, e⟩
     . exact ⟨_, e, λ _ x => x⟩
     . exact ⟨_, e, λ _ x => x⟩
   | cons c cs =>
     rcases runS_fx (main := main) hr (k := []) (λ _ => rfl) h .nil (low k d c cs ++ base) with ⟨rfl, e⟩ | ⟨rfl, e⟩
     . simp only [fx_nil] at e
       exact ⟨_, e, λ _ x => x⟩
     . simp only [fx_nil] at e
       exact ⟨_, e, λ _ x => x⟩
 | true =>
   simp only [stepS, hr, if_true] at h ⊢
   cases ms with
   | nil => exact absurd rfl (hs hr)
   | cons c cs =>
     have hcr := hw c (List.mem_cons_self ..)
     cases cs with
     | nil =>
       obtain ⟨rfl, rfl, _, e⟩ := retS_fx (main := main) hr hcr h k d base
       exact ⟨_, e, λ _ x => x⟩
     | cons c2 cs =>
       obtain ⟨rfl, rfl, _, e⟩ := retS_fx (main := main) hr hcr h [] .nil (low k d c2 cs ++ base)
       simp only [fx_nil] at e
       exact ⟨_, e, λ _ x => x⟩
def codeNo (S : List Nat) : Code -> Bool
 | .skip | .ret | .exit _ | .label _ => true
 | .region _ ops _ => ops.all λ o => match o.dst with | some s => !S.contains s | none => true
 | .seq a b => codeNo S a && codeNo S b
 | .cond _ a b => codeNo S a && codeNo S b
 | .block _ c | .loop c | .scope c => codeNo S c
 | _ => false
def itemNo (S : List Nat) : Item -> Bool
 | .code c | .inLoop c | .inScope c => codeNo S c
 | .inBlock _ => true
 | .inRegion ops _ => ops.all λ o => match o.dst with | some s => !S.contains s | none => true
 | _ => false
def lastOf : Fm -> List Fm -> Fm
 | m, [] => m
 | _, c :: cs => lastOf c cs
structure Pins (S : List Nat) (m m' : Fm) : Prop where
 no : ∀ i ∈ m'.todo, itemNo S i = true
 at_ : ∀ s ∈ S, m'.tmps.getD s undef = m.tmps.getD s undef
theorem fin_pins {S : List Nat} {m : Fm} {ops : Array Oper} {i : Nat} {rest : List Nat} {k : List Item} (h : m.todo = .inRegion ops (i :: rest) :: k) (hn : ∀ i ∈ m.todo, itemNo S i = true) (v : Value) : Pins S m (m.fin ops i rest k v) := by
 have hx := hn (.inRegion ops (i :: rest)) (by rw [h]; exact List.mem_cons_self ..)
 refine ⟨λ j hj => ?_, λ s hs => ?_⟩
 . simp only [Fm.fin, List.mem_cons] at hj
   rcases hj with rfl | hj
   . exact hx
   . exact hn j (by rw [h]; exact List.mem_cons_of_mem _ hj)
 . unfold Fm.fin
   simp only
   cases hd : (ops[i]?).bind (·.dst) with
   | none => rfl
   | some q =>
     obtain ⟨o, ho, hq⟩ := Option.bind_eq_some_iff.1 hd
     simp only [itemNo, Array.all_eq_true_iff_forall_mem] at hx
     have h1 := hx o (Array.mem_of_getElem? ho)
     rw [hq] at h1
     simp only [Bool.not_eq_true', List.contains_eq_mem, decide_eq_false_iff_not] at h1
     have hne : q ≠ s := λ e => h1 (e ▸ hs)
     simp only [Array.getD_eq_getD_getElem?, Array.getElem?_setIfInBounds_ne hne]
theorem exitTo_no {S : List Nat} {id : Nat} {k k' : List Item} (h : exitTo id k = some k') (hn : ∀ i ∈ k, itemNo S i = true) : ∀ i ∈ k', itemNo S i = true := λ i hi => hn i (exitTo_mem h i hi)
theorem runS_pins {p : Program} {S : List Nat} {m m' : Fm} {ms ms' : List Fm} {w w' : World} (hn : ∀ i ∈ m.todo, itemNo S i = true) (h : (runS p m ms).run p w = .ok (m', ms') w') : (ms' = ms /\ Pins S m m') \/ ms' = m :: ms := by
 obtain ⟨fn, tmps, todo, ret⟩ := m
 simp only at hn
 unfold runS at h
 simp only at h
 split at h
 all_goals first
   | (simp [stuck, Sem.run] at h; done)
   | (simp only [Pure.pure, Sem.run, Result.ok.injEq, Prod.mk.injEq] at h
      obtain ⟨⟨rfl, rfl⟩, rfl⟩ := h
      refine .inl ⟨rfl, ⟨?_, λ _ _ => rfl⟩⟩
      simp only [List.mem_cons, forall_eq_or_imp, itemNo, codeNo, Bool.and_eq_true] at hn ⊢
      grind)
   | skip
 case h_8 _ c a b k0 =>
   split at h
   . simp only [Pure.pure, Sem.run, Result.ok.injEq, Prod.mk.injEq] at h
     obtain ⟨⟨rfl, rfl⟩, rfl⟩ := h
     refine .inl ⟨rfl, ⟨?_, λ _ _ => rfl⟩⟩
     simp only [List.mem_cons, forall_eq_or_imp, itemNo, codeNo, Bool.and_eq_true] at hn ⊢
     refine ⟨?_, hn.2⟩
     split
     . exact hn.1.1
     . exact hn.1.2
   . simp [stuck, Sem.run] at h
 case h_13 _ id k0 =>
   split at h
   . next k' he =>
     simp only [Pure.pure, Sem.run, Result.ok.injEq, Prod.mk.injEq] at h
     obtain ⟨⟨rfl, rfl⟩, rfl⟩ := h
     refine .inl ⟨rfl, ⟨exitTo_no he λ i hi => hn i (List.mem_cons_of_mem _ hi), λ _ _ => rfl⟩⟩
   . simp [stuck, Sem.run] at h
 case h_14 _ id ops draw k0 =>
   cases draw with
   | true =>
     simp only [if_true] at h
     have h2 := (Sem.run_bind' p (choose (.order fn id)) _ w).symm.trans h
     cases hc : (choose (.order fn id)).run p w with
     | ok t w2 =>
       rw [hc] at h2
       simp only [Result.andThen, Pure.pure, Sem.run, Result.ok.injEq, Prod.mk.injEq] at h2
       obtain ⟨⟨rfl, rfl⟩, rfl⟩ := h2
       refine .inl ⟨rfl, ⟨?_, λ _ _ => rfl⟩⟩
       simp only [List.mem_cons, forall_eq_or_imp, itemNo, codeNo] at hn ⊢
       exact hn
     | halt y w2 => rw [hc] at h2; cases h2
   | false =>
     simp only [Bool.false_eq_true, if_false, Pure.pure, Sem.run, Result.ok.injEq, Prod.mk.injEq] at h
     obtain ⟨⟨rfl, rfl⟩, rfl⟩ := h
     refine .inl ⟨rfl, ⟨?_, λ _ _ => rfl⟩⟩
     simp only [List.mem_cons, forall_eq_or_imp, itemNo, codeNo] at hn ⊢
     exact hn
 case h_16 _ ops i rest k0 =>
   have hfin := λ v => fin_pins (S := S) (m := ⟨fn, tmps, .inRegion ops (i :: rest) :: k0, ret⟩) rfl hn v
   split at h
   . split at h
     . next o ho =>
       have h2 := (Sem.run_bind' p _ _ w).symm.trans h
       cases hc : (execOp (Fm.eval { fn := fn, tmps := tmps, todo := Item.inRegion ops (i :: rest) :: k0, ret := ret }) o).run p w with
       | halt y w2 => rw [hc] at h2; cases h2
       | ok n w2 =>
         rw [hc] at h2
         simp only [Result.andThen] at h2
         cases n with
         | value v =>
           simp only [opS, Pure.pure, Sem.run, Result.ok.injEq, Prod.mk.injEq] at h2
           obtain ⟨⟨rfl, rfl⟩, rfl⟩ := h2
           exact .inl ⟨rfl, hfin v⟩
         | skip =>
           simp only [opS, Pure.pure, Sem.run, Result.ok.injEq, Prod.mk.injEq] at h2
           obtain ⟨⟨rfl, rfl⟩, rfl⟩ := h2
           exact .inl ⟨rfl, hfin undef⟩
         | enter f args =>
           simp only [opS] at h2
           split at h2
           . split at h2
             . simp only [Pure.pure, Sem.run, Result.ok.injEq, Prod.mk.injEq] at h2
               obtain ⟨⟨rfl, rfl⟩, rfl⟩ := h2
               exact .inr rfl
             . simp [stuck, Sem.run] at h2
           . simp [stuck, Sem.run] at h2
         | _ => simp [opS, stuck, Sem.run] at h2
     . simp [stuck, Sem.run] at h
   . simp only [Pure.pure, Sem.run, Result.ok.injEq, Prod.mk.injEq] at h
     obtain ⟨⟨rfl, rfl⟩, rfl⟩ := h
     exact .inl ⟨rfl, hfin undef⟩
theorem Pins.refl {S : List Nat} {m : Fm} (h : ∀ i ∈ m.todo, itemNo S i = true) : Pins S m m := ⟨h, λ _ _ => rfl⟩
theorem stepS_pins {p : Program} {S : List Nat} {m m' : Fm} {ms ms' : List Fm} {w w' : World} (hn : ∀ i ∈ (lastOf m ms).todo, itemNo S i = true) (h : (stepS p m ms).run p w = .ok (m', ms') w') : Pins S (lastOf m ms) (lastOf m' ms') := by
 cases hr : m.ret with
 | false =>
   simp only [stepS, hr, Bool.false_eq_true, if_false] at h
   cases ms with
   | nil =>
     rcases runS_pins (S := S) hn h with ⟨rfl, e⟩ | rfl
     . exact e
     . exact Pins.refl hn
   | cons c cs =>
     rcases runS_fn h with ⟨rfl, _⟩ | rfl
     . exact Pins.refl hn
     . exact Pins.refl hn
 | true =>
   simp only [stepS, hr, if_true] at h
   cases ms with
   | nil => simp [retS, stuck, Sem.run] at h
   | cons c cs =>
     obtain ⟨ops, i, r, k0, v, fn, hct, hf, hv, rfl, rfl⟩ := retS_inv h
     cases ms' with
     | nil => exact fin_pins hct hn v
     | cons d ds => exact Pins.refl hn
end Go.Mt
namespace Go.Mt
open Go.Conc Go.Tt
open Go.ConcR (KK wgBlock WgAt stA smA rd wr)
structure Cx (L : Type) where
 p : Program
 gs : FuncId -> Bool
 fs : FuncId -> Bool
 ty : TypeId
 Wg : Nat
 A : Proto L
 Fin : Goroutine -> World -> Prop
 main : Bool
 base : List Frame
 ds : Dk
 K : Pr
 St : Nat -> Prop
 I : Pr -> Terr -> World -> Prop
 pin : List (Nat × Value)
variable {L : Type}
abbrev Cx.P (C : Cx L) : Pair := PS C.p C.gs
abbrev Cx.Rel (C : Cx L) (R : Pr) (w W : World) : Prop := WRel (SF C.fs) C.K R C.p.globals.size C.St w W
abbrev Cx.B (C : Cx L) (l : L) (τ : Terr) (g : Goroutine) (w : World) : Prop := BehE C.p C.ty C.Wg C.A C.Fin C.main (.usr l) 0 τ g w
abbrev Cx.S (C : Cx L) : List Nat := C.pin.map (·.1)
structure FmW (C : Cx L) (R : Pr) (m m' : Fm) : Prop where
 fn : m.fn = m'.fn
 todo : m.todo = m'.todo
 ret : m.ret = m'.ret
 tmps : ArR (SF C.fs) C.K R m.tmps m'.tmps
 pins : ∀ x ∈ C.pin, m'.tmps.getD x.1 undef = x.2
structure Rs (St : Nat -> Prop) (R : Pr) (W : World) (R1 : Pr) (W1 : World) : Prop where
 le : R.le R1
 tape : W1.tape = W.tape
 os : W1.os = W.os
 output : W1.output = W.output
 size : W.heap.size <= W1.heap.size
 new : ∀ a b, R1 a b -> R a b \/ (W.heap.size <= b /\ b < W1.heap.size)
 keep : ∀ b, b < W.heap.size -> (∀ a, R a b -> St a) -> W1.heap[b]? = W.heap[b]?
structure IOk (C : Cx L) : Prop where
 suf : ∀ R τ W W₁, C.I R τ W -> Suf C.ty C.Wg τ W W₁ -> C.I R τ W₁
 step : ∀ R τ W R1 W1, C.I R τ W -> Terra τ R C.St -> Rs C.St R W R1 W1 -> C.I R1 (τ.grow W W1) W1
 wg : ∀ R τ W, C.I R τ W -> ¬ τ.own C.Wg /\ C.Wg < W.heap.size
def BO (C : Cx L) (l : L) (m : Fm) (w : World) : Prop :=
 ∀ (R : Pr) (W : World) (m' : Fm) (τ : Terr), C.Rel R w W -> FmW C R m m' -> Terra τ R C.St -> C.I R τ W -> C.B l τ (G (fx [] C.ds m') C.base) W
section
variable {C : Cx L} {l : L}
theorem BO.tape {m : Fm} {w : World} (h : BO C l m w) (T : Tape) (e : Nat) : BO C l m (Tt.tp w T e) :=
 λ R W m' τ a b c d => h R W m' τ a.untp b c d
theorem BO.untape {m : Fm} {w : World} {T : Tape} {e : Nat} (h : BO C l m (Tt.tp w T e)) : BO C l m w :=
 λ R W m' τ a b c d => h R W m' τ ⟨a.inj, a.inj', a.lt, a.low, a.gle, a.cont, a.rest, a.st, a.np⟩ b c d
theorem MsR.wait {P : Pair} {fs : FuncId -> Bool} {K R : Pr} {ms ms' : List Fm} (h : MsR P fs K R ms ms') : ∀ c ∈ ms', c.ret = false := by
 induction h with
 | nil => intro c hc; cases hc
 | cons a b _ ih =>
   intro c hc
   rcases List.mem_cons.1 hc with rfl | hc
   . exact a.ret.symm.trans b.1
   . exact ih c hc
theorem tree_beh (F : Fit3 C.P C.fs) (hI : IOk C) {k : List Item} {Q : Fm -> World -> Prop} {fn0 : FuncId} {m : Fm} {ms : List Fm} {w : World} (h : Tt.LT C.p Q m ms w)
   (hn : ∀ (x : Fm) (wT : World), x.fn = fn0 -> x.ret = false -> x.todo = [] -> (∀ T, Q { x with ret := true } (Tt.tp wT T 0)) -> BO C l ⟨fn0, x.tmps, k, false⟩ wT)
   (hr : ∀ (x : Fm) (wT : World), x.fn = fn0 -> x.ret = true -> x.todo ≠ [] -> Q x wT -> BO C l ⟨fn0, x.tmps, x.todo ++ k, true⟩ wT) :
   ∀ (R : Pr) (W : World) (m' : Fm) (ms' : List Fm) (τ : Terr), lastFn m ms = fn0 -> (ms = [] -> m.ret = true -> m.todo ≠ []) -> C.Rel R w W -> FmR C.P C.fs C.K R m m' -> MsR C.P C.fs C.K R ms ms' -> Terra τ R C.St -> C.I R τ W ->
     (∀ x ∈ C.pin, (lastOf m' ms').tmps.getD x.1 undef = x.2) -> (∀ i ∈ (lastOf m' ms').todo, itemNo C.S i = true) -> C.B l τ (stk k C.ds C.base m' ms') W := by
 induction h with
 | stop h1 h2 =>
   rename_i m w
   intro R W m' ms' τ hl hz hw hm hms ht hi hpin hno
   cases hms
   have hB := hr m w hl h1 (hz rfl h1) h2 R W { m' with todo := m'.todo ++ k } τ hw ⟨(hl.symm.trans hm.fn : _), by show m.todo ++ k = _; rw [hm.todo], h1.symm.trans hm.ret, hm.tmps, hpin⟩ ht hi
   have : fx [] C.ds { m' with todo := m'.todo ++ k } = fx k C.ds m' := by unfold fx; simp [Fm.fr]
   rw [this] at hB
   exact hB
 | step nx hs hrun hlt ih =>
   rename_i m ms w
   intro R W m' ms' τ hl hz hw hm hms ht hi hpin hno
   by_cases hend : ms = [] /\ m.ret = false /\ m.todo = []
   . obtain ⟨rfl, h1, h2⟩ := hend
     cases hms
     have hQ : ∀ T, Q { m with ret := true } (Tt.tp w T 0) := λ T => by
       have hT := hrun T
       have e : (stepS C.p m []).run C.p (Tt.tp w T 0) = .ok ({ m with ret := true }, []) (Tt.tp w T 0) := by simp [stepS, h1, runS, h2, Pure.pure, Sem.run]
       rw [e] at hT
       injection hT with e1 e2
       have hl := hlt T
       rw [<- e1, <- e2] at hl
       exact hl.ret_inv rfl
     have hB := hn m w hl h1 h2 hQ R W { m' with todo := m'.todo ++ k } τ hw ⟨(hl.symm.trans hm.fn : _), by show k = m'.todo ++ k; rw [<- hm.todo, h2]; rfl, h1.symm.trans hm.ret, hm.tmps, hpin⟩ ht hi
     have : fx [] C.ds { m' with todo := m'.todo ++ k } = fx k C.ds m' := by unfold fx; simp [Fm.fr]
     rw [this] at hB
     exact hB
   . refine BehE.own (stk_status ..) trivial λ W₁ s => ?_
     have hw₁ := hw.suf ht (λ a b x => (hw.lt a b (.inr x)).2) s
     have hi₁ := hI.suf _ _ _ _ hi s
     let T : Tape := λ n q => W₁.tape (W₁.drawn + n) q
     have hw₂ : C.Rel R (Tt.tp w T 0) W₁ := ⟨hw₁.inj, hw₁.inj', hw₁.lt, hw₁.low, hw₁.gle, hw₁.cont, hw₁.rest, hw₁.st, hw₁.np⟩
     have htp : Tp (Tt.tp w T 0) W₁ := λ n q => by show W₁.tape (W₁.drawn + (0 + n)) q = _; rw [Nat.zero_add]
     have hrel : RelS C.P C.fs C.K C.p.globals.size C.St m ms (Tt.tp w T 0) := ⟨R, W₁, m', ms', hw₂, hm, hms⟩
     obtain ⟨R1, x', W1, ev, e1, e2, e3, e4, e5⟩ := Sim.run rfl _ (sim_stepS (l := false) F.toFit2 (hw₂.relOk rfl) hm hms (λ e => by cases e) hs) hw₂ htp (hrun T)
     replace e2 := e2.resolve_right λ x => by
       obtain ⟨f, _, _, _, _, _, _, ho, _⟩ := x.2
       rw [F.none] at ho; cases ho
     obtain ⟨m1', ms1'⟩ := x'
     have hs' : m'.ret = true -> ms' ≠ [] := λ e e2 => hs (hm.ret.trans e) (by cases hms with | nil => rfl | cons _ _ _ => cases e2)
     have hne' : ms' = [] -> m'.ret = false -> m'.todo ≠ [] := λ a b c => hend ⟨(by cases hms with | nil => rfl | cons _ _ _ => cases a), hm.ret.trans b, hm.todo.trans c⟩
     obtain ⟨es, hst, hes⟩ := stk_step (main := C.main) (k := k) (d := C.ds) (base := C.base) hs' hne' (MsR.wait hms) e1
     have hpn := stepS_pins (S := C.S) hno e1
     have hev : (stepS C.p m' ms').events C.p W₁ #[] = ev := by rw [e4]; simp
     have hsub : ∀ e ∈ es, EvOk R1 C.St e := λ e he => by
       have := hes e he
       rw [hev] at this
       exact e5 e (mem_seen this)
     have hsz : W₁.heap.size <= W1.heap.size := e3.size.2
     have hnew : ∀ a b, R1 a b -> R a b \/ (W₁.heap.size <= b /\ b < W1.heap.size) := λ a b x => by
       rcases e3.new a b x with y | ⟨_, y⟩
       . exact .inl y
       . exact .inr ⟨y, (e3.rel.ltR a b x).2⟩
     have ht1 : Terra (τ.grow W₁ W1) R1 C.St := λ a b x => by
       rcases e3.new a b x with y | ⟨y1, y2⟩
       . exact ⟨(ht a b y).1, λ z => .inl ((ht a b y).2 z)⟩
       . refine ⟨λ z => ?_, λ _ => .inr ⟨y2, (e3.rel.ltR a b x).2⟩⟩
         obtain ⟨⟨b', hb'⟩, _⟩ := hw₂.st a z
         have := (hw₂.ltR a b' hb').1
         omega
     have hg : Gua τ.own W₁ W1 := ⟨e3.tape.2, e3.os.2, e3.out.2, hsz, λ b hb hno => e3.keep b hb λ a x => Classical.byContradiction λ z => hno ((ht a b x).2 z)⟩
     have hi1 := hI.step R τ W₁ R1 W1 hi₁ ht ⟨e3.le, e3.tape.2, e3.os.2, e3.out.2, hsz, hnew, e3.keep⟩
     refine ⟨_, W1, _, hst, stk_status .., hg, λ e he => evT_of_evOk (hsub e he) ht1, ?_⟩
     rw [deafBehind_still (λ e he => evOk_quiet (hsub e he))]
     have hlf : lastFn (nx T).1.1 (nx T).1.2 = fn0 := (stepS_lastFn (m1 := (nx T).1.1) (ms1 := (nx T).1.2) (hrun T)).trans hl
     refine ih T R1 W1 m1' ms1' (τ.grow W₁ W1) hlf (λ a b c => ?_) e3.rel e2.1 e2.2.1 ht1 hi1 (λ x hx => (hpn.at_ x.1 (List.mem_map_of_mem hx)).trans (hpin x hx)) hpn.no
     have hT := hrun T
     cases ms with
     | nil =>
       cases hr1 : m.ret with
       | true => exact hs hr1 rfl
       | false =>
         simp only [stepS, hr1, Bool.false_eq_true, if_false] at hT
         exact runS_ret hT b hr1 (λ e => hend ⟨rfl, hr1, e⟩) c
     | cons c0 cs =>
       cases hr1 : m.ret with
       | true =>
         simp only [stepS, hr1, if_true] at hT
         obtain ⟨ops, i, r, k0, v, fn, hc, hf, hv, h1, h2⟩ := retS_inv (m1 := (nx T).1.1) (ms1 := (nx T).1.2) hT
         rw [h1] at c
         simp [Fm.fin] at c
       | false =>
         simp only [stepS, hr1, Bool.false_eq_true, if_false] at hT
         rcases runS_fn hT with ⟨e, _⟩ | e
         . rw [a] at e; cases e
         . rw [a] at e; cases e
end
end Go.Mt
namespace Go.Mt
open Go.Conc Go.Tt
open Go.ConcR (KK wgBlock WgAt stA smA rd wr)
section
variable {L : Type} {C : Cx L} {l : L}
theorem fx_at (d : Dk) (fn : FuncId) (tmps : Array Value) (todo : List Item) : fx [] d ⟨fn, tmps, todo, false⟩ = (d.base fn).at ⟨tmps, d.ds⟩ todo := by
 unfold fx; simp [Fm.fr, Dk.base, Frame.at]
theorem fx_ret (d : Dk) (fn : FuncId) (tmps : Array Value) (todo : List Item) : fx [] d ⟨fn, tmps, todo, true⟩ = { (d.base fn).at ⟨tmps, d.ds⟩ todo with mode := .returning } := by
 unfold fx; simp [Fm.fr, Dk.base, Frame.at]
theorem Terr.grow_id (τ : Terr) (w : World) : τ.grow w w = τ := by
 obtain ⟨a, b, c⟩ := τ
 simp only [Terr.grow, Terr.mk.injEq, and_true]
 funext x
 exact propext ⟨λ h => h.elim id λ h => by omega, .inl⟩
theorem Gua.id (O : Nat -> Prop) (w : World) : Gua O w w := ⟨rfl, rfl, rfl, Nat.le_refl _, λ _ _ _ => rfl⟩
theorem Cx.Rel.suf {R : Pr} {w W W₁ : World} {τ : Terr} (hw : C.Rel R w W) (ht : Terra τ R C.St) (s : Suf C.ty C.Wg τ W W₁) : C.Rel R w W₁ := WRel.suf hw ht (λ a b x => (hw.lt a b (.inr x)).2) s
theorem beh_silent {main : Bool} {τ : Terr} {g g' : Goroutine} {W : World} {p : Program} {ty : TypeId} {Wg : Nat} {A : Proto L} {Fin : Goroutine -> World -> Prop} (hg : g.status = .running) (hg' : g'.status = .running) (hst : ∀ W₁, Suf ty Wg τ W W₁ -> stepG p main g W₁ = .go g' W₁ #[])
   (h : ∀ W₁, Suf ty Wg τ W W₁ -> BehE p ty Wg A Fin main (.usr l) 0 τ g' W₁) : BehE p ty Wg A Fin main (.usr l) 0 τ g W := by
 refine BehE.own hg trivial λ W₁ s => ⟨g', W₁, #[], hst W₁ s, hg', Gua.id _ _, λ e he => by simp at he, ?_⟩
 rw [Terr.grow_id]
 exact h W₁ s
theorem BO.silent (hI : IOk C) {fn : FuncId} {tmps : Array Value} {todo todo1 : List Item} {ret1 : Bool} {w : World} (hst : ∀ R tmps' W, ArR (SF C.fs) C.K R tmps tmps' -> stepG C.p C.main (G ((C.ds.base fn).at ⟨tmps', C.ds.ds⟩ todo) C.base) W = .go (G (fx [] C.ds ⟨fn, tmps', todo1, ret1⟩) C.base) W #[])
   (h : BO C l ⟨fn, tmps, todo1, ret1⟩ w) : BO C l ⟨fn, tmps, todo, false⟩ w := by
 intro R W m' τ hw hm ht hi
 obtain ⟨fn', tmps', todo', ret'⟩ := m'
 obtain rfl := hm.fn
 obtain rfl := hm.todo
 obtain rfl := hm.ret
 refine beh_silent rfl rfl (λ W₁ s => by rw [fx_at]; exact hst R tmps' W₁ hm.tmps) λ W₁ s => ?_
 exact h R W₁ ⟨fn, tmps', todo1, ret1⟩ τ (hw.suf ht s) ⟨rfl, rfl, rfl, hm.tmps, hm.pins⟩ ht (hI.suf _ _ _ _ hi s)
section ctl
variable {fn : FuncId} {tmps : Array Value} {k : List Item} {w : World}
theorem BO.seq (hI : IOk C) {a b : Code} (h : BO C l ⟨fn, tmps, .code a :: .code b :: k, false⟩ w) : BO C l ⟨fn, tmps, .code (.seq a b) :: k, false⟩ w := BO.silent hI (λ R t W _ => by rw [fx_at]; exact stepG_seq) h
theorem BO.skip (hI : IOk C) (h : BO C l ⟨fn, tmps, k, false⟩ w) : BO C l ⟨fn, tmps, .code .skip :: k, false⟩ w := BO.silent hI (λ R t W _ => by rw [fx_at]; exact stepG_skip) h
theorem BO.block (hI : IOk C) {id : Nat} {c : Code} (h : BO C l ⟨fn, tmps, .code c :: .inBlock id :: k, false⟩ w) : BO C l ⟨fn, tmps, .code (.block id c) :: k, false⟩ w := BO.silent hI (λ R t W _ => by rw [fx_at]; exact stepG_block) h
theorem BO.loop (hI : IOk C) {c : Code} (h : BO C l ⟨fn, tmps, .code c :: .inLoop c :: k, false⟩ w) : BO C l ⟨fn, tmps, .code (.loop c) :: k, false⟩ w := BO.silent hI (λ R t W _ => by rw [fx_at]; exact stepG_loop) h
theorem BO.inLoop (hI : IOk C) {c : Code} (h : BO C l ⟨fn, tmps, .code c :: .inLoop c :: k, false⟩ w) : BO C l ⟨fn, tmps, .inLoop c :: k, false⟩ w := BO.silent hI (λ R t W _ => by rw [fx_at]; exact stepG_inLoop) h
theorem BO.inBlock (hI : IOk C) {id : Nat} (h : BO C l ⟨fn, tmps, k, false⟩ w) : BO C l ⟨fn, tmps, .inBlock id :: k, false⟩ w := BO.silent hI (λ R t W _ => by rw [fx_at]; exact stepG_inBlock) h
theorem BO.exit (hI : IOk C) {id : Nat} {k' : List Item} (he : exitTo id k = some k') (h : BO C l ⟨fn, tmps, k', false⟩ w) : BO C l ⟨fn, tmps, .code (.exit id) :: k, false⟩ w := BO.silent hI (λ R t W _ => by rw [fx_at]; exact stepG_exit he) h
theorem BO.reg (hI : IOk C) {id : Nat} {ops : Array Oper} (h : BO C l ⟨fn, tmps, .inRegion ops (List.range ops.size) :: k, false⟩ w) : BO C l ⟨fn, tmps, .code (.region id ops false) :: k, false⟩ w := BO.silent hI (λ R t W _ => by rw [fx_at]; exact stepG_region) h
theorem BO.regEnd (hI : IOk C) {ops : Array Oper} (h : BO C l ⟨fn, tmps, k, false⟩ w) : BO C l ⟨fn, tmps, .inRegion ops [] :: k, false⟩ w := BO.silent hI (λ R t W _ => by rw [fx_at]; exact stepG_region_end) h
theorem BO.fall (hI : IOk C) (h : BO C l ⟨fn, tmps, [], true⟩ w) : BO C l ⟨fn, tmps, [], false⟩ w := BO.silent hI (λ R t W _ => by rw [fx_ret]; exact stepG_end) h
theorem eval_rel {R : Pr} {t t' : Array Value} {d : List Deferred} (h : ArR (SF C.fs) C.K R t t') {x : Operand} (hx : okX C.fs x = true) : VR (SF C.fs) C.K R ((Go.Act.mk t []).eval x) ((Go.Act.mk t' d).eval x) := by
 cases x with
 | tmp t => exact h.getD t vr_undef
 | const v => exact okConst_ok hx
 | global g => cases hx
 | func f => exact .func hx rfl (λ i v v' h => by simp at h) rfl (λ i v v' h => by simp at h)
theorem BO.cond (hI : IOk C) {c : Operand} {a b : Code} {t : Bool} (hx : okX C.fs c = true) (hc : (Go.Act.mk tmps []).eval c = .bool t) (h : BO C l ⟨fn, tmps, .code (if t then a else b) :: k, false⟩ w) : BO C l ⟨fn, tmps, .code (.cond c a b) :: k, false⟩ w :=
 BO.silent hI (λ R t' W ha => by
   rw [fx_at]
   have h1 := eval_rel (C := C) (d := C.ds.ds) ha hx
   rw [hc] at h1
   have h2 : (Go.Act.mk t' C.ds.ds).eval c = .bool t := by
     generalize (Go.Act.mk t' C.ds.ds).eval c = v' at h1
     cases h1; rfl
   exact stepG_cond h2) h
end ctl
structure FnOk (p : Program) (fn : FuncId) : Prop where
 res : ∃ f, p.funcs[fn]? = some f /\ plainRes f.results.toList
theorem fmr_piece {R : Pr} {fn : FuncId} {tmps tmps' : Array Value} {c : Code} (hc : fitCode C.p ⟨C.fs, C.gs, false⟩ c = true) (hf : FnOk C.p fn) (ha : ArR (SF C.fs) C.K R tmps tmps') : FmR C.P C.fs C.K R ⟨fn, tmps, [.code c], false⟩ ⟨fn, tmps', [.code c], false⟩ := by
 obtain ⟨f, h1, h2⟩ := hf.res
 refine ⟨rfl, rfl, rfl, ha, λ i hi => ?_, ⟨f, f, h1, h1, rfl, h2⟩⟩
 simp only [List.mem_cons, List.not_mem_nil, or_false] at hi
 subst hi
 exact hc
theorem BO.piece (F : Fit3 C.P C.fs) (hI : IOk C) {fn : FuncId} {tmps : Array Value} {c : Code} {k : List Item} {w : World} (hc : fitCode C.p ⟨C.fs, C.gs, false⟩ c = true) (hf : FnOk C.p fn) (hno : codeNo C.S c = true)
   (hwp : ∀ T, Code.wp C.p c (λ e a' w' => e = .normal /\ BO C l ⟨fn, a'.tmps, k, false⟩ w') ⟨tmps, []⟩ (Tt.tp w T 0)) : BO C l ⟨fn, tmps, .code c :: k, false⟩ w := by
 intro R W m' τ hw hm ht hi
 obtain ⟨fn', tmps', todo', ret'⟩ := m'
 obtain rfl := hm.fn
 obtain rfl := hm.todo
 obtain rfl := hm.ret
 have hfm := fmr_piece (R := R) hc hf hm.tmps
 have hrel : RelS C.P C.fs C.K C.p.globals.size C.St ⟨fn, tmps, [.code c], false⟩ [] w := ⟨R, W, _, [], hw, hfm, .nil⟩
 have tree := piece_tree F rfl hrel hwp (λ e a w h => .inl h.1) (λ e a w T k h => ⟨h.1, h.2.tape T k⟩)
 have := tree_beh (l := l) F hI (k := k) (fn0 := fn) tree (λ x wT e1 e2 e3 hq => by
     rcases (hq wT.tape).2 with h | h
     . exact BO.untape h.2.2
     . cases h.1)
   (λ x wT e1 e2 e3 hq => by
     rcases hq.2 with h | h
     . exact absurd h.1 e3
     . cases h.1) R W ⟨fn, tmps', [.code c], false⟩ [] τ rfl (λ _ e => by cases e) hw hfm .nil ht hi hm.pins (λ i hi => by
     simp only [lastOf, List.mem_cons, List.not_mem_nil, or_false] at hi
     subst hi; exact hno)
 have e : fx k C.ds ⟨fn, tmps', [.code c], false⟩ = fx [] C.ds ⟨fn, tmps', .code c :: k, false⟩ := by unfold fx; simp [Fm.fr]
 unfold stk at this
 rw [e] at this
 exact this
theorem put_pins {tmps' : Array Value} {dst : Option Nat} {v : Value} {d : List Deferred} (hp : ∀ x ∈ C.pin, tmps'.getD x.1 undef = x.2) (hn : ∀ s, dst = some s -> s ∉ C.S) : ∀ x ∈ C.pin, (Go.Act.put ⟨tmps', d⟩ dst v).tmps.getD x.1 undef = x.2 := by
 intro x hx
 cases dst with
 | none => exact hp x hx
 | some s =>
   have hne : s ≠ x.1 := λ e => hn s rfl (e ▸ List.mem_map_of_mem hx)
   rw [<- hp x hx]
   simp only [Go.Act.put, Array.getD_eq_getD_getElem?, Array.getElem?_setIfInBounds_ne hne]
theorem put_rel {R : Pr} {t t' : Array Value} {d d' : List Deferred} (h : ArR (SF C.fs) C.K R t t') {dst : Option Nat} {v v' : Value} (hv : VR (SF C.fs) C.K R v v') : ArR (SF C.fs) C.K R (Go.Act.put ⟨t, d⟩ dst v).tmps (Go.Act.put ⟨t', d'⟩ dst v').tmps := by
 cases dst with
 | none => exact h
 | some s => exact h.set s hv
theorem wanted_rel {R : Pr} {t t' : Array Value} {o : Oper} {ops : Array Oper} (h : ArR (SF C.fs) C.K R t t') (hw : Region.wanted o (yielded ops t) = true) : Region.wanted o (yielded ops t') = true := by
 rw [<- yielded_rel ops h]; exact hw
theorem BO.op (F : Fit3 C.P C.fs) (hI : IOk C) {fn : FuncId} {tmps : Array Value} {ops : Array Oper} {i : Nat} {rest : List Nat} {k : List Item} {w : World} {o : Oper} (ho : ops[i]? = some o) (hwt : Region.wanted o (yielded ops tmps) = true)
   (hok : okOp C.p ⟨C.fs, C.gs, false⟩ o.op = true) (hnd : ∀ s, o.dst = some s -> s ∉ C.S)
   (hx : ∀ T, ∃ v w', ((execOp (Go.Act.mk tmps []).eval o).run C.p (Tt.tp w T 0) = .ok (.value v) w' \/ ((execOp (Go.Act.mk tmps []).eval o).run C.p (Tt.tp w T 0) = .ok .skip w' /\ v = undef)) /\ BO C l ⟨fn, (Go.Act.put ⟨tmps, []⟩ o.dst v).tmps, .inRegion ops rest :: k, false⟩ w') :
   BO C l ⟨fn, tmps, .inRegion ops (i :: rest) :: k, false⟩ w := by
 intro R W m' τ hw hm ht hi
 obtain ⟨fn', tmps', todo', ret'⟩ := m'
 obtain rfl := hm.fn
 obtain rfl := hm.todo
 obtain rfl := hm.ret
 rw [fx_at]
 refine BehE.own rfl trivial λ W₁ s => ?_
 have hw₁ := hw.suf ht s
 have hi₁ := hI.suf _ _ _ _ hi s
 let T : Tape := λ n q => W₁.tape (W₁.drawn + n) q
 have hw₂ : C.Rel R (Tt.tp w T 0) W₁ := ⟨hw₁.inj, hw₁.inj', hw₁.lt, hw₁.low, hw₁.gle, hw₁.cont, hw₁.rest, hw₁.st, hw₁.np⟩
 have htp : Tp (Tt.tp w T 0) W₁ := λ n q => by show W₁.tape (W₁.drawn + (0 + n)) q = _; rw [Nat.zero_add]
 obtain ⟨v, w', hrun, hB⟩ := hx T
 have hsim := sim_execOp (P := C.P) (q := ⟨C.fs, C.gs, false⟩) (o := o) (ρ := (Go.Act.mk tmps []).eval) (ρ' := (Go.Act.mk tmps' C.ds.ds).eval) F.toFit2.toFit (hw₂.relOk rfl) (λ x hx => eval_rel hm.tmps hx) (λ g => rfl) (λ g => rfl) rfl (λ f h => h) (λ e => by cases e) hok
 have key : ∃ R1 v' W1 ev, ((execOp (Go.Act.mk tmps' C.ds.ds).eval o).run C.p W₁ = .ok (.value v') W1 \/ ((execOp (Go.Act.mk tmps' C.ds.ds).eval o).run C.p W₁ = .ok .skip W1 /\ v' = undef)) /\ VR (SF C.fs) C.K R1 v v' /\ WStep (SF C.fs) C.K R C.p.globals.size C.St (Tt.tp w T 0) W₁ R1 w' W1 /\
     (∀ es, (execOp (Go.Act.mk tmps' C.ds.ds).eval o).events C.p W₁ es = es ++ ev) /\ ∀ e ∈ ev, EvOk R1 C.St e := by
   rcases hrun with hrun | ⟨hrun, rfl⟩
   . obtain ⟨R1, x', W1, ev, e1, e2, e3, e4, e5⟩ := Sim.run rfl _ hsim hw₂ htp hrun
     cases e2 with
     | value hv => exact ⟨R1, _, W1, ev, .inl e1, hv, e3, e4, e5⟩
   . obtain ⟨R1, x', W1, ev, e1, e2, e3, e4, e5⟩ := Sim.run rfl _ hsim hw₂ htp hrun
     cases e2 with
     | skip => exact ⟨R1, undef, W1, ev, .inr ⟨e1, rfl⟩, vr_undef, e3, e4, e5⟩
 obtain ⟨R1, v', W1, ev, e1, hv, e3, e4, e5⟩ := key
 have hb : (C.ds.base fn).kind ≠ .early := C.ds.ok
 have hwt' := wanted_rel (C := C) hm.tmps hwt
 have hst : stepG C.p C.main (G ((C.ds.base fn).at ⟨tmps', C.ds.ds⟩ (.inRegion ops (i :: rest) :: k)) C.base) W₁ = .go (G ((C.ds.base fn).at (Go.Act.put ⟨tmps', C.ds.ds⟩ o.dst v') (.inRegion ops rest :: k)) C.base) W1 (listed C.p (C.ds.base fn).fn ⟨tmps', C.ds.ds⟩ o W₁) := by
   rcases e1 with e1 | ⟨e1, rfl⟩
   . exact stepG_value ho hwt' hb e1
   . exact stepG_none ho hwt' hb e1
 have hput : Go.Act.put ⟨tmps', C.ds.ds⟩ o.dst v' = ⟨(Go.Act.put ⟨tmps', C.ds.ds⟩ o.dst v').tmps, C.ds.ds⟩ := by cases o.dst <;> rfl
 have hsub : ∀ e ∈ listed C.p (C.ds.base fn).fn ⟨tmps', C.ds.ds⟩ o W₁, EvOk R1 C.St e := λ e he => by
   unfold listed at he
   rw [e4] at he
   exact e5 e (by simpa using mem_seen he)
 have hsz : W₁.heap.size <= W1.heap.size := e3.size.2
 have hnew : ∀ a b, R1 a b -> R a b \/ (W₁.heap.size <= b /\ b < W1.heap.size) := λ a b x => by
   rcases e3.new a b x with y | ⟨_, y⟩
   . exact .inl y
   . exact .inr ⟨y, (e3.rel.ltR a b x).2⟩
 have ht1 : Terra (τ.grow W₁ W1) R1 C.St := λ a b x => by
   rcases e3.new a b x with y | ⟨y1, y2⟩
   . exact ⟨(ht a b y).1, λ z => .inl ((ht a b y).2 z)⟩
   . refine ⟨λ z => ?_, λ _ => .inr ⟨y2, (e3.rel.ltR a b x).2⟩⟩
     obtain ⟨⟨b', hb'⟩, _⟩ := hw₂.st a z
     have := (hw₂.ltR a b' hb').1
     omega
 have hg : Gua τ.own W₁ W1 := ⟨e3.tape.2, e3.os.2, e3.out.2, hsz, λ b hb hno => e3.keep b hb λ a x => Classical.byContradiction λ z => hno ((ht a b x).2 z)⟩
 have hi1 := hI.step R τ W₁ R1 W1 hi₁ ht ⟨e3.le, e3.tape.2, e3.os.2, e3.out.2, hsz, hnew, e3.keep⟩
 refine ⟨_, W1, _, hst, rfl, hg, λ e he => evT_of_evOk (hsub e he) ht1, ?_⟩
 rw [deafBehind_still (λ e he => evOk_quiet (hsub e he)), hput, <- fx_at]
 exact hB R1 W1 ⟨fn, _, _, false⟩ _ e3.rel ⟨rfl, rfl, rfl, put_rel (C := C) (hm.tmps.mono e3.le) hv, put_pins (C := C) hm.pins hnd⟩ ht1 hi1
end
end Go.Mt
namespace Go.Mt
open Go.Conc Go.Tt
open Go.ConcR (KK wgBlock WgAt stA smA rd wr)
section
variable {L : Type} {C : Cx L} {l : L}
theorem codeNo_fit {p : Program} {q : Tt.Cl} : ∀ c : Code, fitCode p q c = true -> codeNo [] c = true := by
 intro c
 induction c with
 | region id ops dr =>
   intro _
   simp only [codeNo, Array.all_eq_true_iff_forall_mem]
   intro o _
   cases o.dst <;> rfl
 | seq a b iha ihb => intro h; simp only [fitCode, Bool.and_eq_true] at h; simp only [codeNo, Bool.and_eq_true]; exact ⟨iha h.1, ihb h.2⟩
 | cond c a b iha ihb => intro h; simp only [fitCode, Bool.and_eq_true] at h; simp only [codeNo, Bool.and_eq_true]; exact ⟨iha h.1.2, ihb h.2⟩
 | block id c ih => intro h; exact ih h
 | loop c ih => intro h; exact ih h
 | scope c ih => intro h; exact ih h
 | skip => intro _; rfl
 | ret => intro _; rfl
 | exit _ => intro _; rfl
 | label _ => intro _; rfl
 | _ => intro h; simp [fitCode] at h
def Cx.sub (C : Cx L) (m' : Fm) (R₀ : Pr) : Cx L := { C with base := fx [] C.ds m' :: C.base, ds := .nil, I := λ R τ W => C.I R τ W /\ R₀.le R, pin := [] }
theorem IOk.sub (hI : IOk C) (m' : Fm) (R₀ : Pr) : IOk (C.sub m' R₀) :=
 ⟨λ R τ W W₁ h s => ⟨hI.suf R τ W W₁ h.1 s, h.2⟩, λ R τ W R1 W1 h ht hs => ⟨hI.step R τ W R1 W1 h.1 ht hs, h.2.trans hs.le⟩, λ R τ W h => hI.wg R τ W h.1⟩
theorem exec_callv {p : Program} {o : Oper} {x : Operand} {f : FuncId} {args : Array Operand} {ats : Array TypeId} {first cap : Array Value} (hop : o.op = .call ⟨.value x, args, ats⟩) {ρ : Operand -> Value} (hρ : ρ x = .func (.func f) first cap) {fn : Func} {c : Code} (hf : p.funcs[f]? = some fn)
   (hn : (fn.name == "runtime.NumGoroutine") = false) (hb : fn.body = some c) (w : World) : (execOp ρ o).run p w = .ok (.enter f (first ++ args.map ρ ++ cap)) w /\ (execOp ρ o).events p w #[] = #[] := by
 obtain ⟨dst, op', type, pos, after, guard⟩ := o
 simp only at hop
 subst hop
 have hn' : ¬ fn.name = "runtime.NumGoroutine" := by simpa using hn
 constructor
 . simp [execOp, resolve, Deferred.ofValue, hρ, invoke, callFunc, program, bind, Sem.bind, pure, Sem.run, hf, hn', hb]
 . simp [execOp, resolve, Deferred.ofValue, hρ, invoke, callFunc, program, bind, Sem.bind, pure, Sem.run, Sem.events, Sem.runT, hf, hn', hb]
structure Callee (C : Cx L) (tmps : Array Value) (x : Operand) (f : FuncId) (first cap : Array Value) : Prop where
 here : (Go.Act.mk tmps []).eval x = .func (.func f) first cap
 there : ∀ R tmps' d, ArR (SF C.fs) C.K R tmps tmps' -> ∃ first' cap', (Go.Act.mk tmps' d).eval x = .func (.func f) first' cap' /\ ArR (SF C.fs) C.K R first first' /\ ArR (SF C.fs) C.K R cap cap'
theorem Callee.dyn {tmps : Array Value} {x : Operand} {f : FuncId} {first cap : Array Value} (hx : okX C.fs x = true) (h : (Go.Act.mk tmps []).eval x = .func (.func f) first cap) : Callee C tmps x f first cap := by
 refine ⟨h, λ R tmps' d ha => ?_⟩
 have h1 := eval_rel (C := C) (d := d) ha hx
 rw [h] at h1
 generalize (Go.Act.mk tmps' d).eval x = v' at h1
 cases h1 with
 | func s e1 h1 e2 h2 => exact ⟨_, _, rfl, ⟨e1, h1⟩, ⟨e2, h2⟩⟩
theorem BO.callN (hI : IOk C) {fn : FuncId} {tmps : Array Value} {ops : Array Oper} {i : Nat} {rest : List Nat} {k : List Item} {w : World} {o : Oper} {x : Operand} {f : FuncId} {first cap : Array Value} {args : Array Operand} {ats : Array TypeId} (ho : ops[i]? = some o) (hwt : Region.wanted o (yielded ops tmps) = true)
   (hop : o.op = .call ⟨.value x, args, ats⟩) (hx : Callee C tmps x f first cap) (hargs : args.all (okX C.fs) = true) {fnf : Func} {cf : Code} (hf : C.p.funcs[f]? = some fnf) (hnm : (fnf.name == "runtime.NumGoroutine") = false) (hb : fnf.body = some cf) (hres : plainRes fnf.results.toList)
   (hB : ∀ (R₀ : Pr) (m' : Fm), FmW C R₀ ⟨fn, tmps, .inRegion ops (i :: rest) :: k, false⟩ m' -> BO (C.sub m' R₀) l ⟨f, (first ++ args.map (Go.Act.mk tmps []).eval ++ cap) ++ Array.replicate (fnf.ntmps - (first ++ args.map (Go.Act.mk tmps []).eval ++ cap).size) undef, [.code cf], false⟩ w) :
   BO C l ⟨fn, tmps, .inRegion ops (i :: rest) :: k, false⟩ w := by
 intro R W m' τ hw hm ht hi
 have hm0 := hm
 obtain ⟨fn', tmps', todo', ret'⟩ := m'
 obtain rfl := hm.fn
 obtain rfl := hm.todo
 obtain rfl := hm.ret
 obtain ⟨first', cap', hx', hfi, hca⟩ := hx.there R tmps' C.ds.ds hm.tmps
 have hb' : (C.ds.base fn).kind ≠ .early := C.ds.ok
 have hwt' := wanted_rel (C := C) hm.tmps hwt
 rw [fx_at]
 refine beh_silent rfl rfl (g' := G (Frame.enter C.p f (first' ++ args.map (Go.Act.mk tmps' C.ds.ds).eval ++ cap') .normal) (fx [] C.ds ⟨fn, tmps', .inRegion ops (i :: rest) :: k, false⟩ :: C.base)) (λ W₁ s => ?_) λ W₁ s => ?_
 rotate_right
 . have hxs : ArR (SF C.fs) C.K R (first ++ args.map (Go.Act.mk tmps []).eval ++ cap) (first' ++ args.map (Go.Act.mk tmps' C.ds.ds).eval ++ cap') := (hfi.append (ArR.maps (λ x hx => eval_rel (C := C) hm.tmps hx) hargs)).append hca
   have := hB R _ hm0 R W₁ ⟨f, (first' ++ args.map (Go.Act.mk tmps' C.ds.ds).eval ++ cap') ++ Array.replicate (fnf.ntmps - (first' ++ args.map (Go.Act.mk tmps' C.ds.ds).eval ++ cap').size) undef, [.code cf], false⟩ τ (hw.suf ht s) ⟨rfl, rfl, rfl, hxs.pad fnf.ntmps, λ x hx => by cases hx⟩ ht ⟨hI.suf _ _ _ _ hi s, .refl R⟩
   rw [enter_fr hf hb, <- fx_nil]
   exact this
 . obtain ⟨x1, x2⟩ := exec_callv (p := C.p) hop (ρ := (Go.Act.mk tmps' C.ds.ds).eval) hx' hf hnm hb W₁
   have hst := stepG_enter (main := C.main) (b := C.ds.base fn) (rest := rest) (cs := C.base) (k := k) ho hwt' hb' x1
   rw [hst]
   unfold listed
   rw [x2, Conc.seen_none, fx_at]
theorem BO.retN (hI : IOk C) {R₀ : Pr} {m m' : Fm} (hm : FmW C R₀ m m') {ops : Array Oper} {i : Nat} {rest : List Nat} {k : List Item} (hr : m.ret = false) (htd : m.todo = .inRegion ops (i :: rest) :: k) (hnd : ∀ s, (ops[i]?).bind (·.dst) = some s -> s ∉ C.S)
   {f : FuncId} {tmps : Array Value} {todo : List Item} {w : World} {v : Value} {fnf : Func} (hf : C.p.funcs[f]? = some fnf) (hv : (resS fnf.results.toList tmps).run C.p w = .ok v w) (h : BO C l (m.fin ops i rest k v) w) : BO (C.sub m' R₀) l ⟨f, tmps, todo, true⟩ w := by
 intro R W x' τ hw hx ht hi
 obtain ⟨f', tmps', todo', ret'⟩ := x'
 obtain rfl := hx.fn
 obtain rfl := hx.todo
 obtain rfl := hx.ret
 have hr' : m'.ret = false := hm.ret.symm.trans hr
 have htd' : m'.todo = .inRegion ops (i :: rest) :: k := hm.todo.symm.trans htd
 refine BehE.own rfl trivial λ W₁ s => ?_
 have hw₁ : C.Rel R w W₁ := Cx.Rel.suf (C := C) hw ht s
 have hi₁ := hI.suf _ _ _ _ hi.1 s
 let T : Tape := λ n q => W₁.tape (W₁.drawn + n) q
 have hw₂ : C.Rel R (Tt.tp w T 0) W₁ := ⟨hw₁.inj, hw₁.inj', hw₁.lt, hw₁.low, hw₁.gle, hw₁.cont, hw₁.rest, hw₁.st, hw₁.np⟩
 have htp : Tp (Tt.tp w T 0) W₁ := λ n q => by show W₁.tape (W₁.drawn + (0 + n)) q = _; rw [Nat.zero_add]
 have hrun := (tf_resS _ _ w v w hv).2 T 0
 obtain ⟨R1, v', W1, ev, e1, g3, e3, e4, e5⟩ := Sim.run (P := C.P) rfl _ (sim_resS hx.tmps fnf.results.toList) hw₂ htp hrun
 obtain ⟨hWW, _⟩ := tf_resS _ _ W₁ v' W1 e1
 subst hWW
 have hret : (retS C.p ⟨f, tmps', todo, true⟩ [m']).run C.p W1 = .ok (m'.fin ops i rest k v', []) W1 := (retS_mk htd' hf e1).1
 obtain ⟨_, _, _, e⟩ := retS_fx (main := C.main) rfl hr' hret [] C.ds C.base
 have hfx : fx [] (C.sub m' R₀).ds ⟨f, tmps', todo, true⟩ = (⟨f, tmps', todo, true⟩ : Fm).fr := fx_nil _
 rw [hfx]
 have hsub : ∀ e ∈ seen C.p f ((retS C.p ⟨f, tmps', todo, true⟩ [m']).events C.p W1 #[]), EvOk R1 C.St e := λ e he => by
   rw [(retS_mk htd' hf e1).2, e4] at he
   exact e5 e (by simpa using mem_seen he)
 have hnew : ∀ a b, R1 a b -> R a b \/ (W1.heap.size <= b /\ b < W1.heap.size) := λ a b x => by
   rcases e3.new a b x with y | ⟨_, y⟩
   . exact .inl y
   . exact .inr ⟨y, (e3.rel.ltR a b x).2⟩
 have ht1 : Terra (τ.grow W1 W1) R1 C.St := λ a b x => by
   rcases e3.new a b x with y | ⟨y1, y2⟩
   . exact ⟨(ht a b y).1, λ z => .inl ((ht a b y).2 z)⟩
   . have := (e3.rel.ltR a b x).2; omega
 have hi1 := hI.step R τ W1 R1 W1 hi₁ ht ⟨e3.le, rfl, rfl, rfl, Nat.le_refl _, hnew, λ _ _ _ => rfl⟩
 refine ⟨_, W1, _, e, rfl, Gua.id _ _, λ e he => evT_of_evOk (hsub e he) ht1, ?_⟩
 rw [deafBehind_still (λ e he => evOk_quiet (hsub e he))]
 have hrel1 : C.Rel R1 w W1 := ⟨e3.rel.inj, e3.rel.inj', e3.rel.lt, e3.rel.low, e3.rel.gle, e3.rel.cont, e3.rel.rest, e3.rel.st, e3.rel.np⟩
 refine h R1 W1 _ _ hrel1 ⟨hm.fn, rfl, hm.ret, ?_, ?_⟩ ht1 hi1
 . have := put_rel (C := C) (d := []) (d' := []) (hm.tmps.mono (hi.2.trans e3.le)) (dst := (ops[i]?).bind (·.dst)) g3
   unfold Fm.fin
   simp only
   unfold Go.Act.put at this
   cases hd : (ops[i]?).bind (·.dst) with
   | none => rw [hd] at this; exact this
   | some s => rw [hd] at this; exact this
 . have := put_pins (C := C) (d := []) (v := v') hm.pins hnd
   unfold Fm.fin
   simp only
   unfold Go.Act.put at this
   cases hd : (ops[i]?).bind (·.dst) with
   | none => rw [hd] at this; exact this
   | some s => rw [hd] at this; exact this
theorem BO.callL (F : Fit3 C.P C.fs) (hI : IOk C) {fn : FuncId} {tmps : Array Value} {ops : Array Oper} {i : Nat} {rest : List Nat} {k : List Item} {w : World} {o : Oper} {x : Operand} {f : FuncId} {first cap : Array Value} {args : Array Operand} {ats : Array TypeId} (ho : ops[i]? = some o) (hwt : Region.wanted o (yielded ops tmps) = true)
   (hop : o.op = .call ⟨.value x, args, ats⟩) (hx : Callee C tmps x f first cap) (hargs : args.all (okX C.fs) = true) (hg : C.gs f = true) (hnd : ∀ s, o.dst = some s -> s ∉ C.S)
   {Q : Value -> World -> Prop} (hQt : ∀ v w T e, Q v w -> Q v (Tt.tp w T e)) (hc : ∀ T, Calls C.p f (first ++ args.map (Go.Act.mk tmps []).eval ++ cap) (Tt.tp w T 0) (λ e w' => ∃ v, e = .returned v /\ Q v w'))
   (hJ : ∀ v w', Q v w' -> BO C l ⟨fn, (Go.Act.put ⟨tmps, []⟩ o.dst v).tmps, .inRegion ops rest :: k, false⟩ w') : BO C l ⟨fn, tmps, .inRegion ops (i :: rest) :: k, false⟩ w := by
 obtain ⟨fnf, cf, g1, g2, g3, g4, g5⟩ := F.fn f hg rfl
 have g2' : C.p.funcs[f]? = some fnf := g2
 have hpl : plainRes fnf.results.toList := F.res f hg rfl fnf g2
 refine BO.callN hI ho hwt hop hx hargs g2' g3 g4 hpl λ R₀ m0 hm0 => ?_
 generalize hxs : first ++ args.map (Go.Act.mk tmps []).eval ++ cap = xs at hc ⊢
 have hI' := hI.sub m0 R₀
 have hent : entF C.p f xs = ⟨f, xs ++ Array.replicate (fnf.ntmps - xs.size) undef, [.code cf], false⟩ := by simp [entF, g2', g4]
 intro R W m' τ hw hm ht hi
 obtain ⟨f', tmps', todo', ret'⟩ := m'
 obtain rfl := hm.fn
 obtain rfl := hm.todo
 obtain rfl := hm.ret
 have hfm : FmR C.P C.fs C.K R ⟨f, xs ++ Array.replicate (fnf.ntmps - xs.size) undef, [.code cf], false⟩ ⟨f, tmps', [.code cf], false⟩ := by
   refine ⟨rfl, rfl, rfl, hm.tmps, λ j hj => ?_, ⟨fnf, fnf, g1, g2, rfl, hpl⟩⟩
   simp only [List.mem_cons, List.not_mem_nil, or_false] at hj
   subst hj; exact g5
 have hrel : RelS C.P C.fs C.K C.p.globals.size C.St ⟨f, xs ++ Array.replicate (fnf.ntmps - xs.size) undef, [.code cf], false⟩ [] w := ⟨R, W, _, [], hw, hfm, .nil⟩
 have tree : Tt.LT C.p (λ mT wT => mT.ret = true /\ mT.fn = f /\ ∃ v, (resS fnf.results.toList mT.tmps).run C.p wT = .ok v wT /\ Q v wT) ⟨f, xs ++ Array.replicate (fnf.ntmps - xs.size) undef, [.code cf], false⟩ [] w := by
   refine bar (P := C.P) F rfl (λ m w T e h => ⟨h.1, h.2.1, let ⟨v, a, b⟩ := h.2.2; ⟨v, (tf_resS _ _ w v w a).2 T e, hQt _ _ _ _ b⟩⟩) ⟨hrel, λ T => ?_⟩
   obtain ⟨e, w', fr, ⟨v, rfl, hq⟩, hcm, hff, hlv⟩ := hc T [pz]
   obtain ⟨hmode, hdef, hkind, fn', hfn', hres⟩ := hlv
   obtain ⟨n, hn⟩ := hcm
   have hfr0 : Frame.enter C.p f xs .normal = (⟨f, xs ++ Array.replicate (fnf.ntmps - xs.size) undef, [.code cf], false⟩ : Fm).fr := enter_fr g2' g4
   rw [hfr0] at hn
   obtain ⟨k2, mT, hi, hfr⟩ := reach (P := C.P) F rfl hmode n (RelS.tape hrel T 0) hn
   have h1 : mT.tmps = fr.tmps := congrArg Frame.tmps hfr
   have h2 : mT.fn = f := (congrArg Frame.fn hfr).trans hff
   have h4 : mT.ret = true := by
     cases hr : mT.ret with
     | true => rfl
     | false => rw [<- hfr, Fm.fr_run hr] at hmode; cases hmode
   rw [hff, g2'] at hfn'
   obtain rfl := Option.some.inj hfn'
   exact ⟨k2, mT, w', hi, h4, h2, v, by rw [h1]; exact results_inv hpl hres, hq⟩
 have back : ∀ (x : Fm) (wT : World) (todo : List Item), (∃ v, (resS fnf.results.toList x.tmps).run C.p wT = .ok v wT /\ Q v wT) -> BO (C.sub m0 R₀) l ⟨f, x.tmps, todo, true⟩ wT := λ x wT todo ⟨v, h5, h6⟩ => by
   refine BO.retN hI hm0 rfl rfl (λ s hs => hnd s (by rw [ho] at hs; exact hs)) g2' h5 ?_
   have := hJ v wT h6
   unfold Fm.fin
   rw [ho]
   simp only [Option.bind_some]
   unfold Go.Act.put at this
   cases hd : o.dst with
   | none => rw [hd] at this; exact this
   | some s => rw [hd] at this; exact this
 have := tree_beh (C := C.sub m0 R₀) (l := l) F hI' (k := []) (fn0 := f) tree (λ x wT e1 e2 e3 hq => BO.fall hI' (back x wT [] (by
     obtain ⟨_, _, v, h5, h6⟩ := hq wT.tape
     have h7 : Q v (Tt.tp (Tt.tp wT wT.tape 0) wT.tape wT.drawn) := hQt _ _ _ _ h6
     have h8 := (tf_resS _ _ _ v _ h5).2 wT.tape wT.drawn
     exact ⟨v, h8, h7⟩)))
   (λ x wT e1 e2 e3 hq => back x wT _ hq.2.2) R W ⟨f, tmps', [.code cf], false⟩ [] τ rfl (λ _ e => by cases e) hw hfm .nil ht hi (λ x hx => by cases hx) (λ i hi => by
     simp only [lastOf, List.mem_cons, List.not_mem_nil, or_false] at hi
     subst hi
     show codeNo [] cf = true
     exact codeNo_fit cf g5)
 exact this
theorem exec_recv {p : Program} {o : Oper} {ct : TypeId} {x : Operand} {ok : Bool} {ρ : Operand -> Value} {c : Nat} {z : Value} {dir : ChanDir} {e : TypeId} {ie : TypeInfo} (hop : o.op = .recv ct x ok) (hct : p.underlying ct = some (.chan dir e)) (hie : p.info? e = some ie) (hz : ie.zero = some z) (hx : ρ x = .chan (some c)) (w : World) :
   (execOp ρ o).run p w = .ok (.comm #[rcase c z] true (.recv ok)) w /\ (execOp ρ o).events p w #[] = #[] := by
 obtain ⟨dst, op', type, pos, after, guard⟩ := o
 simp only at hop
 subst hop
 have hu : ∀ w, (underlying ct).run p w = .ok (.chan dir e) w := λ w => by simp [underlying, program, bind, Sem.bind, Sem.run, hct, pure]
 have hzz : ∀ w, (zeroValue e).run p w = .ok z w := λ w => by simp [zeroValue, typeInfo, program, bind, Sem.bind, Sem.run, hie, hz, pure]
 have he : execOp ρ ⟨dst, .recv ct x ok, type, pos, after, guard⟩ = (underlying ct).bind (λ d => match d with | .chan _ elem => (zeroValue elem).bind (λ z => .pure (.comm #[{ chan := ρ x, send := none, zero := z }] true (.recv ok))) | _ => stuck "receive: channel type expected") := by
   simp only [execOp]
   show Sem.bind _ _ = Sem.bind _ _
   congr 1
 rw [he]
 constructor
 . rw [Sem.run_bind', hu]
   simp only [Result.andThen]
   rw [Sem.run_bind', hzz]
   simp only [Result.andThen, hx]
   rfl
 . rw [Sem.events_bind', hu, Result.evThen_ok, events_underlying]
   simp only
   rw [Sem.events_bind', hzz, Result.evThen_ok, events_zeroValue]
   rfl
theorem exec_send {p : Program} {o : Oper} {x y : Operand} {ρ : Operand -> Value} {c : Nat} {v : Value} (hop : o.op = .send x y) (hx : ρ x = .chan (some c)) (hy : ρ y = v) (w : World) :
   (execOp ρ o).run p w = .ok (.comm #[scase c v (.tuple #[])] true .send) w /\ (execOp ρ o).events p w #[] = #[] := by
 obtain ⟨dst, op', type, pos, after, guard⟩ := o
 simp only at hop
 subst hop
 constructor
 . simp [execOp, hx, hy, scase, pure, Sem.run]
 . simp [execOp, hx, hy, scase, pure, Sem.run, Sem.events, Sem.runT]
theorem chan_rel {R : Pr} {w W : World} (hw : C.Rel R w W) {g c : Nat} {v' : Value} (hK : C.K g c) (h : VR (SF C.fs) C.K R (.chan (some g)) v') : v' = .chan (some c) := by
 cases h with
 | chan h =>
   cases h with
   | some h => rw [hw.inj g _ c h (.inr hK)]
theorem served_fx {fn : FuncId} {tmps : Array Value} {ops : Array Oper} {i : Nat} {rest : List Nat} {k : List Item} {o : Oper} (ho : ops[i]? = some o) (v : Value) : Conc.served (G ((C.ds.base fn).at ⟨tmps, C.ds.ds⟩ (.inRegion ops (i :: rest) :: k)) C.base) v = G (fx [] C.ds ⟨fn, (Go.Act.put ⟨tmps, []⟩ o.dst v).tmps, .inRegion ops rest :: k, false⟩) C.base := by
 rw [fx_at]
 have hput : Go.Act.put ⟨tmps, C.ds.ds⟩ o.dst v = ⟨(Go.Act.put ⟨tmps, []⟩ o.dst v).tmps, C.ds.ds⟩ := by cases o.dst <;> rfl
 have hfin : ((C.ds.base fn).at ⟨tmps, C.ds.ds⟩ (.inRegion ops (i :: rest) :: k)).finish v = (C.ds.base fn).at (Go.Act.put ⟨tmps, C.ds.ds⟩ o.dst v) (.inRegion ops rest :: k) := by rw [Frame.finish_at, ho]; rfl
 rw [<- hput, <- hfin]; rfl
theorem BO.recv (hI : IOk C) {fn : FuncId} {tmps : Array Value} {ops : Array Oper} {i : Nat} {rest : List Nat} {k : List Item} {w : World} {o : Oper} {ct : TypeId} {x : Operand} {ok : Bool} {c g : Nat} {z : Value} {dir : ChanDir} {e : TypeId} {ie : TypeInfo} {okv : Value -> Prop} {nx : Value -> L} {sh : L}
   (ho : ops[i]? = some o) (hwt : Region.wanted o (yielded ops tmps) = true) (hop : o.op = .recv ct x ok) (hct : C.p.underlying ct = some (.chan dir e)) (hie : C.p.info? e = some ie) (hz : ie.zero = some z) (hzr : ∀ R, VR (SF C.fs) C.K R z z)
   (hxo : okX C.fs x = true) (hx : (Go.Act.mk tmps []).eval x = .chan (some g)) (hK : C.K g c) (hnd : ∀ s, o.dst = some s -> s ∉ C.S) (hact : C.A.act l = .recv c okv nx sh)
   (h1 : ∀ v, okv v -> ∃ vg, (∀ R, VR (SF C.fs) C.K R vg v) /\ BO C (nx v) ⟨fn, (Go.Act.put ⟨tmps, []⟩ o.dst (recvd ok vg true)).tmps, .inRegion ops rest :: k, false⟩ w)
   (h2 : C.A.cl l -> BO C sh ⟨fn, (Go.Act.put ⟨tmps, []⟩ o.dst (recvd ok z false)).tmps, .inRegion ops rest :: k, false⟩ w) : BO C l ⟨fn, tmps, .inRegion ops (i :: rest) :: k, false⟩ w := by
 intro R W m' τ hw hm ht hi
 obtain ⟨fn', tmps', todo', ret'⟩ := m'
 obtain rfl := hm.fn
 obtain rfl := hm.todo
 obtain rfl := hm.ret
 have hx' : (Go.Act.mk tmps' C.ds.ds).eval x = .chan (some c) := chan_rel hw hK (hx ▸ eval_rel (C := C) hm.tmps hxo)
 have hwt' := wanted_rel (C := C) hm.tmps hwt
 have hb : (C.ds.base fn).kind ≠ .early := C.ds.ok
 have rec' : ∀ vg v' b, VR (SF C.fs) C.K R vg v' -> VR (SF C.fs) C.K R (recvd ok vg b) (recvd ok v' b) := λ vg v' b h => by
   unfold recvd
   cases ok with
   | false => exact h
   | true =>
     simp only [if_true]
     exact VR.tuple' (by
       have := ArR.empty (S := SF C.fs) (K := C.K) (R := R)
       exact (this.push h).push (.bool b))
 have goon : ∀ {l' : L} {vg v' : Value}, VR (SF C.fs) C.K R vg v' -> BO C l' ⟨fn, (Go.Act.put ⟨tmps, []⟩ o.dst vg).tmps, .inRegion ops rest :: k, false⟩ w ->
     C.B l' τ (Conc.served (G ((C.ds.base fn).at ⟨tmps', C.ds.ds⟩ (.inRegion ops (i :: rest) :: k)) C.base) v') W := λ {l' vg v'} hv hB => by
   rw [served_fx ho]
   exact hB R W _ τ hw ⟨rfl, rfl, rfl, put_rel (C := C) hm.tmps hv, put_pins (C := C) hm.pins hnd⟩ ht hi
 rw [fx_at]
 refine BehE.usr rfl ?_
 unfold AtUsr
 rw [hact]
 refine ⟨rfl, z, ok, λ w₁ s => ?_, λ v hv => ?_, λ hcl => ?_⟩
 . obtain ⟨e1, e2⟩ := exec_recv (p := C.p) (ρ := (Go.Act.mk tmps' C.ds.ds).eval) hop hct hie hz hx' w₁
   rw [stepG_comm ho hwt' hb e1]
   unfold listed
   rw [e2, Conc.seen_none]
 . obtain ⟨vg, hvg, hB⟩ := h1 v hv
   exact goon (rec' _ _ _ (hvg R)) hB
 . exact goon (rec' _ _ _ (hzr R)) (h2 hcl)
theorem BO.send (hI : IOk C) {fn : FuncId} {tmps : Array Value} {ops : Array Oper} {i : Nat} {rest : List Nat} {k : List Item} {w : World} {o : Oper} {x y : Operand} {c g : Nat} {okv : Value -> Prop} {pub : Value -> List Nat} {nx : Value -> L} {l' : L}
   (ho : ops[i]? = some o) (hwt : Region.wanted o (yielded ops tmps) = true) (hop : o.op = .send x y)
   (hxo : okX C.fs x = true) (hx : (Go.Act.mk tmps []).eval x = .chan (some g)) (hK : C.K g c) (hyo : okX C.fs y = true) (hnd : ∀ s, o.dst = some s -> s ∉ C.S) (hact : C.A.act l = .send c okv pub nx)
   (hv : ∀ R v', VR (SF C.fs) C.K R ((Go.Act.mk tmps []).eval y) v' -> okv v' /\ pub v' = [] /\ nx v' = l')
   (h1 : BO C l' ⟨fn, (Go.Act.put ⟨tmps, []⟩ o.dst undef).tmps, .inRegion ops rest :: k, false⟩ w) : BO C l ⟨fn, tmps, .inRegion ops (i :: rest) :: k, false⟩ w := by
 intro R W m' τ hw hm ht hi
 obtain ⟨fn', tmps', todo', ret'⟩ := m'
 obtain rfl := hm.fn
 obtain rfl := hm.todo
 obtain rfl := hm.ret
 have hx' : (Go.Act.mk tmps' C.ds.ds).eval x = .chan (some c) := chan_rel hw hK (hx ▸ eval_rel (C := C) hm.tmps hxo)
 have hwt' := wanted_rel (C := C) hm.tmps hwt
 have hb : (C.ds.base fn).kind ≠ .early := C.ds.ok
 obtain ⟨k1, k2, k3⟩ := hv R _ (eval_rel (C := C) (d := C.ds.ds) hm.tmps hyo)
 rw [fx_at]
 refine BehE.usr rfl ?_
 unfold AtUsr
 rw [hact]
 refine ⟨rfl, _, .tuple #[], τ, λ w₁ s => ?_, k1, λ b h => h, rfl, λ b h => .inl h, (λ a ha => by rw [k2] at ha; cases ha), ?_⟩
 . obtain ⟨e1, e2⟩ := exec_send (p := C.p) (ρ := (Go.Act.mk tmps' C.ds.ds).eval) hop hx' rfl w₁
   rw [stepG_comm ho hwt' hb e1]
   unfold listed
   rw [e2, Conc.seen_none]
 . rw [k3, served_fx ho]
   exact h1 R W _ τ hw ⟨rfl, rfl, rfl, put_rel (C := C) hm.tmps vr_undef, put_pins (C := C) hm.pins hnd⟩ ht hi
end
end Go.Mt
namespace Go.Mt
open Go.Conc
inductive PpL where
 | m0 | m1 | rv (k : Nat) | wt | sd (k : Nat) | dn
def pipeAct (c n : Nat) (val : Nat -> Value) : PpL -> Act PpL
 | .m0 => .add .m1
 | .m1 => .spawn [c] (.sd 0) (.rv 0)
 | .rv k => .recv c (λ v => k < n /\ v = val k) (λ _ => .rv (k + 1)) .wt
 | .wt => .wait
 | .sd k => if k < n then .send c (λ v => v = val k) (λ _ => []) (λ _ => .sd (k + 1)) else .close c .dn
 | .dn => .done
def PpL.pend : PpL -> Bool | .m1 => true | _ => false
inductive PipeInv (c n : Nat) (q : Nat -> Pj PpL) (ch : Chs) : Prop
 | a (l : PpL) : (l = .m0 \/ l = .m1) -> q 0 = .run l -> (∀ i, i ≠ 0 -> q i = .gone) -> PipeInv c n q ch
 | b (j k : Nat) : j ≠ 0 -> (∀ i, i ≠ 0 -> i ≠ j -> q i = .gone) -> k <= n -> q 0 = .run (.rv k) -> q j = .run (.sd k) -> ch c = some false -> PipeInv c n q ch
 | d (j : Nat) : j ≠ 0 -> (∀ i, i ≠ 0 -> i ≠ j -> q i = .gone) -> ch c = some true -> (q 0 = .run (.rv n) \/ q 0 = .run .wt \/ q 0 = .waits) -> (q j = .run .dn \/ q j = .over .dn) -> PipeInv c n q ch
def pipe (c n : Nat) (val : Nat -> Value) : Proto PpL where
 act := pipeAct c n val
 dep := λ _ _ => True
 pend := PpL.pend
 cl := λ l => l = .rv n
 Inv := PipeInv c n
theorem num_two {L : Type} {q : Nat -> Pj L} {j : Nat} (h : ∀ i, i ≠ 0 -> i ≠ j -> q i = .gone) : ∀ n, num q n <= (if 0 < n then 1 else 0) + (if j < n then 1 else 0) := by
 intro n
 induction n with
 | zero => simp [num]
 | succ n ih =>
   simp only [num]
   have hc : (q n).c <= 1 := by cases q n <;> simp [Pj.c]
   by_cases h0 : n = 0
   . subst h0; simp [num] at ih ⊢; omega
   . by_cases hj : n = j
     . subst hj
       have : 0 < n := by omega
       simp [this] at ih ⊢; omega
     . rw [h n h0 hj]
       have : (0 < n) ↔ (0 < n + 1) := by omega
       simp only [Pj.c]
       split at ih <;> split at ih <;> split <;> split <;> omega
section
variable {c n : Nat} {val : Nat -> Value} {q : Nat -> Pj PpL} {ch : Chs}
theorem PipeInv.who (h : PipeInv c n q ch) {i : Nat} {l : PpL} (hi : q i = .run l) :
   (i = 0 /\ (l = .m0 \/ l = .m1)) \/ (∃ k, k <= n /\ ch c = some false /\ ((i = 0 /\ l = .rv k) \/ (i ≠ 0 /\ l = .sd k)) /\ ∃ j, j ≠ 0 /\ q 0 = .run (.rv k) /\ q j = .run (.sd k)) \/ (ch c = some true /\ ((i = 0 /\ (l = .rv n \/ l = .wt)) \/ (i ≠ 0 /\ l = .dn))) := by
 cases h with
 | a l' hl h0 hg =>
   by_cases e : i = 0
   . subst e; rw [h0] at hi; cases hi; exact .inl ⟨rfl, hl⟩
   . rw [hg i e] at hi; cases hi
 | b j k hj hg hk h0 hjr hc =>
   by_cases e : i = 0
   . subst e; rw [h0] at hi; cases hi; exact .inr (.inl ⟨k, hk, hc, .inl ⟨rfl, rfl⟩, j, hj, h0, hjr⟩)
   . by_cases e2 : i = j
     . subst e2; rw [hjr] at hi; cases hi; exact .inr (.inl ⟨k, hk, hc, .inr ⟨e, rfl⟩, i, hj, h0, hjr⟩)
     . rw [hg i e e2] at hi; cases hi
 | d j hj hg hc h0 hjr =>
   by_cases e : i = 0
   . subst e
     rcases h0 with h0 | h0 | h0 <;> rw [h0] at hi <;> cases hi
     . exact .inr (.inr ⟨hc, .inl ⟨rfl, .inl rfl⟩⟩)
     . exact .inr (.inr ⟨hc, .inl ⟨rfl, .inr rfl⟩⟩)
   . by_cases e2 : i = j
     . subst e2
       rcases hjr with hjr | hjr <;> rw [hjr] at hi <;> cases hi
       exact .inr (.inr ⟨hc, .inr ⟨e, rfl⟩⟩)
     . rw [hg i e e2] at hi; cases hi
theorem pipeAct_send {l : PpL} {c' : Nat} {ok : Value -> Prop} {pub : Value -> List Nat} {nx : Value -> PpL} (h : pipeAct c n val l = .send c' ok pub nx) : ∃ k, l = .sd k /\ k < n /\ c' = c /\ ok = (λ v => v = val k) /\ pub = (λ _ => []) /\ nx = λ _ => .sd (k + 1) := by
 cases l with
 | sd k =>
   simp only [pipeAct] at h
   split at h
   . next hk => cases h; exact ⟨k, rfl, hk, rfl, rfl, rfl, rfl⟩
   . cases h
 | _ => simp [pipeAct] at h
theorem pipeAct_recv {l : PpL} {c' : Nat} {ok : Value -> Prop} {nx : Value -> PpL} {sh : PpL} (h : pipeAct c n val l = .recv c' ok nx sh) : ∃ k, l = .rv k /\ c' = c /\ ok = (λ v => k < n /\ v = val k) /\ nx = (λ _ => .rv (k + 1)) /\ sh = .wt := by
 cases l with
 | rv k => simp only [pipeAct] at h; cases h; exact ⟨k, rfl, rfl, rfl, rfl, rfl⟩
 | sd k => simp only [pipeAct] at h; split at h <;> cases h
 | _ => simp [pipeAct] at h
theorem pipeAct_close {l : PpL} {c' : Nat} {nx : PpL} (h : pipeAct c n val l = .close c' nx) : ∃ k, l = .sd k /\ ¬ k < n /\ c' = c /\ nx = .dn := by
 cases l with
 | sd k =>
   simp only [pipeAct] at h
   split at h
   . cases h
   . next hk => cases h; exact ⟨k, rfl, hk, rfl, rfl⟩
 | _ => simp [pipeAct] at h
theorem pipeAct_add {l nx : PpL} (h : pipeAct c n val l = .add nx) : l = .m0 /\ nx = .m1 := by
 cases l with
 | m0 => simp only [pipeAct] at h; cases h; exact ⟨rfl, rfl⟩
 | sd k => simp only [pipeAct] at h; split at h <;> cases h
 | _ => simp [pipeAct] at h
theorem pipeAct_spawn {l lc nx : PpL} {pub : List Nat} (h : pipeAct c n val l = .spawn pub lc nx) : l = .m1 /\ pub = [c] /\ lc = .sd 0 /\ nx = .rv 0 := by
 cases l with
 | m1 => simp only [pipeAct] at h; cases h; exact ⟨rfl, rfl, rfl, rfl⟩
 | sd k => simp only [pipeAct] at h; split at h <;> cases h
 | _ => simp [pipeAct] at h
theorem pipeAct_done {l : PpL} (h : pipeAct c n val l = .done) : l = .dn := by
 cases l with
 | dn => rfl
 | sd k => simp only [pipeAct] at h; split at h <;> cases h
 | _ => simp [pipeAct] at h
theorem pipeAct_wait {l : PpL} (h : pipeAct c n val l = .wait) : l = .wt := by
 cases l with
 | wt => rfl
 | sd k => simp only [pipeAct] at h; split at h <;> cases h
 | _ => simp [pipeAct] at h
theorem pipe_ok (c n : Nat) (val : Nat -> Value) : (pipe c n val).Ok where
 send1 := by
   intro q ch i j li lj c' ok pub nx ok' pub' nx' hI hi hj ha hb
   obtain ⟨k, rfl, _⟩ := pipeAct_send (c := c) (n := n) (val := val) ha
   obtain ⟨k', rfl, _⟩ := pipeAct_send (c := c) (n := n) (val := val) hb
   cases hI with
   | a l' hl h0 hg =>
     have : i = 0 := Classical.byContradiction λ e => by rw [hg i e] at hi; cases hi
     subst this; rw [h0] at hi; cases hi; rcases hl with h | h <;> cases h
   | b j' k2 hj' hg hk h0 hjr hc =>
     have e1 : i = j' := Classical.byContradiction λ e => by
       by_cases e0 : i = 0
       . subst e0; rw [h0] at hi; cases hi
       . rw [hg i e0 e] at hi; cases hi
     have e2 : j = j' := Classical.byContradiction λ e => by
       by_cases e0 : j = 0
       . subst e0; rw [h0] at hj; cases hj
       . rw [hg j e0 e] at hj; cases hj
     rw [e1, e2]
   | d j' hj' hg hc h0 hjr =>
     exfalso
     rcases PipeInv.who (.d j' hj' hg hc h0 hjr) hi with ⟨_, h | h⟩ | ⟨_, _, h, _⟩ | ⟨_, ⟨_, h | h⟩ | ⟨_, h⟩⟩
     . cases h
     . cases h
     . rw [hc] at h; cases h
     . cases h
     . cases h
     . cases h
 recv1 := by
   intro q ch i j li lj c' ok nx sh ok' nx' sh' hI hi hj ha hb
   obtain ⟨k, rfl, _⟩ := pipeAct_recv (c := c) (n := n) (val := val) ha
   obtain ⟨k', rfl, _⟩ := pipeAct_recv (c := c) (n := n) (val := val) hb
   have key : ∀ {i k}, q i = .run (.rv k) -> i = 0 := λ {i k} h => by
     rcases hI.who h with ⟨e, _⟩ | ⟨_, _, _, ⟨e, _⟩ | ⟨_, e⟩, _⟩ | ⟨_, ⟨e, _⟩ | ⟨_, e⟩⟩
     . exact e
     . exact e
     . cases e
     . exact e
     . cases e
   rw [key hi, key hj]
 sendC := by
   intro q ch i l c' ok pub nx hI hi ha
   obtain ⟨k, rfl, _, rfl, _⟩ := pipeAct_send (c := c) (n := n) (val := val) ha
   rcases hI.who hi with ⟨_, h | h⟩ | ⟨_, _, h, _⟩ | ⟨_, ⟨_, h | h⟩ | ⟨_, h⟩⟩
   . cases h
   . cases h
   . exact h
   . cases h
   . cases h
   . cases h
 recvC := by
   intro q ch i l c' ok nx sh hI hi ha
   obtain ⟨k, rfl, rfl, _⟩ := pipeAct_recv (c := c) (n := n) (val := val) ha
   rcases hI.who hi with ⟨_, h | h⟩ | ⟨_, _, h, _⟩ | ⟨h, _⟩
   . cases h
   . cases h
   . exact ⟨_, h⟩
   . exact ⟨_, h⟩
 meet := by
   intro q ch i j li lj c' ok pub nx ok' nx' sh v hI hi hj ha hb hv hp
   obtain ⟨k, rfl, hk, rfl, rfl, rfl, rfl⟩ := pipeAct_send (c := c) (n := n) (val := val) ha
   obtain ⟨k', rfl, _, rfl, rfl, rfl⟩ := pipeAct_recv (c := c') (n := n) (val := val) hb
   cases hI with
   | a l' hl h0 hg =>
     have : i = 0 := Classical.byContradiction λ e => by rw [hg i e] at hi; cases hi
     subst this; rw [h0] at hi; cases hi; rcases hl with h | h <;> cases h
   | b j' k2 hj' hg hk2 h0 hjr hc =>
     have e1 : i = j' := Classical.byContradiction λ e => by
       by_cases e0 : i = 0
       . subst e0; rw [h0] at hi; cases hi
       . rw [hg i e0 e] at hi; cases hi
     subst e1
     rw [hjr] at hi; cases hi
     have e2 : j = 0 := Classical.byContradiction λ e => by
       by_cases e0 : j = i
       . subst e0; rw [hjr] at hj; cases hj
       . rw [hg j e e0] at hj; cases hj
     subst e2
     rw [h0] at hj; cases hj
     refine ⟨⟨hk, hv⟩, ?_⟩
     refine .b i (k + 1) hj' (λ a h1 h2 => ?_) hk ?_ ?_ ?_
     . rw [upd_ne _ _ h1, upd_ne _ _ h2]; exact hg a h1 h2
     . rw [upd_same]
     . rw [upd_ne _ _ hj', upd_same]
     . simp [Chs.opn, hc]
   | d j' hj' hg hc h0 hjr =>
     exfalso
     rcases PipeInv.who (.d j' hj' hg hc h0 hjr) hi with ⟨_, h | h⟩ | ⟨_, _, h, _⟩ | ⟨_, ⟨_, h | h⟩ | ⟨_, h⟩⟩
     . cases h
     . cases h
     . rw [hc] at h; cases h
     . cases h
     . cases h
     . cases h
 shut := by
   intro q ch i l c' ok nx sh hI hi ha hc1
   obtain ⟨k, rfl, rfl, rfl, rfl, rfl⟩ := pipeAct_recv (c := c) (n := n) (val := val) ha
   cases hI with
   | a l' hl h0 hg =>
     have : i = 0 := Classical.byContradiction λ e => by rw [hg i e] at hi; cases hi
     subst this; rw [h0] at hi; cases hi; rcases hl with h | h <;> cases h
   | b j' k2 hj' hg hk2 h0 hjr hc => rw [hc] at hc1; cases hc1
   | d j' hj' hg hc h0 hjr =>
     have e2 : i = 0 := Classical.byContradiction λ e => by
       by_cases e0 : i = j'
       . subst e0; rcases hjr with hjr | hjr <;> rw [hjr] at hi <;> cases hi
       . rw [hg i e e0] at hi; cases hi
     subst e2
     have hkn : k = n := by rcases h0 with h0 | h0 | h0 <;> rw [h0] at hi <;> cases hi; rfl
     refine ⟨by rw [hkn]; rfl, .d j' hj' (λ a h1 h2 => ?_) hc (.inr (.inl (upd_same _ _ _))) ?_⟩
     . rw [upd_ne _ _ h1]; exact hg a h1 h2
     . rw [upd_ne _ _ hj']; exact hjr
 close := by
   intro q ch i l c' nx hI hi ha
   obtain ⟨k, rfl, hk, rfl, rfl⟩ := pipeAct_close (c := c) (n := n) (val := val) ha
   cases hI with
   | a l' hl h0 hg =>
     have : i = 0 := Classical.byContradiction λ e => by rw [hg i e] at hi; cases hi
     subst this; rw [h0] at hi; cases hi; rcases hl with h | h <;> cases h
   | b j' k2 hj' hg hk2 h0 hjr hc =>
     have e1 : i = j' := Classical.byContradiction λ e => by
       by_cases e0 : i = 0
       . subst e0; rw [h0] at hi; cases hi
       . rw [hg i e0 e] at hi; cases hi
     subst e1
     rw [hjr] at hi; cases hi
     have : k = n := by omega
     subst this
     refine ⟨hc, .d i hj' (λ a h1 h2 => ?_) (upd_same _ _ _) (.inl ?_) (.inl (upd_same _ _ _))⟩
     . rw [upd_ne _ _ h2]; exact hg a h1 h2
     . rw [upd_ne _ _ (Ne.symm hj')]; exact h0
   | d j' hj' hg hc h0 hjr =>
     exfalso
     rcases PipeInv.who (.d j' hj' hg hc h0 hjr) hi with ⟨_, h | h⟩ | ⟨_, _, h, _⟩ | ⟨_, ⟨_, h | h⟩ | ⟨_, h⟩⟩
     . cases h
     . cases h
     . rw [hc] at h; cases h
     . cases h
     . cases h
     . cases h
 add := by
   intro q ch i l nx hI hi ha
   obtain ⟨rfl, rfl⟩ := pipeAct_add (c := c) (n := n) (val := val) ha
   cases hI with
   | a l' hl h0 hg =>
     have : i = 0 := Classical.byContradiction λ e => by rw [hg i e] at hi; cases hi
     subst this
     refine ⟨rfl, rfl, rfl, .a .m1 (.inr rfl) (upd_same _ _ _) λ a h => ?_⟩
     rw [upd_ne _ _ h]; exact hg a h
   | b j' k2 hj' hg hk2 h0 hjr hc =>
     exfalso
     by_cases e0 : i = 0
     . subst e0; rw [h0] at hi; cases hi
     . by_cases e1 : i = j'
       . subst e1; rw [hjr] at hi; cases hi
       . rw [hg i e0 e1] at hi; cases hi
   | d j' hj' hg hc h0 hjr =>
     exfalso
     rcases PipeInv.who (.d j' hj' hg hc h0 hjr) hi with ⟨e, _⟩ | ⟨_, _, h, _⟩ | ⟨_, ⟨_, h | h⟩ | ⟨_, h⟩⟩
     . subst e; rcases h0 with h0 | h0 | h0 <;> rw [h0] at hi <;> cases hi
     . rw [hc] at h; cases h
     . cases h
     . cases h
     . cases h
 spawn := by
   intro q ch i l pub lc nx k hI hi ha
   obtain ⟨rfl, rfl, rfl, rfl⟩ := pipeAct_spawn (c := c) (n := n) (val := val) ha
   cases hI with
   | a l' hl h0 hg =>
     have : i = 0 := Classical.byContradiction λ e => by rw [hg i e] at hi; cases hi
     subst this
     refine ⟨rfl, rfl, rfl, λ hk hk0 _ => .b k 0 hk0 (λ a h1 h2 => ?_) (Nat.zero_le _) ?_ (upd_same _ _ _) (by simp [Chs.opn])⟩
     . rw [upd_ne _ _ h2, upd_ne _ _ h1]; exact hg a h1
     . rw [upd_ne _ _ (Ne.symm hk0), upd_same]
   | b j' k2 hj' hg hk2 h0 hjr hc =>
     exfalso
     by_cases e0 : i = 0
     . subst e0; rw [h0] at hi; cases hi
     . by_cases e1 : i = j'
       . subst e1; rw [hjr] at hi; cases hi
       . rw [hg i e0 e1] at hi; cases hi
   | d j' hj' hg hc h0 hjr =>
     exfalso
     rcases PipeInv.who (.d j' hj' hg hc h0 hjr) hi with ⟨e, _⟩ | ⟨_, _, h, _⟩ | ⟨_, ⟨_, h | h⟩ | ⟨_, h⟩⟩
     . subst e; rcases h0 with h0 | h0 | h0 <;> rw [h0] at hi <;> cases hi
     . rw [hc] at h; cases h
     . cases h
     . cases h
     . cases h
 done := by
   intro q ch i l hI hi ha
   obtain rfl := pipeAct_done (c := c) (n := n) (val := val) ha
   cases hI with
   | a l' hl h0 hg =>
     have : i = 0 := Classical.byContradiction λ e => by rw [hg i e] at hi; cases hi
     subst this; rw [h0] at hi; cases hi; rcases hl with h | h <;> cases h
   | b j' k2 hj' hg hk2 h0 hjr hc =>
     exfalso
     by_cases e0 : i = 0
     . subst e0; rw [h0] at hi; cases hi
     . by_cases e1 : i = j'
       . subst e1; rw [hjr] at hi; cases hi
       . rw [hg i e0 e1] at hi; cases hi
   | d j' hj' hg hc h0 hjr =>
     have e0 : i ≠ 0 := λ e => by subst e; rcases h0 with h0 | h0 | h0 <;> rw [h0] at hi <;> cases hi
     have e1 : i = j' := Classical.byContradiction λ e => by rw [hg i e0 e] at hi; cases hi
     subst e1
     refine ⟨e0, .d i hj' (λ a h1 h2 => ?_) hc ?_ (.inr (upd_same _ _ _))⟩
     . rw [upd_ne _ _ h2]; exact hg a h1 h2
     . rw [upd_ne _ _ (Ne.symm e0)]; exact h0
 wait := by
   intro q ch i l hI hi ha
   obtain rfl := pipeAct_wait (c := c) (n := n) (val := val) ha
   cases hI with
   | a l' hl h0 hg =>
     have : i = 0 := Classical.byContradiction λ e => by rw [hg i e] at hi; cases hi
     subst this; rw [h0] at hi; cases hi; rcases hl with h | h <;> cases h
   | b j' k2 hj' hg hk2 h0 hjr hc =>
     exfalso
     by_cases e0 : i = 0
     . subst e0; rw [h0] at hi; cases hi
     . by_cases e1 : i = j'
       . subst e1; rw [hjr] at hi; cases hi
       . rw [hg i e0 e1] at hi; cases hi
   | d j' hj' hg hc h0 hjr =>
     have e0 : i = 0 := Classical.byContradiction λ e => by
       by_cases e1 : i = j'
       . subst e1; rcases hjr with hjr | hjr <;> rw [hjr] at hi <;> cases hi
       . rw [hg i e e1] at hi; cases hi
     subst e0
     refine ⟨rfl, rfl, .d j' hj' (λ a h1 h2 => ?_) hc (.inr (.inr (upd_same _ _ _))) ?_⟩
     . rw [upd_ne _ _ h1]; exact hg a h1 h2
     . rw [upd_ne _ _ hj']; exact hjr
 prog := by
   intro q ch hI hB
   cases hI with
   | a l' hl h0 hg =>
     exfalso
     have := hB 0 l' h0
     rcases hl with rfl | rfl <;> exact this
   | b j' k2 hj' hg hk2 h0 hjr hc =>
     exfalso
     have h1 := hB j' _ hjr
     unfold Proto.Blocked pipe at h1
     simp only [pipeAct] at h1
     by_cases hk : k2 < n
     . simp only [hk, if_true] at h1
       exact h1 ⟨0, .rv k2, _, _, _, h0, rfl⟩
     . simp only [hk, if_false] at h1
   | d j' hj' hg hc h0 hjr =>
     have hj2 : q j' = .over .dn := hjr.resolve_left λ e => by exact hB j' _ e
     rcases h0 with h0 | h0 | h0
     . exfalso
       have h1 := hB 0 _ h0
       unfold Proto.Blocked pipe at h1
       simp only [pipeAct] at h1
       rw [hc] at h1
       exact absurd h1.1 (by simp)
     . exfalso; exact hB 0 _ h0
     . refine ⟨h0, λ i l h => ?_⟩
       by_cases e0 : i = 0
       . subst e0; rw [h0] at h; cases h
       . by_cases e1 : i = j'
         . subst e1; rw [hj2] at h; cases h
         . rw [hg i e0 e1] at h; cases h
 pendC := by
   intro l l' c' v ok pub nx ha hl
   obtain ⟨k, rfl, hk, rfl, rfl, rfl, rfl⟩ := pipeAct_send (c := c) (n := n) (val := val) ha
   subst hl; rfl
 pendR := by
   intro l l' c' v ok nx sh ha hl
   obtain ⟨k, rfl, rfl, rfl, rfl, rfl⟩ := pipeAct_recv (c := c) (n := n) (val := val) ha
   rcases hl with rfl | rfl <;> rfl
 pendX := by
   intro l c' nx ha
   obtain ⟨k, rfl, hk, rfl, rfl⟩ := pipeAct_close (c := c) (n := n) (val := val) ha
   rfl
 few := by
   intro q ch hI m
   have : ∃ j, ∀ i, i ≠ 0 -> i ≠ j -> q i = .gone := by
     cases hI with
     | a l' hl h0 hg => exact ⟨0, λ i h _ => hg i h⟩
     | b j' k2 hj' hg hk2 h0 hjr hc => exact ⟨j', hg⟩
     | d j' hj' hg hc h0 hjr => exact ⟨j', hg⟩
   obtain ⟨j, hj⟩ := this
   have := num_two hj m
   split at this <;> split at this <;> omega
end
end Go.Mt
