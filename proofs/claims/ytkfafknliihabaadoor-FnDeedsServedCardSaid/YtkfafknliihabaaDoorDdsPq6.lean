/-
 Part 6 of what stands behind the last text.
-/
import Derived.Test.YtkfafknliihabaaDoorDdsPq5
set_option linter.unusedSectionVars false
set_option linter.unusedSimpArgs false
set_option linter.unusedVariables false
namespace Go.Mt
open Go.Conc
open Go.ConcR (KK wgBlock WgAt stA smA rd wr mk)
section
variable {L : Type} {P : Program} {ty : TypeId} {Wg : Nat} {A : Proto L} {Fin : Goroutine -> World -> Prop} {Shun : Loc -> Prop}
variable {gs : Array Goroutine} {w w' : World} {t : Trace} {T : Nat -> Td L} {ch ch' : Chs} {sl : Option (Nat × Nat)} {i j : Nat} {x g' : Goroutine} {es : Array Event}
theorem tau_upd (T : Nat -> Td L) (i : Nat) (ph' : Ph L) (r : Cp) (g' : Goroutine) (j : Nat) : (upd T i ⟨ph',r,(T i).τ,g'⟩ j).τ = (T j).τ:=by
 by_cases hj : j = i
 ·subst hj; simp [upd_same]
 ·simp [upd_ne _ _ hj]
theorem live_upd (T : Nat -> Td L) (i : Nat) {ph' : Ph L} (r : Cp) (τ : Terr) (g' : Goroutine) (h : ph'.live ↔ (T i).ph.live) : (λ k => (upd T i ⟨ph',r,τ,g'⟩ k).ph.live) = λ k => (T k).ph.live:=by
 funext j
 by_cases hj : j = i
 ·subst hj; simp [upd_same,h]
 ·simp [upd_ne _ _ hj]
theorem TI.phase {n B : Nat} {ph' : Ph L} (r : Cp) (g' : Goroutine) (h : TI Wg n (λ k => (T k).τ.own) (λ k b => (T k).τ.still b \/ (T k).τ.pass b) (λ k => (T k).ph.live) Shun B t) (hl : ph'.live ↔ (T i).ph.live) :
  TI Wg n (λ k => (upd T i ⟨ph',r,(T i).τ,g'⟩ k).τ.own) (λ k b => (upd T i ⟨ph',r,(T i).τ,g'⟩ k).τ.still b \/ (upd T i ⟨ph',r,(T i).τ,g'⟩ k).τ.pass b) (λ k => (upd T i ⟨ph',r,(T i).τ,g'⟩ k).ph.live) Shun B t:=by
 have e1 : (λ k' => (upd T i ⟨ph',r,(T i).τ,g'⟩ k').τ.own) = λ k' => (T k').τ.own:=funext λ j => by rw [tau_upd]
 have e2 : (λ k' b => (upd T i ⟨ph',r,(T i).τ,g'⟩ k').τ.still b \/ (upd T i ⟨ph',r,(T i).τ,g'⟩ k').τ.pass b) = λ k' b => (T k').τ.still b \/ (T k').τ.pass b:=funext λ j => by rw [tau_upd]
 rw [e1,e2,live_upd T i r _ g' hl]
 exact h
theorem Inv.alive (h : Inv P ty Wg A Fin Shun gs w t T ch) (hi : gs[i]? = some x) (haw : Awake x (T i).g) (hst : stepG P (i == 0) (T i).g w = .go g' w' es) (hrun' : g'.status = .running) {ι : Type} {f : ι -> Rk} (hr : (T i).r = .inr (.mk ι f))
  (hl : (T i).ph.live) {ph' : Ph L} (hl' : ph'.live) (a : Go.Conc.Aside Wg w w') (hlv : WgLive ty Wg w -> WgLive ty Wg w')
  (hK : ∃ k,Beh P ty Wg A Fin (f k) (i == 0) ph' (deafBehind (Deaf t i) es) (T i).τ g' w') (h1 : i ≠ 0 -> ¬ ph'.waits)
  (hgrp : Grp A ty Wg (upd (λ j => (T j).ph) i ph') gs.size w') (hinv : A.Inv (upd (λ j => (T j).ph.proj) i ph'.proj) ch) (hW : WgAt ty Wg w' 0 1 -> WgAt ty Wg w 0 1)
  (hes : ∀ e ∈ es,OkL Wg (T i).τ.own (λ b => (T i).τ.still b \/ (T i).τ.pass b) i w'.heap.size e) : Res P ty Wg A Fin Shun gs w t T sl i:=by
 have hlt : i < gs.size:=(Array.getElem?_eq_some_iff.1 hi).1
 obtain ⟨k,hB⟩:=hK
 have hnl : ¬ ph'.leaves:=λ e => by cases ph' <;> first | exact e.elim | exact hl'.elim
 have hng : (T i).ph ≠ .gone:=λ e => by rw [e] at hl; exact hl
 have hS:=h.st.phase (r:=.inr (f k)) (g':=g') hng hlt a ph' (λ e => by rw [e] at hl'; exact hl') (λ _ => hl') h1 hlv (λ l e => by cases ph' <;> simp_all [Ph.proj,Ph.live]) hgrp hinv
 have hti : upd T i ⟨ph',.inr (f k),(T i).τ,g'⟩ i = ⟨ph',.inr (f k),(T i).τ,g'⟩:=upd_same _ _ _
 refine goRes hi h.st.n0 (Ti:=⟨ph',.inr (f k),(T i).τ,g'⟩) (by rw [haw.step]; exact hst) (by rw [hr]; exact .inr (.mk f k)) hS ?_
 refine h.dy.go hi ((sits_stays (T:=⟨ph',.inr (f k),(T i).τ,g'⟩) hnl).2 ⟨f k,rfl,hB,.inl (Awake.self hrun')⟩) (by rw [hrun']; simp)
  (λ j _ => Suf.of_aside a ⟨λ e => (h.st.bnd j Wg (.inl e)).2.1 rfl,λ e => (h.st.bnd j Wg (.inr e)).2.1 rfl⟩ hlv) h.dy.keepC (h.dy.keepW hW) ?_
 refine hS.tiEvents hlt (by rw [hti]; exact hl') _ _ ?_ λ e he => ?_
 ·have:=h.dy.tr.phase (i:=i) (ph':=ph') (.inr (f k)) g' ⟨λ _ => hl,λ _ => hl'⟩
  rwa [a.size]
 ·rw [hti]; exact hes e he
theorem Inv.dead (h : Inv P ty Wg A Fin Shun gs w t T ch) (hi : gs[i]? = some x) (haw : Awake x (T i).g) (hst : stepG P (i == 0) (T i).g w = .go g' w' es) (hnb : g'.status ≠ .blocked) {Ti : Td L} (hr : Cl Ti.r (T i).r) (hτ : Ti.τ = (T i).τ)
  (hl : ¬ (T i).ph.live) (hg : (T i).ph ≠ .gone) (h0 : i ≠ 0) (hl' : ¬ Ti.ph.live) (hg' : Ti.ph ≠ .gone) (a : Go.Conc.Aside Wg w w') (hlv : WgLive ty Wg w -> WgLive ty Wg w')
  (hsit : Sits P ty Wg A Fin i Ti (deafBehind (Deaf t i) es) g' w') (hpr : Ti.ph.proj = (T i).ph.proj)
  (hgrp : Grp A ty Wg (upd (λ j => (T j).ph) i Ti.ph) gs.size w') (hW : (mayWake P (T i).g = true /\ g'.status = .running) \/ (WgAt ty Wg w' 0 1 -> WgAt ty Wg w 0 1))
  (hes : ∀ (l r : List Event) (e : Event),es.toList = l ++ e :: r -> (∀ a,(MemAct.ofEvent e).touch? = some a -> onB a.loc Wg /\ a.kind = .atomic /\ 0 < deafBehind (Deaf t i) l.toArray) /\ MemAct.ofEvent e ≠ .mark (.release (stA Wg)) /\ (MemAct.ofEvent e).low w'.heap.size) : Res P ty Wg A Fin Shun gs w t T sl i:=by
 have hlt : i < gs.size:=(Array.getElem?_eq_some_iff.1 hi).1
 obtain ⟨ph',r',τ',g₀⟩:=Ti
 simp only at hτ hl' hg' hpr hgrp hr
 subst hτ
 have hpj : upd (λ j => (T j).ph.proj) i ph'.proj = λ j => (T j).ph.proj:=by rw [hpr]; exact upd_self (λ j => (T j).ph.proj) i
 have hS:=h.st.phase (r:=r') (g':=g₀) hg hlt a ph' hg' (λ e => absurd e h0) (λ _ e => by cases ph' <;> first | exact e.elim | exact hl' e) hlv (λ l e => .inl (by rw [<- hpr]; exact e)) hgrp (by rw [hpj]; exact h.st.inv)
 refine goRes hi h.st.n0 (Ti:=⟨ph',r',(T i).τ,g₀⟩) (by rw [haw.step]; exact hst) hr hS ?_
 refine h.dy.go hi hsit hnb
  (λ j _ => Suf.of_aside a ⟨λ e => (h.st.bnd j Wg (.inl e)).2.1 rfl,λ e => (h.st.bnd j Wg (.inr e)).2.1 rfl⟩ hlv) h.dy.keepC ?_ ?_
 ·intro hi0 x0 hx0 hph hb hwk
  rcases hW with ⟨hm,hr'⟩ | hW
  ·exfalso
   have hs:=h.dy.sit 0 x0 hx0
   rw [sits_stays (by rw [hph]; exact id)] at hs
   obtain ⟨_,_,_,hx | ⟨_,_,_,hx,_⟩ | ⟨_,hx,ho⟩⟩:=hs
   ·rw [hx.1] at hb; cases hb
   ·rw [hph] at hx; cases hx
   ·have hmx : mayWake P x = true:=by
     rw [<- hm]; unfold mayWake; rw [haw.2.1]
    rw [hx] at hwk
    unfold woken at hwk
    rw [hmx,hr'] at hwk
    simp [Goroutine.again,ho] at hwk
  ·exact h.dy.slpW x0 hx0 hph hb ∘ hW
 ·have h1:=h.dy.tr.phase (i:=i) (ph':=ph') r' g₀ ⟨λ e => absurd e hl',λ e => absurd e hl⟩
  have h2 : TI Wg gs.size (λ k => (upd T i ⟨ph',r',(T i).τ,g₀⟩ k).τ.own) (λ k b => (upd T i ⟨ph',r',(T i).τ,g₀⟩ k).τ.still b \/ (upd T i ⟨ph',r',(T i).τ,g₀⟩ k).τ.pass b) (λ k => (upd T i ⟨ph',r',(T i).τ,g₀⟩ k).ph.live) Shun w'.heap.size t:=by rwa [a.size]
  have:=h2.deafs (k:=i) hlt hS.noWg x.frame.fn x.frame.place es.toList hes
  simpa using this
theorem mute_row {n B d : Nat} {es : Array Event} (hm : ∀ e ∈ es,Event.mute e = true) : ∀ (l r : List Event) (e : Event),es.toList = l ++ e :: r -> (∀ a,(MemAct.ofEvent e).touch? = some a -> onB a.loc Wg /\ a.kind = .atomic /\ 0 < deafBehind d l.toArray) /\ MemAct.ofEvent e ≠ .mark (.release (stA Wg)) /\ (MemAct.ofEvent e).low B:=by
 intro l r e he
 have hme:=hm e (by rw [<- Array.mem_toList_iff,he]; simp)
 have:=okL_mute (Wg:=Wg) (own:=λ _ => False) (pas:=λ _ => False) (k:=0) (B:=B) hme
 exact ⟨λ a ha => (by rw [touch_mute hme] at ha; cases ha),this.2.1,this.2.2⟩
theorem Inv.idle1 {K : Bool -> Ph L -> Nat -> Terr -> Goroutine -> World -> Prop} (h : Inv P ty Wg A Fin Shun gs w t T ch) (hi : gs[i]? = some x) (haw : Awake x (T i).g) (hl : ¬ (T i).ph.live) (hnl : ¬ (T i).ph.leaves) {ι : Type} {f : ι -> Rk} (hr : (T i).r = .inr (.mk ι f))
  (hK : ∀ m ph d τ g w,K m ph d τ g w -> ∃ k,Beh P ty Wg A Fin (f k) m ph d τ g w) (ho : Idle1 P ty Wg K (i == 0) (T i).ph (Deaf t i) (T i).τ (T i).g w) : Res P ty Wg A Fin Shun gs w t T sl i:=by
 obtain ⟨g',es,hst,hrun',hm,hk⟩:=ho w Suf.refl
 obtain ⟨k,hB⟩:=hK _ _ _ _ _ _ hk
 have h0 : i ≠ 0:=λ e => by subst e; exact hl h.st.role0
 have hng : (T i).ph ≠ .gone:=λ e => by rw [e] at hnl; exact hnl trivial
 have eu : upd (λ j => (T j).ph) i (T i).ph = λ j => (T j).ph:=upd_self (λ j => (T j).ph) i
 exact h.dead hi haw hst (by rw [hrun']; simp) (Ti:=⟨(T i).ph,.inr (f k),(T i).τ,g'⟩) (by rw [hr]; exact .inr (.mk f k)) rfl hl hng h0 hl hng (Go.Conc.Aside.refl _ _) id
  ((sits_stays (T:=⟨(T i).ph,.inr (f k),(T i).τ,g'⟩) hnl).2 ⟨f k,rfl,hB,.inl (Awake.self hrun')⟩) rfl (by rw [eu]; exact h.st.grp) (.inr id) (mute_row (n:=0) hm)
theorem Inv.release (hA : A.Ok) (h : Inv P ty Wg A Fin Shun gs w t T ch) (hi : gs[i]? = some x) (haw : Awake x (T i).g) (hst : stepG P (i == 0) (T i).g w = .go g' w #[ConcR.mk (.releaseMerge (stA Wg))]) (hrun' : g'.status = .running) {ι : Type} {f : ι -> Rk} (hr : (T i).r = .inr (.mk ι f))
  {l : L} (hl : (T i).ph = .usr l) (hact : A.act l = .done) (hd : Deaf t i = 0) (hdep : ∀ w₁,Suf ty Wg (T i).τ w w₁ -> A.dep l w₁)
  (hK : ∃ k,Beh P ty Wg A Fin (f k) (i == 0) (.rel l) 0 (T i).τ g' w) : Res P ty Wg A Fin Shun gs w t T sl i:=by
 have hlt : i < gs.size:=(Array.getElem?_eq_some_iff.1 hi).1
 obtain ⟨k,hB⟩:=hK
 obtain ⟨h0,hinv⟩:=hA.done _ ch i l h.st.inv (by show (T i).ph.proj = _; rw [hl]; rfl) hact
 have hgrp : Grp A ty Wg (upd (λ j => (T j).ph) i (.rel l)) gs.size w:=by
  refine h.st.grp.congr (.inl (upd_ne _ _ (Ne.symm h0))) ?_ λ j hj => ?_
  ·unfold vv
   rw [pnd_upd_ne A _ h0]
   have:=cnt_upd (λ j => (T j).ph) (i:=i) (n:=gs.size) (.rel l) hlt h0
   simp only [hl,Ph.pre,if_true] at this
   omega
  ·by_cases hji : j = i
   ·subst hji; rw [upd_same] at hj
    have : (T j).ph.last \/ False:=hj
    rw [hl] at this; exact (this.elim id id).elim
   ·exact upd_ne _ _ hji
 have hS:=h.st.phase (r:=.inr (f k)) (g':=g') (by rw [hl]; simp) hlt (Go.Conc.Aside.refl _ _) (.rel l) (by simp) (λ e => absurd e h0) (λ _ e => e) id (λ l' e => .inr (by
  simp only [Ph.proj,Pj.over.injEq] at e; subst e; exact hdep)) hgrp hinv
 refine goRes hi h.st.n0 (Ti:=⟨.rel l,.inr (f k),(T i).τ,g'⟩) (by rw [haw.step]; exact hst) (by rw [hr]; exact .inr (.mk f k)) hS ?_
 refine h.dy.go hi ((sits_stays (T:=⟨.rel l,.inr (f k),(T i).τ,g'⟩) (by exact id)).2 ⟨f k,rfl,?_,.inl (Awake.self hrun')⟩) (by rw [hrun']; simp) (λ j _ => Suf.refl) h.dy.keepC (h.dy.keepW id) ?_
 ·have : deafBehind (Deaf t i) #[ConcR.mk (.releaseMerge (stA Wg))] = 0:=by rw [hd]; rfl
  rw [this]; exact hB
 ·have e1 : (λ k' => (upd T i ⟨.rel l,.inr (f k),(T i).τ,g'⟩ k').τ.own) = λ k' => (T k').τ.own:=funext λ j => by rw [tau_upd]
  have e2 : (λ k' b => (upd T i ⟨.rel l,.inr (f k),(T i).τ,g'⟩ k').τ.still b \/ (upd T i ⟨.rel l,.inr (f k),(T i).τ,g'⟩ k').τ.pass b) = λ k' b => (T k').τ.still b \/ (T k').τ.pass b:=funext λ j => by rw [tau_upd]
  rw [e1,e2]
  have hev : MemOp.ofEvents i x.frame.fn x.frame.place #[ConcR.mk (.releaseMerge (stA Wg))] = #[{ g:=i,fn:=x.frame.fn,pos:=x.frame.place,act:=.mark (.releaseMerge (stA Wg)) }]:=by simp [MemOp.ofEvents,ConcR.mk,MemAct.ofEvent]
  rw [hev]
  refine h.dy.tr.release hlt rfl rfl hd h.st.grp.live.lt (λ j hj => ?_) λ j hj => ?_
  ·by_cases hji : j = i
   ·subst hji; rw [upd_same] at hj; exact hj.elim
   ·rw [upd_ne _ _ hji] at hj; exact hj
  ·by_cases hji : j = i
   ·exact .inr hji
   ·left; rw [upd_ne _ _ hji]; exact hj
theorem Inv.acquire (h : Inv P ty Wg A Fin Shun gs w t T ch) (hi : gs[0]? = some x) (haw : Awake x (T 0).g) (hst : stepG P true (T 0).g w = .go g' w #[ConcR.mk (.acquire (stA Wg))]) (hrun' : g'.status = .running) (hd : Deaf t 0 = 0)
  (hq : ∀ j,j ≠ 0 -> (T j).ph.leaves) (hF : Fin g' w) : Res P ty Wg A Fin Shun gs w t T sl 0:=by
 have hlt : 0 < gs.size:=h.st.n0
 have hst' : stepG P (0 == 0) x w = .go g' w #[ConcR.mk (.acquire (stA Wg))]:=by rw [show ((0 : Nat) == 0) = true from rfl,haw.step]; exact hst
 refine ⟨_,_,runT_crowd_go hi hst',.inl ⟨_,g',w,sl,λ j => match (T j).r with | .inl q => q | _ => 0,rfl,by simp [hlt],hrun',hF,?_⟩⟩
 have hev : MemOp.ofEvents 0 x.frame.fn x.frame.place #[ConcR.mk (.acquire (stA Wg))] = #[{ g:=0,fn:=x.frame.fn,pos:=x.frame.place,act:=.mark (.acquire (stA Wg)) }]:=by simp [MemOp.ofEvents,ConcR.mk,MemAct.ofEvent]
 rw [hev]
 obtain ⟨hP,hab⟩:=h.dy.tr.acquire (y:={ g:=0,fn:=x.frame.fn,pos:=x.frame.place,act:=.mark (.acquire (stA Wg)) }) hlt rfl rfl hd h.st.grp.live.lt (λ j hj => by
  refine Classical.byContradiction λ hne => ?_
  have:=hq j hne
  have hj' : (T j).ph.live:=hj
  cases hp : (T j).ph <;> rw [hp] at this hj' <;> first | exact this.elim | exact hj'.elim)
 refine ⟨⟨λ j y hj hy => ?_,λ j hj => hab j (by simpa using hj)⟩,hP⟩
 have hne : 0 ≠ j:=by omega
 rw [Array.getElem?_setIfInBounds_ne hne,Array.getElem?_map] at hy
 obtain ⟨y0,hy0,rfl⟩:=Option.map_eq_some_iff.1 hy
 have hs:=h.dy.sit j y0 hy0
 rw [sits_leaves (hq j (by omega))] at hs
 obtain ⟨q,hq',hQ⟩:=hs
 rw [woken_quitsD hQ,Deaf_other t (g:=j) (g':=0) hne _ (λ op hop => by simp at hop; rw [hop])]
 simp only [hq']
 exact hQ
end
end Go.Mt
namespace Go.Mt
open Go.Conc
open Go.ConcR (KK wgBlock WgAt stA smA rd wr)
section
variable {L : Type} {P : Program} {ty : TypeId} {Wg : Nat} {A : Proto L} {Fin : Goroutine -> World -> Prop} {Shun : Loc -> Prop}
variable {gs gs' : Array Goroutine} {w w' : World} {t t' : Trace} {T T' : Nat -> Td L} {ch ch' : Chs} {sl : Option (Nat × Nat)} {i j : Nat} {x g' : Goroutine} {es : Array Event}
theorem Dyn.gen (h : Dyn (P:=P) (ty:=ty) (Wg:=Wg) (A:=A) (Fin:=Fin) gs w t T ch Shun) (M : Nat -> Prop) (hkeep : ∀ j,¬ M j -> gs'[j]? = gs[j]? /\ T' j = T j)
  (hmov : ∀ j y,M j -> gs'[j]? = some y -> y.status ≠ .blocked /\ Sits P ty Wg A Fin j (T' j) (Deaf t' j) y w') (hsuf : ∀ j,¬ M j -> Suf ty Wg (T j).τ w w') (hdeaf : ∀ j,¬ M j -> Deaf t' j = Deaf t j)
  (hch : ∀ c,ch' c = some true -> ch c = some true) (hW : WgAt ty Wg w' 0 1 -> WgAt ty Wg w 0 1)
  (htr : TI Wg gs'.size (λ k => (T' k).τ.own) (λ k b => (T' k).τ.still b \/ (T' k).τ.pass b) (λ k => (T' k).ph.live) Shun w'.heap.size t') :
  Dyn (P:=P) (ty:=ty) (Wg:=Wg) (A:=A) (Fin:=Fin) gs' w' t' T' ch' Shun:=by
 have old : ∀ (j : Nat) (g : Goroutine) (cs : Array CommCase) (sh : CommShape),gs'[j]? = some (parked g cs sh) -> gs[j]? = some (parked g cs sh):=by
  intro j g cs sh hj
  by_cases hm : M j
  ·exact absurd rfl (hmov j _ hm hj).1
  ·rw [<- (hkeep j hm).1]; exact hj
 refine ⟨λ j y hj => ?_,λ a b ga gb c v z z' sh sh' ha hb => h.slp a b ga gb c v z z' sh sh' (old _ _ _ _ ha) (old _ _ _ _ hb),λ j g c z sh hj hc => h.slpC j g c z sh (old _ _ _ _ hj) (hch c hc),λ y hy hph hb => ?_,htr⟩
 ·by_cases hm : M j
  ·exact (hmov j y hm hj).2
  ·obtain ⟨h1,h2⟩:=hkeep j hm
   rw [h2,hdeaf j hm]
   rw [h1] at hj
   exact (h.sit j y hj).rely (hsuf j hm)
 ·by_cases hm : M 0
  ·exact absurd hb (hmov 0 y hm hy).1
  ·obtain ⟨h1,h2⟩:=hkeep 0 hm
   rw [h1] at hy
   rw [h2] at hph
   exact λ e => h.slpW y hy hph hb (hW e)
theorem deaf_still (t : Trace) (g : Nat) (u : Trace) (hu : ∀ op ∈ u,op.act ≠ .mark .disable /\ op.act ≠ .mark .enable) : Deaf (t ++ u) g = Deaf t g:=by
 obtain ⟨l⟩:=u
 rw [Deaf_append]
 have key : ∀ (l : List MemOp) (d : Nat),(∀ op ∈ l,op.act ≠ .mark .disable /\ op.act ≠ .mark .enable) -> l.foldl (deafStep g) d = d:=by
  intro l
  induction l with
  | nil => intro d _; rfl
  | cons y l ih =>
   intro d hl
   have e : deafStep g d y = d:=by
    have:=hl y (by simp)
    unfold deafStep
    split <;> simp_all
   rw [List.foldl_cons,e]
   exact ih d λ op hop => hl op (by simp [hop])
 exact key l _ λ op hop => hu op (by simpa using hop)
theorem TI.idles {n B : Nat} {own pas : Nat -> Nat -> Prop} {live : Nat -> Prop} : ∀ (u : List MemOp) {t : Trace},TI Wg n own pas live Shun B t -> (∀ op ∈ u,op.g < n /\ op.act.touch? = none /\ op.act ≠ .mark (.release (stA Wg)) /\ op.act.low B) -> TI Wg n own pas live Shun B (t ++ u.toArray)
 | [],t,h,_ => by simpa using h
 | y :: u,t,h,hu => by
  have e1 : t ++ (y :: u).toArray = (t ++ #[y]) ++ u.toArray:=by apply Array.ext'; simp
  rw [e1]
  obtain ⟨h1,h2,h3,h4⟩:=hu y (by simp)
  exact TI.idles u (h.idle h1 (λ a ha => by rw [h2] at ha; cases ha) h3 h4) λ op hop => hu op (by simp [hop])
theorem Inv.offerR (h : Inv P ty Wg A Fin Shun gs w t T ch) {k c : Nat} {y : Goroutine} (hk : gs[k]? = some y) (hne : offersAt y c false ≠ []) :
  ∃ l ok nx s z b,(T k).ph = .usr l /\ A.act l = .recv c ok nx s /\ y = parked (T k).g #[rcase c z] (.recv b) /\ (∀ w₁,Suf ty Wg (T k).τ w w₁ -> stepG P (k == 0) (T k).g w₁ = .comm (T k).g #[rcase c z] true (.recv b) w₁ #[]):=by
 have hs:=h.dy.sit k y hk
 by_cases hl : (T k).ph.leaves
 ·rw [sits_leaves hl] at hs
  obtain ⟨q,_,hQ⟩:=hs
  refine absurd (offersAt_of_not_blocked ?_ c false) hne
  rcases hQ.status with e | e <;> rw [e] <;> simp
 ·rw [sits_stays hl] at hs
  obtain ⟨r,_,_,hx | ⟨l,cs,sh,h1,rfl,h3,h4⟩ | ⟨_,rfl,ho⟩⟩:=hs
  ·exact absurd (offersAt_of_not_blocked (by rw [hx.1]; simp) c false) hne
  ·rcases h4 with ⟨c',ok,pub,nx,v,z,h5,rfl,rfl⟩ | ⟨c',ok,nx,s,z,b,h5,rfl,rfl⟩
   ·exact absurd (offersAt_parked_send' _ _ _ _ _ _) hne
   ·rw [offersAt_parked_recv] at hne
    by_cases hc : c' = c
    ·subst hc; exact ⟨l,ok,nx,s,z,b,h1,h5,rfl,h3⟩
    ·rw [if_neg hc] at hne; exact absurd rfl hne
  ·refine absurd ?_ hne
   simp [offersAt,ho]
theorem Inv.offerS (h : Inv P ty Wg A Fin Shun gs w t T ch) {k c : Nat} {y : Goroutine} (hk : gs[k]? = some y) (hne : offersAt y c true ≠ []) :
  ∃ l ok pub nx v z,(T k).ph = .usr l /\ A.act l = .send c ok pub nx /\ y = parked (T k).g #[scase c v z] .send /\ (∀ w₁,Suf ty Wg (T k).τ w w₁ -> stepG P (k == 0) (T k).g w₁ = .comm (T k).g #[scase c v z] true .send w₁ #[]):=by
 have hs:=h.dy.sit k y hk
 by_cases hl : (T k).ph.leaves
 ·rw [sits_leaves hl] at hs
  obtain ⟨q,_,hQ⟩:=hs
  refine absurd (offersAt_of_not_blocked ?_ c true) hne
  rcases hQ.status with e | e <;> rw [e] <;> simp
 ·rw [sits_stays hl] at hs
  obtain ⟨r,_,_,hx | ⟨l,cs,sh,h1,rfl,h3,h4⟩ | ⟨_,rfl,ho⟩⟩:=hs
  ·exact absurd (offersAt_of_not_blocked (by rw [hx.1]; simp) c true) hne
  ·rcases h4 with ⟨c',ok,pub,nx,v,z,h5,rfl,rfl⟩ | ⟨c',ok,nx,s,z,b,h5,rfl,rfl⟩
   ·rw [offersAt_parked_send] at hne
    by_cases hc : c' = c
    ·subst hc; exact ⟨l,ok,pub,nx,v,z,h1,h5,rfl,h3⟩
    ·rw [if_neg hc] at hne; exact absurd rfl hne
   ·exact absurd (offersAt_parked_recv' _ _ _ _ _) hne
  ·refine absurd ?_ hne
   simp [offersAt,ho]
theorem setChan_at (w : World) (c cap : Nat) (buf : Array Value) (cl : Bool) (s r : Nat) (tm : Bool) (h : c < w.heap.size) : (w.setChan c cap buf cl s r tm).heap[c]? = some (.chan cap buf cl s r tm):=by
 simp [World.setChan,h]
theorem aside_chan (w : World) (c cap : Nat) (buf : Array Value) (cl : Bool) (s r : Nat) (tm : Bool) : Go.Conc.Aside c w (w.setChan c cap buf cl s r tm):=
 ⟨rfl,rfl,rfl,by simp [World.setChan],λ k hk => by simp only [World.setChan]; rw [Array.getElem?_setIfInBounds_ne (Ne.symm hk)]⟩
theorem Inv.meet (hA : A.Ok) (h : Inv P ty Wg A Fin Shun gs w t T ch) (hij : i ≠ j) (hin : i < gs.size) (hjn : j < gs.size) {c : Nat} {li lj : L} {ok ok' : Value -> Prop} {pub : Value -> List Nat} {nx nx' : Value -> L} {sh : L}
  (hli : (T i).ph = .usr li) (hai : A.act li = .send c ok pub nx) (hlj : (T j).ph = .usr lj) (haj : A.act lj = .recv c ok' nx' sh) {ιi ιj : Type} {fi : ιi -> Rk} {fj : ιj -> Rk} (hri : (T i).r = .inr (.mk ιi fi)) (hrj : (T j).r = .inr (.mk ιj fj))
  {v : Value} {τ' : Terr} {b : Bool} (hok : ok v) (ho : ∀ b,τ'.own b -> (T i).τ.own b) (hst : τ'.still = (T i).τ.still) (hpa : ∀ b,τ'.pass b -> (T i).τ.pass b \/ (T i).τ.own b)
  (hpub : ∀ a ∈ pub v,(T i).τ.own a /\ ¬ τ'.own a /\ ¬ τ'.still a /\ freshChan w a)
  (hKi : ∃ k,Beh P ty Wg A Fin (fi k) (i == 0) (.usr (nx v)) (Deaf t i) τ' (Conc.served (T i).g undef) w)
  (hKj : ok' v -> ∃ k,Beh P ty Wg A Fin (fj k) (j == 0) (.usr (nx' v)) (Deaf t j) (T j).τ (Conc.served (T j).g (recvd b v true)) w)
  {s r : Nat} (hc : w.heap[c]? = some (.chan 0 #[] false s r false)) (hsz : gs'.size = gs.size) (hgi : gs'[i]? = some (Conc.served (T i).g undef)) (hgj : gs'[j]? = some (Conc.served (T j).g (recvd b v true)))
  (hgk : ∀ k,k ≠ i -> k ≠ j -> gs'[k]? = gs[k]?) {u : Trace} (hu : ∀ op ∈ u,op.g < gs.size /\ op.act.touch? = none /\ op.act ≠ .mark (.release (stA Wg)) /\ op.act.low w.heap.size /\ op.act ≠ .mark .disable /\ op.act ≠ .mark .enable) :
  ∃ T' ch',Inv P ty Wg A Fin Shun gs' (w.setChan c 0 #[] false (s + 1) (r + 1) false) (t ++ u) T' ch' /\ Mu.lt (mu gs' T') (mu gs T):=by
 have hpi : (λ k => (T k).ph.proj) i = .run li:=by show (T i).ph.proj = _; rw [hli]; rfl
 have hpj : (λ k => (T k).ph.proj) j = .run lj:=by show (T j).ph.proj = _; rw [hlj]; rfl
 have hcf : ch c = some false:=hA.sendC _ ch i li c ok pub nx h.st.inv hpi hai
 obtain ⟨hok',hinv⟩:=hA.meet _ ch i j li lj c ok pub nx ok' nx' sh v h.st.inv hpi hpj hai haj hok λ a ha => (h.st.bnd i a (.inl (hpub a ha).1)).2.2
 obtain ⟨ki,hBi⟩:=hKi
 obtain ⟨kj,hBj⟩:=hKj hok'
 have hclt : c < w.heap.size:=(Array.getElem?_eq_some_iff.1 hc).1
 have a:=aside_chan w c 0 #[] false (s + 1) (r + 1) false
 have hcW:=(h.st.chan c _ hcf).1
 have hS:=h.st.meet hij hin hjn hcf a hli hlj (.inr (fi ki)) (.inr (fj kj)) (Conc.served (T i).g undef) (Conc.served (T j).g (recvd b v true)) τ' (pub v) ho hst hpa hpub
  ⟨s + 1,r + 1,setChan_at w c 0 #[] false (s + 1) (r + 1) false hclt⟩ (li':=nx v) (lj':=nx' v) (hA.pendC li _ c v ok pub nx hai rfl) (hA.pendR lj _ c v ok' nx' sh haj (.inl rfl)) hinv
 have nc : ∀ k,¬ (T k).τ.own c /\ ¬ (T k).τ.still c:=λ k => ⟨λ e => (by have:=(h.st.bnd k c (.inl e)).2.2; rw [hcf] at this; cases this),λ e => (by have:=(h.st.bnd k c (.inr e)).2.2; rw [hcf] at this; cases this)⟩
 have hdf : ∀ k,Deaf (t ++ u) k = Deaf t k:=λ k => deaf_still t k u λ op hop => ⟨(hu op hop).2.2.2.2.1,(hu op hop).2.2.2.2.2⟩
 generalize hU : upd (upd T i ⟨.usr (nx v),.inr (fi ki),τ',Conc.served (T i).g undef⟩) j ⟨.usr (nx' v),.inr (fj kj),(T j).τ,Conc.served (T j).g (recvd b v true)⟩ = U at hS
 have ui : U i = ⟨.usr (nx v),.inr (fi ki),τ',Conc.served (T i).g undef⟩:=by rw [<- hU,upd_ne _ _ hij,upd_same]
 have uj : U j = ⟨.usr (nx' v),.inr (fj kj),(T j).τ,Conc.served (T j).g (recvd b v true)⟩:=by rw [<- hU,upd_same]
 have uk : ∀ k,k ≠ i -> k ≠ j -> U k = T k:=λ k h1 h2 => by rw [<- hU,upd_ne _ _ h2,upd_ne _ _ h1]
 refine ⟨U,ch.opn (pub v),⟨by rw [hsz]; exact hS,h.dy.gen (λ k => k = i \/ k = j) (λ k hk => ⟨hgk k (λ e => hk (.inl e)) (λ e => hk (.inr e)),uk k (λ e => hk (.inl e)) (λ e => hk (.inr e))⟩) (λ k y hk hy => ?_)
  (λ k _ => Suf.of_aside a (nc k) (live_aside a hcW)) (λ k _ => hdf k) (λ c' hc' => ?_) (λ e => (a.block Wg (Ne.symm hcW)).symm.trans e) ?_⟩,?_⟩
 ·rcases hk with rfl | rfl
  ·rw [hgi] at hy; cases hy
   refine ⟨by simp [Conc.served],?_⟩
   rw [ui,hdf]
   refine (sits_stays (T:=⟨.usr (nx v),.inr (fi ki),τ',Conc.served (T k).g undef⟩) id).2 ⟨fi ki,rfl,hBi.rely (Suf.of_aside a ⟨λ e => (nc k).1 (ho c e),λ e => (nc k).2 (hst ▸ e)⟩ (live_aside a hcW)),.inl (Awake.self rfl)⟩
  ·rw [hgj] at hy; cases hy
   refine ⟨by simp [Conc.served],?_⟩
   rw [uj,hdf]
   exact (sits_stays (T:=⟨.usr (nx' v),.inr (fj kj),(T k).τ,Conc.served (T k).g (recvd b v true)⟩) id).2 ⟨fj kj,rfl,hBj.rely (Suf.of_aside a (nc k) (live_aside a hcW)),.inl (Awake.self rfl)⟩
 ·by_cases hp : c' ∈ pub v
  ·rw [opn_in hp] at hc'; cases hc'
  ·rw [opn_out hp] at hc'; exact hc'
 ·rw [hsz,a.size]
  have h1:=h.dy.tr.idles u.toList (λ op hop => by have:=hu op (by simpa using hop); exact ⟨this.1,this.2.1,this.2.2.1,this.2.2.2.1⟩)
  have e0 : u.toList.toArray = u:=by simp
  rw [e0] at h1
  have e3 : (λ k => (U k).ph.live) = λ k => (T k).ph.live:=funext λ k => by
   by_cases k1 : k = i
   ·subst k1; rw [ui,hli]; rfl
   ·by_cases k2 : k = j
    ·subst k2; rw [uj,hlj]; rfl
    ·rw [uk k k1 k2]
  rw [e3]
  refine h1.less (λ k b _ hb => ?_) (λ k b _ hb => ?_) (Nat.le_refl _)
  ·by_cases k1 : k = i
   ·subst k1; rw [ui] at hb; exact .inl (ho b hb)
   ·by_cases k2 : k = j
    ·subst k2; rw [uj] at hb; exact .inl hb
    ·rw [uk k k1 k2] at hb; exact .inl hb
  ·by_cases k1 : k = i
   ·subst k1; rw [ui] at hb
    rcases hb with hb | hb
    ·exact .inl (.inl (hst ▸ hb))
    ·exact (hpa b hb).elim (λ e => .inl (.inr e)) λ e => .inr (.inl e)
   ·by_cases k2 : k = j
    ·subst k2; rw [uj] at hb; exact .inl hb
    ·rw [uk k k1 k2] at hb; exact .inl hb
 ·rcases Nat.lt_or_ge i j with hlt | hge
  ·exact mu_dec (i:=i) (λ _ => hsz) (by omega) hin (by omega) (by rw [ui,hri]; exact .inr (.mk fi ki)) λ k hk => by rw [uk k (by omega) (by omega)]
  ·exact mu_dec (i:=j) (λ _ => hsz) (by omega) hjn (by omega) (by rw [uj,hrj]; exact .inr (.mk fj kj)) λ k hk => by rw [uk k (by omega) (by omega)]
theorem countP_set {xs : Array Goroutine} {i : Nat} {y z : Goroutine} (h : xs[i]? = some y) (hy : isRun y = true) (hz : isRun z = false) : (xs.setIfInBounds i z).countP isRun < xs.countP isRun:=by
 obtain ⟨hlt,rfl⟩:=Array.getElem?_eq_some_iff.1 h
 have e : xs.setIfInBounds i z = xs.set i z:=by simp [Array.setIfInBounds,hlt]
 rw [e,Array.countP_set hlt]
 have : 0 < xs.countP isRun:=Array.countP_pos_iff.2 ⟨xs[i],Array.getElem_mem hlt,hy⟩
 simp only [hy,hz,if_true,Bool.false_eq_true,if_false]
 omega
theorem Inv.park (h : Inv P ty Wg A Fin Shun gs w t T ch) (hi : gs[i]? = some x) (hrun : x.status = .running) (hnl : ¬ (T i).ph.leaves) {y : Goroutine} (hy : y.status = .blocked)
  (hP : ParkC P ty Wg A (i == 0) (T i) y w \/ ParkW (T i) y) (hW : i = 0 -> (T 0).ph = .w3 -> ¬ WgAt ty Wg w 0 1)
  (hR : ∀ (c : Nat) (v z : Value) (sh : CommShape) (g : Goroutine),y = parked g #[scase c v z] sh -> ∀ (k : Nat) (yk : Goroutine),gs[k]? = some yk -> offersAt yk c false = []) (hS : ∀ (c : Nat) (z : Value) (sh : CommShape) (g : Goroutine),y = parked g #[rcase c z] sh -> ch c ≠ some true /\ ∀ (k : Nat) (yk : Goroutine),gs[k]? = some yk -> offersAt yk c true = []) :
  Inv P ty Wg A Fin Shun (gs.setIfInBounds i y) w (t ++ #[]) T ch /\ Mu.lt (mu (gs.setIfInBounds i y) T) (mu gs T):=by
 have hlt : i < gs.size:=(Array.getElem?_eq_some_iff.1 hi).1
 have hsz : (gs.setIfInBounds i y).size = gs.size:=by simp
 have get : ∀ (k : Nat) (z : Goroutine),(gs.setIfInBounds i y)[k]? = some z -> (k = i /\ z = y) \/ (k ≠ i /\ gs[k]? = some z):=by
  intro k z hk
  by_cases hki : i = k
  ·subst hki
   rw [Array.getElem?_setIfInBounds_self_of_lt hlt] at hk
   exact .inl ⟨rfl,(Option.some.inj hk).symm⟩
  ·rw [Array.getElem?_setIfInBounds_ne hki] at hk
   exact .inr ⟨λ e => hki e.symm,hk⟩
 have et : t ++ #[] = t:=by simp
 refine ⟨⟨by rw [hsz]; exact h.st,?_⟩,mu_dec' hsz (countP_set hi (by simp [isRun,hrun]) (by simp [isRun,hy]))⟩
 rw [et]
 refine ⟨λ k z hk => ?_,λ a b ga gb c v z z' sh sh' ha hb => ?_,λ k g c z sh hk => ?_,λ z hz hph hb => ?_,by rw [hsz]; exact h.dy.tr⟩
 ·rcases get k z hk with ⟨rfl,rfl⟩ | ⟨hne,hk'⟩
  ·have hs:=h.dy.sit k x hi
   rw [sits_stays hnl] at hs ⊢
   obtain ⟨r,h1,h2,_⟩:=hs
   exact ⟨r,h1,h2,.inr hP⟩
  ·exact h.dy.sit k z hk'
 ·rcases get a _ ha with ⟨ea,ha'⟩ | ⟨hna,ha'⟩
  ·rcases get b _ hb with ⟨eb,hb'⟩ | ⟨hnb,hb'⟩
   ·rw [<- ha'] at hb'
    simp [parked,rcase,scase] at hb'
   ·have:=hR c v z sh ga ha'.symm b _ hb'
    rw [offersAt_parked_recv] at this
    simp at this
  ·rcases get b _ hb with ⟨eb,hb'⟩ | ⟨hnb,hb'⟩
   ·have:=(hS c z' sh' gb hb'.symm).2 a _ ha'
    rw [offersAt_parked_send] at this
    simp at this
   ·exact h.dy.slp a b ga gb c v z z' sh sh' ha' hb'
 ·rcases get k _ hk with ⟨_,e⟩ | ⟨_,hk'⟩
  ·exact (hS c z sh g e.symm).1
  ·exact h.dy.slpC k g c z sh hk'
 ·rcases get 0 z hz with ⟨e,_⟩ | ⟨_,hk'⟩
  ·exact hW e.symm hph
  ·exact h.dy.slpW z hk' hph hb
end
end Go.Mt
namespace Go.Mt
open Go.Conc
open Go.ConcR (KK wgBlock WgAt stA smA rd wr)
section
variable {L : Type} {P : Program} {ty : TypeId} {Wg : Nat} {A : Proto L} {Fin : Goroutine -> World -> Prop} {Shun : Loc -> Prop}
variable {gs gs' : Array Goroutine} {w w' : World} {t t' : Trace} {T T' : Nat -> Td L} {ch ch' : Chs} {sl : Option (Nat × Nat)} {i j : Nat} {x g' : Goroutine} {es : Array Event}
theorem evs_none (i : Nat) (fn : FuncId) (pos : String) : MemOp.ofEvents i fn pos #[] = #[]:=rfl
theorem partners_stand {c : Nat} {b : Bool} (h : ∀ (k : Nat) (y : Goroutine),gs[k]? = some y -> offersAt y c b = []) : partners (gs.setIfInBounds i Conc.ph) c b = []:=by
 refine partners_nil λ k y hk => ?_
 rcases getElem?_stand gs i k y hk with ⟨_,rfl⟩ | ⟨_,hk'⟩
 ·rfl
 ·exact h k y hk'
theorem partners_stand1 {c k : Nat} {b : Bool} {y : Goroutine} (hki : k ≠ i) (hk : gs[k]? = some y) (ho : offersAt y c b = [0]) (h : ∀ (m : Nat) (z : Goroutine),m ≠ k -> gs[m]? = some z -> offersAt z c b = []) : partners (gs.setIfInBounds i Conc.ph) c b = [(k,0)]:=by
 rw [partners_one (stand_get hki hk) λ m z hm hz => ?_,ho]
 ·rfl
 ·rcases getElem?_stand gs i m z hz with ⟨_,rfl⟩ | ⟨_,hz'⟩
  ·rfl
  ·exact h m z hm hz'
theorem Inv.send (hA : A.Ok) (h : Inv P ty Wg A Fin Shun gs w t T ch) (hi : gs[i]? = some x) (haw : Awake x (T i).g) {ι : Type} {f : ι -> Rk} (hr : (T i).r = .inr (.mk ι f)) {l : L} (hl : (T i).ph = .usr l) {c : Nat} {ok : Value -> Prop} {pub : Value -> List Nat} {nx : Value -> L}
  (ha : A.act l = .send c ok pub nx) (hB : AtUsr P ty Wg A (λ m ph d τ g w => ∃ k,Beh P ty Wg A Fin (f k) m ph d τ g w) (i == 0) l (Deaf t i) (T i).τ (T i).g w) : Res P ty Wg A Fin Shun gs w t T sl i:=by
 have hlt : i < gs.size:=(Array.getElem?_eq_some_iff.1 hi).1
 unfold AtUsr at hB
 rw [ha] at hB
 obtain ⟨hof,v,z,τ',h1,h2,h3,h4,h4',h5,h6⟩:=hB
 have hp : (λ k => (T k).ph.proj) i = .run l:=by show (T i).ph.proj = _; rw [hl]; rfl
 have hcf:=hA.sendC _ ch i l c ok pub nx h.st.inv hp ha
 obtain ⟨_,s,r,hc⟩:=h.st.chan c _ hcf
 have hstep : stepG P (i == 0) x w = .comm (T i).g #[scase c v z] true .send w #[]:=by rw [haw.step]; exact h1 w Suf.refl
 by_cases hk : ∃ (k : Nat) (y : Goroutine),gs[k]? = some y /\ offersAt y c false ≠ []
 ·obtain ⟨k,y,hk,hne⟩:=hk
  have hki : k ≠ i:=λ e => by
   subst e
   rw [hi] at hk; cases hk
   exact hne (offersAt_of_not_blocked (by rw [haw.1]; simp) c false)
  have hklt : k < gs.size:=(Array.getElem?_eq_some_iff.1 hk).1
  obtain ⟨lk,ok',nx',sh,zk,b,hlk,hak,rfl,hsk⟩:=h.offerR hk hne
  have hpk : (λ k => (T k).ph.proj) k = .run lk:=by show (T k).ph.proj = _; rw [hlk]; rfl
  have hpar : partners (gs.setIfInBounds i Conc.ph) c false = [(k,0)]:=by
   refine partners_stand1 hki hk (by rw [offersAt_parked_recv]; simp) λ m y' hm hy' => Classical.byContradiction λ hn => ?_
   obtain ⟨lm,okm,nxm,sm,_,_,hlm,ham,_⟩:=h.offerR hy' hn
   exact hm (hA.recv1 _ ch m k lm lk c okm nxm sm ok' nx' sh h.st.inv (by show (T m).ph.proj = _; rw [hlm]; rfl) hpk ham hak)
  have hmeet:=crowd_send_meets (P:=P) (sl:=sl) hi hstep hc hki hk hpar
  have hs:=h.dy.sit k _ hk
  rw [sits_stays (by rw [hlk]; exact id)] at hs
  obtain ⟨rk,hrk,hBk,_⟩:=hs
  cases rk with
  | mk ιk fk =>
   obtain ⟨_,hBk⟩:=hBk
   rw [hlk] at hBk
   rcases hBk with hBk | hBk
   ·rcases hBk w Suf.refl with ⟨g',w',es,hst,_⟩ | ⟨cs,sh',v',wm,w',es,hst,_⟩
    ·rw [hsk w Suf.refl] at hst; cases hst
    ·rw [hsk w Suf.refl] at hst; cases hst
   ·simp only [AtPh,AtUsr,hak] at hBk
    obtain ⟨_,z',b',hk1,hk2,hk3⟩:=hBk
    have e:=(hk1 w Suf.refl).symm.trans (hsk w Suf.refl)
    simp only [GStep.comm.injEq,rcase,Array.mk.injEq,List.cons.injEq,CommCase.mk.injEq,CommShape.recv.injEq,true_and,and_true] at e
    obtain ⟨_,eb⟩:=e
    subst eb
    obtain ⟨T',ch',hI,hmu⟩:=h.meet hA (Ne.symm hki) hlt hklt hl ha hlk hak hr hrk (v:=v) (τ':=τ') (b:=b') h2 h3 h4 h4' h5 h6 (λ hv => hk2 v hv) hc
     (gs':=(gs.setIfInBounds k (Conc.served (T k).g (recvd b' v true))).setIfInBounds i (Conc.served (T i).g undef)) (by simp) (by simp [hlt]) (by rw [Array.getElem?_setIfInBounds_ne (Ne.symm hki)]; simp [hklt])
     (λ m h1 h2 => by rw [Array.getElem?_setIfInBounds_ne (Ne.symm h1),Array.getElem?_setIfInBounds_ne (Ne.symm h2)])
     (u:=#[{ g:=i,fn:=(T i).g.frame.fn,pos:=(T i).g.frame.place,act:=.send c s },{ g:=k,fn:=(T k).g.frame.fn,pos:=(T k).g.frame.place,act:=.recv c r 0 },{ g:=i,fn:=(T i).g.frame.fn,pos:=(T i).g.frame.place,act:=.sendDone c s },{ g:=k,fn:=(T k).g.frame.fn,pos:=(T k).g.frame.place,act:=.recvDone c r }])
     (λ op hop => by
      have hclt : c < w.heap.size:=(Array.getElem?_eq_some_iff.1 hc).1
      simp only [List.mem_toArray,List.mem_cons,List.not_mem_nil,or_false] at hop
      rcases hop with rfl | rfl | rfl | rfl <;> exact ⟨by first | exact hlt | exact hklt,rfl,by simp,hclt,by simp,by simp⟩)
    rw [finishComm_recv,finishComm_send,evs_none,Array.empty_append] at hmeet
    exact ⟨_,_,hmeet,.inr ⟨_,_,sl,T',ch',rfl,hI,hmu⟩⟩
 ·have hno : ∀ (k : Nat) (y : Goroutine),gs[k]? = some y -> offersAt y c false = []:=λ k y hky => Classical.byContradiction λ hn => hk ⟨k,y,hky,hn⟩
  have hwait:=crowd_waits (P:=P) (sl:=sl) hi hstep (λ cc hcc => by
   simp only [List.mem_toArray,List.mem_cons,List.not_mem_nil,or_false] at hcc
   subst hcc
   exact ways_send_none hc (Nat.zero_le _) (partners_stand hno))
  have hp:=h.park hi haw.1 (by rw [hl]; exact id) (y:=parked (T i).g #[scase c v z] .send) rfl (.inl ⟨l,_,_,hl,rfl,h1,.inl ⟨c,ok,pub,nx,v,z,ha,rfl,rfl⟩⟩) (λ e e2 => by subst e; rw [hl] at e2; cases e2)
   (λ c' v' z' sh' g' e => by
    simp only [parked,Goroutine.mk.injEq,Option.some.injEq,Prod.mk.injEq,Array.mk.injEq,List.cons.injEq,scase,CommCase.mk.injEq,Value.chan.injEq,and_true,true_and] at e
    obtain ⟨_,_,_,⟨e,_⟩,_⟩:=e
    subst e; exact hno)
   (λ c' z' sh' g' e => by simp [parked,scase,rcase] at e)
  exact ⟨_,_,hwait,.inr ⟨_,_,sl,T,ch,rfl,hp.1,hp.2⟩⟩
theorem Inv.recv (hA : A.Ok) (h : Inv P ty Wg A Fin Shun gs w t T ch) (hi : gs[i]? = some x) (haw : Awake x (T i).g) {ι : Type} {f : ι -> Rk} (hr : (T i).r = .inr (.mk ι f)) {l : L} (hl : (T i).ph = .usr l) {c : Nat} {ok : Value -> Prop} {nx : Value -> L} {sh : L}
  (ha : A.act l = .recv c ok nx sh) (hB : AtUsr P ty Wg A (λ m ph d τ g w => ∃ k,Beh P ty Wg A Fin (f k) m ph d τ g w) (i == 0) l (Deaf t i) (T i).τ (T i).g w) : Res P ty Wg A Fin Shun gs w t T sl i:=by
 have hlt : i < gs.size:=(Array.getElem?_eq_some_iff.1 hi).1
 unfold AtUsr at hB
 rw [ha] at hB
 obtain ⟨hof,z,b,h1,h2,h3⟩:=hB
 have hp : (λ k => (T k).ph.proj) i = .run l:=by show (T i).ph.proj = _; rw [hl]; rfl
 obtain ⟨cl,hcl⟩:=hA.recvC _ ch i l c ok nx sh h.st.inv hp ha
 obtain ⟨hcW,s,r,hc⟩:=h.st.chan c _ hcl
 have hclt : c < w.heap.size:=(Array.getElem?_eq_some_iff.1 hc).1
 have hstep : stepG P (i == 0) x w = .comm (T i).g #[rcase c z] true (.recv b) w #[]:=by rw [haw.step]; exact h1 w Suf.refl
 cases cl with
 | true =>
  have hno : ∀ (k : Nat) (y : Goroutine),gs[k]? = some y -> offersAt y c true = []:=λ k y hky => Classical.byContradiction λ hn => by
   obtain ⟨lk,okk,pubk,nxk,_,_,hlk,hak,_⟩:=h.offerS hky hn
   have:=hA.sendC _ ch k lk c okk pubk nxk h.st.inv (by show (T k).ph.proj = _; rw [hlk]; rfl) hak
   rw [hcl] at this; cases this
  have hrun:=crowd_recv_closed (P:=P) (sl:=sl) hi hstep hc (partners_stand hno)
  rw [finishComm_recv,evs_none,Array.empty_append] at hrun
  obtain ⟨hcl0,hinv⟩:=hA.shut _ ch i l c ok nx sh h.st.inv hp ha hcl
  obtain ⟨k,hk⟩:=h3 hcl0
  have hgrp:=Grp.usr (l:=l) h.st.grp hl hlt (hA.pendR l sh c undef ok nx sh ha (.inr rfl))
  have hS:=h.st.phase (r:=.inr (f k)) (g':=Conc.served (T i).g (recvd b z false)) (by rw [hl]; simp) hlt (Go.Conc.Aside.refl _ _) (.usr sh) (by simp) (λ _ => trivial) (λ _ e => e) id (λ l' e => by simp [Ph.proj] at e) hgrp hinv
  have hsz : (gs.setIfInBounds i (Conc.served (T i).g (recvd b z false))).size = gs.size:=by simp
  have hdf : ∀ k,Deaf (t ++ (#[{ g:=i,fn:=(T i).g.frame.fn,pos:=(T i).g.frame.place,act:=.recvClosed c }] : Trace)) k = Deaf t k:=λ k => deaf_still t k _ λ op hop => by
   simp only [List.mem_toArray,List.mem_cons,List.not_mem_nil,or_false] at hop
   subst hop; exact ⟨by simp,by simp⟩
  refine ⟨_,_,hrun,.inr ⟨gs.setIfInBounds i (Conc.served (T i).g (recvd b z false)),w,sl,upd T i ⟨.usr sh,.inr (f k),(T i).τ,Conc.served (T i).g (recvd b z false)⟩,ch,rfl,⟨by rw [hsz]; exact hS,?_⟩,?_⟩⟩
  ·show Dyn _ _ (t ++ (#[{ g:=i,fn:=(T i).g.frame.fn,pos:=(T i).g.frame.place,act:=.recvClosed c }] : Trace)) _ _ _
   refine h.dy.gen (λ k' => k' = i) (λ k' hk' => ⟨by rw [Array.getElem?_setIfInBounds_ne (Ne.symm hk')],upd_ne _ _ hk'⟩) (λ k' y hk' hy => ?_) (λ _ _ => Suf.refl) (λ k' _ => hdf k') (λ _ e => e) id ?_
   ·subst hk'
    rw [Array.getElem?_setIfInBounds_self_of_lt hlt] at hy
    cases hy
    refine ⟨by simp [Conc.served],?_⟩
    rw [upd_same,hdf]
    exact (sits_stays (T:=⟨.usr sh,.inr (f k),(T k').τ,Conc.served (T k').g (recvd b z false)⟩) id).2 ⟨f k,rfl,hk,.inl (Awake.self rfl)⟩
   ·rw [hsz]
    have h0:=h.dy.tr.phase (i:=i) (ph':=.usr sh) (.inr (f k)) (Conc.served (T i).g (recvd b z false)) ⟨λ _ => by rw [hl]; trivial,λ _ => trivial⟩
    exact h0.idles [{ g:=i,fn:=(T i).g.frame.fn,pos:=(T i).g.frame.place,act:=.recvClosed c }] λ op hop => by
     simp only [List.mem_cons,List.not_mem_nil,or_false] at hop
     subst hop; exact ⟨hlt,rfl,by simp,hclt⟩
  ·exact mu_dec (i:=i) (λ _ => hsz) (by omega) hlt (by omega) (by rw [upd_same,hr]; exact .inr (.mk f k)) λ k' hk' => by rw [upd_ne _ _ (by omega)]
 | false =>
  by_cases hk : ∃ (k : Nat) (y : Goroutine),gs[k]? = some y /\ offersAt y c true ≠ []
  ·obtain ⟨k,y,hk,hne⟩:=hk
   have hki : k ≠ i:=λ e => by
    subst e
    rw [hi] at hk; cases hk
    exact hne (offersAt_of_not_blocked (by rw [haw.1]; simp) c true)
   have hklt : k < gs.size:=(Array.getElem?_eq_some_iff.1 hk).1
   obtain ⟨lk,ok',pub',nx',v,zk,hlk,hak,rfl,hsk⟩:=h.offerS hk hne
   have hpk : (λ k => (T k).ph.proj) k = .run lk:=by show (T k).ph.proj = _; rw [hlk]; rfl
   have hpar : partners (gs.setIfInBounds i Conc.ph) c true = [(k,0)]:=by
    refine partners_stand1 hki hk (by rw [offersAt_parked_send]; simp) λ m y' hm hy' => Classical.byContradiction λ hn => ?_
    obtain ⟨lm,okm,pubm,nxm,_,_,hlm,ham,_⟩:=h.offerS hy' hn
    exact hm (hA.send1 _ ch m k lm lk c okm pubm nxm ok' pub' nx' h.st.inv (by show (T m).ph.proj = _; rw [hlm]; rfl) hpk ham hak)
   have hmeet:=crowd_recv_meets (P:=P) (sl:=sl) hi hstep hc hki hk hpar
   have hs:=h.dy.sit k _ hk
   rw [sits_stays (by rw [hlk]; exact id)] at hs
   obtain ⟨rk,hrk,hBk,_⟩:=hs
   cases rk with
   | mk ιk fk =>
    obtain ⟨_,hBk⟩:=hBk
    rw [hlk] at hBk
    rcases hBk with hBk | hBk
    ·rcases hBk w Suf.refl with ⟨g',w',es,hst,_⟩ | ⟨cs,sh',v',wm,w',es,hst,_⟩
     ·rw [hsk w Suf.refl] at hst; cases hst
     ·rw [hsk w Suf.refl] at hst; cases hst
    ·simp only [AtPh,AtUsr,hak] at hBk
     obtain ⟨_,v',z',τ',hk1,hk2,hk3,hk4,hk4',hk5,hk6⟩:=hBk
     have e:=(hk1 w Suf.refl).symm.trans (hsk w Suf.refl)
     simp only [GStep.comm.injEq,scase,Array.mk.injEq,List.cons.injEq,CommCase.mk.injEq,Option.some.injEq,true_and,and_true] at e
     obtain ⟨ev,_⟩:=e
     subst ev
     obtain ⟨T',ch',hI,hmu⟩:=h.meet hA hki hklt hlt hlk hak hl ha hrk hr (v:=v') (τ':=τ') (b:=b) hk2 hk3 hk4 hk4' hk5 hk6 (λ hv => h2 v' hv) hc
      (gs':=(gs.setIfInBounds k (Conc.served (T k).g undef)).setIfInBounds i (Conc.served (T i).g (recvd b v' true))) (by simp) (by rw [Array.getElem?_setIfInBounds_ne (Ne.symm hki)]; simp [hklt]) (by simp [hlt])
      (λ m h1 h2 => by rw [Array.getElem?_setIfInBounds_ne (Ne.symm h2),Array.getElem?_setIfInBounds_ne (Ne.symm h1)])
      (u:=#[{ g:=k,fn:=(T k).g.frame.fn,pos:=(T k).g.frame.place,act:=.send c s },{ g:=i,fn:=(T i).g.frame.fn,pos:=(T i).g.frame.place,act:=.recv c r 0 },{ g:=k,fn:=(T k).g.frame.fn,pos:=(T k).g.frame.place,act:=.sendDone c s },{ g:=i,fn:=(T i).g.frame.fn,pos:=(T i).g.frame.place,act:=.recvDone c r }])
      (λ op hop => by
       simp only [List.mem_toArray,List.mem_cons,List.not_mem_nil,or_false] at hop
       rcases hop with rfl | rfl | rfl | rfl <;> exact ⟨by first | exact hlt | exact hklt,rfl,by simp,hclt,by simp,by simp⟩)
     rw [finishComm_recv,finishComm_send,evs_none,Array.empty_append] at hmeet
     exact ⟨_,_,hmeet,.inr ⟨_,_,sl,T',ch',rfl,hI,hmu⟩⟩
  ·have hno : ∀ (k : Nat) (y : Goroutine),gs[k]? = some y -> offersAt y c true = []:=λ k y hky => Classical.byContradiction λ hn => hk ⟨k,y,hky,hn⟩
   have hwait:=crowd_waits (P:=P) (sl:=sl) hi hstep (λ cc hcc => by
    simp only [List.mem_toArray,List.mem_cons,List.not_mem_nil,or_false] at hcc
    subst hcc
    exact ways_recv_none hc (partners_stand hno))
   have hp:=h.park hi haw.1 (by rw [hl]; exact id) (y:=parked (T i).g #[rcase c z] (.recv b)) rfl (.inl ⟨l,_,_,hl,rfl,h1,.inr ⟨c,ok,nx,sh,z,b,ha,rfl,rfl⟩⟩) (λ e e2 => by subst e; rw [hl] at e2; cases e2)
    (λ c' v' z' sh' g' e => by simp [parked,scase,rcase] at e)
    (λ c' z' sh' g' e => by
     simp only [parked,Goroutine.mk.injEq,Option.some.injEq,Prod.mk.injEq,Array.mk.injEq,List.cons.injEq,rcase,CommCase.mk.injEq,Value.chan.injEq,and_true,true_and] at e
     obtain ⟨_,_,_,⟨e,_⟩,_⟩:=e
     subst e; exact ⟨(by rw [hcl]; simp),hno⟩)
   exact ⟨_,_,hwait,.inr ⟨_,_,sl,T,ch,rfl,hp.1,hp.2⟩⟩
theorem Inv.close (hA : A.Ok) (h : Inv P ty Wg A Fin Shun gs w t T ch) (hi : gs[i]? = some x) (haw : Awake x (T i).g) {ι : Type} {f : ι -> Rk} (hr : (T i).r = .inr (.mk ι f)) {l : L} (hl : (T i).ph = .usr l) {c : Nat} {nx : L}
  (ha : A.act l = .close c nx) (hB : AtUsr P ty Wg A (λ m ph d τ g w => ∃ k,Beh P ty Wg A Fin (f k) m ph d τ g w) (i == 0) l (Deaf t i) (T i).τ (T i).g w) : Res P ty Wg A Fin Shun gs w t T sl i:=by
 have hlt : i < gs.size:=(Array.getElem?_eq_some_iff.1 hi).1
 unfold AtUsr at hB
 rw [ha] at hB
 obtain ⟨hmw,hpas,h1⟩:=hB
 have hp : (λ k => (T k).ph.proj) i = .run l:=by show (T i).ph.proj = _; rw [hl]; rfl
 obtain ⟨hcf,hinv⟩:=hA.close _ ch i l c nx h.st.inv hp ha
 obtain ⟨hcW,s,r,hc⟩:=h.st.chan c _ hcf
 have hclt : c < w.heap.size:=(Array.getElem?_eq_some_iff.1 hc).1
 obtain ⟨g',hst,hrun',k,hk⟩:=h1 w Suf.refl s r hc
 have a:=aside_chan w c 0 #[] true s r false
 have hS:=h.st.close hlt hcf a hl (.inr (f k)) g' (l':=nx) ⟨s,r,setChan_at w c 0 #[] true s r false hclt⟩ (Grp.usr (l:=l) h.st.grp hl hlt (hA.pendX l c nx ha)) hinv
 have nc : ∀ k,¬ (T k).τ.own c /\ ¬ (T k).τ.still c:=λ k => ⟨λ e => (by have:=(h.st.bnd k c (.inl e)).2.2; rw [hcf] at this; cases this),λ e => (by have:=(h.st.bnd k c (.inr e)).2.2; rw [hcf] at this; cases this)⟩
 have hd : deafBehind (Deaf t i) (closeEvents c) = Deaf t i:=deafBehind_still (λ e he => by
  simp only [closeEvents,List.mem_toArray,List.mem_cons,List.not_mem_nil,or_false] at he
  rcases he with rfl | rfl <;> exact ⟨by simp,by simp⟩) _
 have hmx : mayWake P x = true:=by rw [<- hmw]; unfold mayWake; rw [haw.2.1]
 have hti : upd T i ⟨.usr nx,.inr (f k),(T i).τ,g'⟩ i = ⟨.usr nx,.inr (f k),(T i).τ,g'⟩:=upd_same _ _ _
 refine goRes hi h.st.n0 (Ti:=⟨.usr nx,.inr (f k),(T i).τ,g'⟩) (by rw [haw.step]; exact hst) (by rw [hr]; exact .inr (.mk f k)) hS ?_
 refine h.dy.go hi (by rw [hd]; exact (sits_stays (T:=⟨.usr nx,.inr (f k),(T i).τ,g'⟩) id).2 ⟨f k,rfl,hk,.inl (Awake.self hrun')⟩) (by rw [hrun']; simp) (λ j _ => Suf.of_aside a (nc j) (live_aside a hcW)) ?_
  (h.dy.keepW λ e => (a.block Wg (Ne.symm hcW)).symm.trans e) ?_
 ·intro j gj c' z sh hj hwk e
  by_cases hcc : c' = c
  ·subst hcc
   unfold woken at hwk
   rw [hmx,hrun'] at hwk
   have:=again_recv_closed (g:=gj) (z:=z) (sh:=sh) (setChan_at w c' 0 #[] true s r false hclt)
   simp only [Bool.true_and] at hwk
   rw [if_pos (by rfl),this] at hwk
   have : (GoStatus.running : GoStatus) = .blocked:=by
    have h2:=congrArg Goroutine.status hwk
    simp [parked] at h2
   cases this
  ·rw [upd_ne _ _ hcc] at e
   exact h.dy.slpC j gj c' z sh hj e
 ·refine hS.tiEvents hlt (by rw [hti]; trivial) _ _ ?_ λ e he => ?_
  ·have:=h.dy.tr.phase (i:=i) (ph':=.usr nx) (.inr (f k)) g' ⟨λ _ => by rw [hl]; trivial,λ _ => trivial⟩
   rwa [a.size]
  ·rw [hti]
   simp only [closeEvents,List.mem_toArray,List.mem_cons,List.not_mem_nil,or_false] at he
   rw [a.size]
   rcases he with rfl | rfl
   ·refine ⟨λ y hy => ?_,by simp [MemAct.ofEvent],hclt⟩
    simp only [MemAct.ofEvent,MemAct.touch?,Option.some.injEq] at hy
    subst hy
    exact .inl ⟨c,hcW,rfl,.inr ⟨.inr hpas,rfl⟩⟩
   ·exact ⟨λ y hy => by simp [MemAct.ofEvent,MemAct.touch?] at hy,by simp [MemAct.ofEvent],hclt⟩
theorem Inv.spawn (hA : A.Ok) (h : Inv P ty Wg A Fin Shun gs w t T ch) (hi : gs[i]? = some x) (haw : Awake x (T i).g) {ι : Type} {f : ι -> Rk} (hr : (T i).r = .inr (.mk ι f)) {l : L} (hl : (T i).ph = .usr l) {pub : List Nat} {lc nx : L}
  (ha : A.act l = .spawn pub lc nx) (hB : AtUsr P ty Wg A (λ m ph d τ g w => ∃ k,Beh P ty Wg A Fin (f k) m ph d τ g w) (i == 0) l (Deaf t i) (T i).τ (T i).g w) : Res P ty Wg A Fin Shun gs w t T sl i:=by
 unfold AtUsr at hB
 rw [ha] at hB
 obtain ⟨hd,h1⟩:=hB
 have hp : (λ k => (T k).ph.proj) i = .run l:=by show (T i).ph.proj = _; rw [hl]; rfl
 obtain ⟨rfl,hp1,hp2,hinv⟩:=hA.spawn _ ch i l pub lc nx gs.size h.st.inv hp ha
 obtain ⟨g',child,τm,τc,hst,hrm,hrc,ho,hs,hps,hs1,hs2,hpub,⟨km,hkm⟩,⟨kc,hkc⟩⟩:=h1 w Suf.refl
 have hn:=h.st.n0
 have hinv':=hinv (by show (T gs.size).ph.proj = _; rw [h.st.out _ (Nat.le_refl _)]; rfl) (by omega) λ a hpa => (h.st.bnd 0 a (.inl (hpub a hpa).1)).2.2
 have hS:=h.st.fork hl hp1 hp2 (.inr (f km)) (.inr (f kc)) g' child τm τc pub ho hs hps hs1 hs2 hpub hinv'
 have hrun:=runT_crowd_spawn (P:=P) (sl:=sl) hi (show stepG P (0 == 0) x w = _ by rw [haw.step]; exact hst)
 have hsz : ((gs.setIfInBounds 0 g').push child).size = gs.size + 1:=by simp
 generalize hU : upd (upd T 0 ⟨.usr nx,.inr (f km),τm,g'⟩) gs.size ⟨.usr lc,.inr (f kc),τc,child⟩ = U at hS
 have u0 : U 0 = ⟨.usr nx,.inr (f km),τm,g'⟩:=by rw [<- hU,upd_ne _ _ (by omega),upd_same]
 have un : U gs.size = ⟨.usr lc,.inr (f kc),τc,child⟩:=by rw [<- hU,upd_same]
 have uk : ∀ k,k ≠ 0 -> k ≠ gs.size -> U k = T k:=λ k h1 h2 => by rw [<- hU,upd_ne _ _ h2,upd_ne _ _ h1]
 have hops : ((MemOp.ofEvents 0 x.frame.fn x.frame.place #[]).push { g:=0,fn:=x.frame.fn,pos:=x.frame.place,act:=.go gs.size } |>.push { g:=gs.size,fn:=child.frame.fn,pos:=x.frame.place,act:=.start })
   = #[{ g:=0,fn:=x.frame.fn,pos:=x.frame.place,act:=.go gs.size },{ g:=gs.size,fn:=child.frame.fn,pos:=x.frame.place,act:=.start }]:=rfl
 rw [hops] at hrun
 have hdf : ∀ k,Deaf (t ++ (#[{ g:=0,fn:=x.frame.fn,pos:=x.frame.place,act:=.go gs.size },{ g:=gs.size,fn:=child.frame.fn,pos:=x.frame.place,act:=.start }] : Trace)) k = Deaf t k:=λ k => deaf_still t k _ λ op hop => by
  simp only [List.mem_toArray,List.mem_cons,List.not_mem_nil,or_false] at hop
  rcases hop with rfl | rfl <;> exact ⟨by simp,by simp⟩
 refine ⟨_,_,hrun,.inr ⟨(gs.setIfInBounds 0 g').push child,w,sl,U,ch.opn pub,rfl,⟨by rw [hsz]; exact hS,h.dy.gen (λ k => k = 0 \/ gs.size <= k) (λ k hk => ?_) (λ k y hk hy => ?_) (λ _ _ => Suf.refl) (λ k _ => hdf k) (λ c hc => ?_) id ?_⟩,?_⟩⟩
 ·have hk1 : k ≠ 0:=λ e => hk (.inl e)
  have hk2 : k < gs.size:=Nat.lt_of_not_le λ e => hk (.inr e)
  refine ⟨?_,uk k hk1 (by omega)⟩
  rw [Array.getElem?_push,Array.size_setIfInBounds,if_neg (by omega),Array.getElem?_setIfInBounds_ne (Ne.symm hk1)]
 ·rw [Array.getElem?_push,Array.size_setIfInBounds] at hy
  rcases hk with rfl | hk
  ·rw [if_neg (by omega),Array.getElem?_setIfInBounds_self_of_lt hn] at hy
   cases hy
   refine ⟨by rw [hrm]; simp,?_⟩
   rw [u0,hdf,hd]
   exact (sits_stays (T:=⟨.usr nx,.inr (f km),τm,g'⟩) id).2 ⟨f km,rfl,hkm,.inl (Awake.self hrm)⟩
  ·by_cases hk' : k = gs.size
   ·subst hk'
    rw [if_pos rfl] at hy
    cases hy
    refine ⟨by rw [hrc]; simp,?_⟩
    rw [un,hdf,h.dy.tr.above _ (Nat.le_refl _)]
    have e0 : (gs.size == 0) = false:=beq_eq_false_iff_ne.2 (by omega)
    exact (sits_stays (T:=⟨.usr lc,.inr (f kc),τc,child⟩) id).2 ⟨f kc,rfl,by rw [e0]; exact hkc,.inl (Awake.self hrc)⟩
   ·rw [if_neg hk',Array.getElem?_eq_none (by simp; omega)] at hy
    cases hy
 ·by_cases hcp : c ∈ pub
  ·rw [opn_in hcp] at hc; cases hc
  ·rw [opn_out hcp] at hc; exact hc
 ·rw [hsz]
  refine h.dy.tr.fork (live':=λ k => (U k).ph.live) (by show (T 0).ph.live; rw [hl]; trivial) hn ⟨rfl,rfl⟩ ⟨rfl,rfl⟩ hd (λ k => ?_) (by show ¬ (T gs.size).ph.live; rw [h.st.out _ (Nat.le_refl _)]; exact id) (λ k b hk hk0 hb => ?_) (λ k b hk hk0 hb => ?_) (λ b hb => ?_) λ b hb => ?_
  ·show (U k).ph.live ↔ (T k).ph.live \/ k = gs.size
   by_cases k1 : k = 0
   ·subst k1; rw [u0,hl]; exact ⟨λ _ => .inl trivial,λ _ => trivial⟩
   ·by_cases k2 : k = gs.size
    ·subst k2; rw [un]; exact ⟨λ _ => .inr rfl,λ _ => trivial⟩
    ·rw [uk k k1 k2]; exact ⟨λ e => .inl e,λ e => e.resolve_right k2⟩
  ·have hk2 : k ≠ gs.size:=λ e => by
    subst e
    have : (T gs.size).ph.live:=hk
    rw [h.st.out _ (Nat.le_refl _)] at this; exact this
   rw [uk k hk0 hk2] at hb; exact hb
  ·have hk2 : k ≠ gs.size:=λ e => by
    subst e
    have : (T gs.size).ph.live:=hk
    rw [h.st.out _ (Nat.le_refl _)] at this; exact this
   rw [uk k hk0 hk2] at hb; exact hb
  ·rw [u0,un] at hb; exact ho b hb
  ·rw [u0,un] at hb
   have : (T 0).τ.pass b \/ (T 0).τ.own b \/ (T 0).τ.still b:=by
    rcases hb with (e | e) | (e | e)
    ·exact (hs b (.inl e)).elim (λ z => .inr (.inr z)) λ z => .inr (.inl z)
    ·exact hps b (.inl e)
    ·exact (hs b (.inr e)).elim (λ z => .inr (.inr z)) λ z => .inr (.inl z)
    ·exact hps b (.inr e)
   rcases this with e | e | e
   ·exact .inr (.inr e)
   ·exact .inl e
   ·exact .inr (.inl e)
 ·exact mu_dec (i:=0) (λ e => absurd rfl e) (by rw [hsz]; omega) hn (by rw [hsz]; omega) (by rw [u0,hr]; exact .inr (.mk f km)) λ k hk => by omega
theorem Inv.commG (hA : A.Ok) {K : Bool -> Ph L -> Nat -> Terr -> Goroutine -> World -> Prop} (h : Inv P ty Wg A Fin Shun gs w t T ch) (hi : gs[i]? = some x) (haw : Awake x (T i).g) (hl : (T i).ph.live) {ι : Type} {f : ι -> Rk} (hr : (T i).r = .inr (.mk ι f))
  (hK : ∀ m ph d τ g w,K m ph d τ g w -> ∃ k,Beh P ty Wg A Fin (f k) m ph d τ g w) (ho : CommG P Wg K (i == 0) (T i).ph (Deaf t i) (T i).τ (T i).g w) : Res P ty Wg A Fin Shun gs w t T sl i:=by
 have hlt : i < gs.size:=(Array.getElem?_eq_some_iff.1 hi).1
 obtain ⟨cs,sh,v,wm,w',es,hst,hcm,hown,hsz,hg,hes,hk⟩:=ho
 obtain ⟨k,hB⟩:=hK _ _ _ _ _ _ hk
 have hnl : ¬ (T i).ph.leaves:=λ e => by cases hp : (T i).ph <;> rw [hp] at e hl <;> first | exact e.elim | exact hl.elim
 have hS:=h.st.grow hl hg (.inr (f k)) (Conc.served (T i).g v)
 have hnp : Tt.NoPartner (gs.setIfInBounds i Conc.ph) cs.toList:=by
  intro c hc r hcr b
  have hno : ∀ b',ch r ≠ some b':=by
   intro b' e
   rcases hown c hc r hcr with z | z
   ·have:=(h.st.bnd i r (.inl z)).2.2
    rw [this] at e; cases e
   ·obtain ⟨_,s,rr,hh⟩:=h.st.chan r b' e
    have:=(Array.getElem?_eq_some_iff.1 hh).1
    omega
  refine partners_stand λ m y hm => Classical.byContradiction λ hne => ?_
  cases b with
  | true =>
   obtain ⟨lk,okk,pubk,nxk,_,_,hlk,hak,_⟩:=h.offerS hm hne
   obtain e:=(hA.sendC _ ch m _ _ _ _ _ h.st.inv (show (T m).ph.proj = .run _ by rw [hlk]; rfl) hak)
   exact hno _ e
  | false =>
   obtain ⟨lk,okk,nxk,sk,_,_,hlk,hak,_⟩:=h.offerR hm hne
   obtain ⟨bb,e⟩:=(hA.recvC _ ch m _ _ _ _ _ h.st.inv (show (T m).ph.proj = .run _ by rw [hlk]; rfl) hak)
   exact hno _ e
 have hstep : stepG P (i == 0) x w = .comm (T i).g cs false sh wm es:=by rw [haw.step]; exact hst
 obtain ⟨ops,hcom,hops⟩:=Tt.communicate_own (rest:=(crowd gs w sl).rest) (i:=i) (g:=(T i).g) hnp hcm
 have hrun:=runT_crowd_comm (P:=P) (sl:=sl) hi hstep
 rw [hcom] at hrun
 have hset : (gs.setIfInBounds i Conc.ph).setIfInBounds i { (T i).g with frame:=(T i).g.frame.finish v,status:=.running,offers:=none } = gs.setIfInBounds i (Conc.served (T i).g v):=by
  simp [Conc.served]
 have hdeaf : ∀ j,j ≠ i -> Deaf (t ++ (MemOp.ofEvents i x.frame.fn x.frame.place es ++ ops)) j = Deaf t j:=λ j hj => by
  refine Deaf_other t (g':=i) (Ne.symm hj) _ λ op hop => ?_
  rcases Array.mem_append.1 hop with hop | hop
  ·obtain ⟨l⟩:=es
   rw [ofEvents_eq] at hop
   simp at hop
   obtain ⟨e,_,rfl⟩:=hop
   rfl
  ·exact (hops op hop).1
 have hquiet : ∀ op ∈ ops,op.act ≠ .mark .disable /\ op.act ≠ .mark .enable:=λ op hop => by
  have:=(hops op hop).2
  cases ha : op.act <;> rw [ha] at this <;> first | exact this.elim | exact ⟨by simp,by simp⟩
 have hdi : Deaf (t ++ (MemOp.ofEvents i x.frame.fn x.frame.place es ++ ops)) i = deafBehind (Deaf t i) es:=by
  rw [<- Array.append_assoc,deaf_still _ _ _ hquiet,Deaf_own]
 have hp : ∀ j,(upd T i ⟨(T i).ph,.inr (f k),(T i).τ.grow w w',Conc.served (T i).g v⟩ j).ph = (T j).ph:=λ j => by
  by_cases hj : j = i
  ·subst hj; simp [upd_same]
  ·simp [upd_ne _ _ hj]
 have hti : upd T i ⟨(T i).ph,.inr (f k),(T i).τ.grow w w',Conc.served (T i).g v⟩ i = ⟨(T i).ph,.inr (f k),(T i).τ.grow w w',Conc.served (T i).g v⟩:=upd_same _ _ _
 have hsz' : (gs.setIfInBounds i (Conc.served (T i).g v)).size = gs.size:=by simp
 refine ⟨_,_,hrun,.inr ⟨gs.setIfInBounds i (Conc.served (T i).g v),w',sl,upd T i ⟨(T i).ph,.inr (f k),(T i).τ.grow w w',Conc.served (T i).g v⟩,ch,?_,⟨by rw [hsz']; exact hS,?_⟩,?_⟩⟩
 ·rw [hset]; rfl
 ·refine h.dy.gen (λ j => j = i) (λ j hj => ⟨by rw [Array.getElem?_setIfInBounds_ne (Ne.symm hj)],upd_ne _ _ hj⟩) (λ j y hj hy => ?_) (λ j hj => h.st.suf hg hj) (λ j hj => hdeaf j hj) (λ c hc => hc)
   (λ e => (hg.keep Wg h.st.grp.live.lt λ e => ((h.st.bnd i Wg (.inl e)).2.1 rfl)).symm.trans e) ?_
  ·subst hj
   rw [Array.getElem?_setIfInBounds_self_of_lt hlt] at hy
   cases hy
   refine ⟨by simp [Conc.served],?_⟩
   rw [hdi,hti]
   exact (sits_stays (T:=⟨(T j).ph,.inr (f k),(T j).τ.grow w w',Conc.served (T j).g v⟩) hnl).2 ⟨f k,rfl,hB,.inl (Awake.self rfl)⟩
  ·rw [hsz',<- Array.append_assoc]
   have h1:=hS.tiEvents (es:=es) (t:=t) (Shun:=Shun) hlt (by rw [hp]; exact hl) x.frame.fn x.frame.place (by
    have e3 : (λ k' => (upd T i ⟨(T i).ph,.inr (f k),(T i).τ.grow w w',Conc.served (T i).g v⟩ k').ph.live) = λ k' => (T k').ph.live:=funext λ j => by rw [hp]
    rw [e3]
    refine h.dy.tr.less (λ k' b _ hb => ?_) (λ k' b _ hb => ?_) hg.size
    ·by_cases hj : k' = i
     ·subst hj; rw [upd_same] at hb; exact hb.imp id (·.1)
     ·rw [upd_ne _ _ hj] at hb; exact .inl hb
    ·by_cases hj : k' = i
     ·subst hj; rw [upd_same] at hb; exact .inl hb
     ·rw [upd_ne _ _ hj] at hb; exact .inl hb) (λ e he => by
    rw [hti]
    refine okL_evT (hes e he) (λ b hb => .inl hb) (λ b hb => ?_) (by have:=h.st.grp.live.lt; have:=hg.size; omega)
    have:=hS.bnd i b (by rw [hti]; exact hb)
    exact ⟨this.1,this.2.1⟩)
   obtain ⟨l⟩:=ops
   refine TI.idles l h1 λ op hop => ?_
   obtain ⟨e1,e2⟩:=hops op (by simpa using hop)
   have : op.act.touch? = none /\ op.act ≠ .mark (.release (stA Wg)) /\ op.act.low w'.heap.size:=by
    cases ha : op.act <;> rw [ha] at e2 <;> first | exact e2.elim | exact ⟨rfl,by simp,Nat.lt_of_lt_of_le e2 hsz⟩
   exact ⟨by rw [e1]; exact hlt,this⟩
 ·exact mu_dec (i:=i) (λ _ => hsz') (by have:=h.st.n0; omega) hlt (by omega) (by rw [upd_same,hr]; exact .inr (.mk f k)) λ j hj => by rw [upd_ne _ _ (by omega)]
theorem Inv.own1 (hA : A.Ok) {K : Bool -> Ph L -> Nat -> Terr -> Goroutine -> World -> Prop} (h : Inv P ty Wg A Fin Shun gs w t T ch) (hi : gs[i]? = some x) (haw : Awake x (T i).g) (hl : (T i).ph.live) {ι : Type} {f : ι -> Rk} (hr : (T i).r = .inr (.mk ι f))
  (hK : ∀ m ph d τ g w,K m ph d τ g w -> ∃ k,Beh P ty Wg A Fin (f k) m ph d τ g w) (ho : Own1 P ty Wg K (i == 0) (T i).ph (Deaf t i) (T i).τ (T i).g w) : Res P ty Wg A Fin Shun gs w t T sl i:=by
 rcases ho w Suf.refl with x | x
 ·exact h.ownG hi haw hl hr hK x
 ·exact h.commG hA hi haw hl hr hK x
end
end Go.Mt
namespace Go.Mt
open Go.Conc
open Go.ConcR (KK wgBlock WgAt stA smA rd wr)
section
variable {L : Type} {P : Program} {ty : TypeId} {Wg : Nat} {A : Proto L} {Fin : Goroutine -> World -> Prop} {Shun : Loc -> Prop}
variable {gs gs' : Array Goroutine} {w w' : World} {t t' : Trace} {T T' : Nat -> Td L} {ch ch' : Chs} {sl : Option (Nat × Nat)} {i j : Nat} {x g' : Goroutine} {es : Array Event}
def okRow (Wg B : Nat) : Nat -> List Event -> Prop
 | _,[] => True
 | d,e :: es => ((e.mute = true \/ (∃ a b,e = ⟨.cell a,b,true⟩ /\ a.block = Wg /\ 0 < d)) /\ Wg < B) /\ okRow Wg B (deafBehind d #[e]) es
theorem okRow_all {B : Nat} : ∀ {es : List Event} {d : Nat},okRow Wg B d es -> ∀ (l r : List Event) (e : Event),es = l ++ e :: r -> (∀ a,(MemAct.ofEvent e).touch? = some a -> onB a.loc Wg /\ a.kind = .atomic /\ 0 < deafBehind d l.toArray) /\ MemAct.ofEvent e ≠ .mark (.release (stA Wg)) /\ (MemAct.ofEvent e).low B
 | [],d,_,l,r,e,he => by simp at he
 | y :: es,d,h,[],r,e,he => by
  simp only [List.nil_append,List.cons.injEq] at he
  obtain ⟨rfl,rfl⟩:=he
  obtain ⟨⟨hm | ⟨a,b,rfl,ha,hd⟩,hW⟩,_⟩:=h
  ·exact mute_row (n:=0) (d:=d) (es:=#[y]) (λ e he => by simp at he; rw [he]; exact hm) [] [] y rfl
  ·refine ⟨λ z hz => ?_,by simp [MemAct.ofEvent],by simpa [MemAct.ofEvent,MemAct.low,Loc.low,ha] using hW⟩
   simp only [MemAct.ofEvent,MemAct.touch?,Option.some.injEq] at hz
   subst hz
   exact ⟨ha,rfl,hd⟩
 | y :: es,d,h,z :: l,r,e,he => by
  simp only [List.cons_append,List.cons.injEq] at he
  obtain ⟨rfl,he⟩:=he
  have:=okRow_all h.2 l r e he
  refine ⟨λ a ha => ?_,this.2⟩
  rw [Go.ConcR.deafBehind_cons]
  exact this.1 a ha
theorem st_set {v wt : Nat} {a b : Int} (h : WgAt ty Wg w a b) : WgAt ty Wg (w.setCell (stA Wg) (st v wt)) ((v : Int) * KK + wt) b:=Go.ConcR.WgAt.setSt h _
theorem sm_set {a b : Int} (h : WgAt ty Wg w a b) (c : Int) : WgAt ty Wg (w.setCell (smA Wg) (.int .u32 c)) a c:=Go.ConcR.WgAt.setSm h c
theorem asideSt (w : World) (v : Value) : Go.Conc.Aside Wg w (w.setCell (stA Wg) v):=aside_setCell w (stA Wg) v
theorem asideSm (w : World) (v : Value) : Go.Conc.Aside Wg w (w.setCell (smA Wg) v):=aside_setCell w (smA Wg) v
theorem deaf_ev (d : Nat) {es : Array Event} (h : ∀ e ∈ es,e.loc ≠ .mark .disable /\ e.loc ≠ .mark .enable) : deafBehind d es = d:=deafBehind_still h d
theorem deaf_rd (d : Nat) (a : Addr) : deafBehind d #[rd a] = d:=deaf_ev d (λ e he => by simp at he; subst he; exact ⟨by simp [rd],by simp [rd]⟩)
theorem deaf_wr (d : Nat) (a : Addr) : deafBehind d #[wr a] = d:=deaf_ev d (λ e he => by simp at he; subst he; exact ⟨by simp [wr],by simp [wr]⟩)
theorem deaf_rw (d : Nat) (a : Addr) : deafBehind d #[rd a,wr a] = d:=deaf_ev d (λ e he => by
 simp only [List.mem_toArray,List.mem_cons,List.not_mem_nil,or_false] at he
 rcases he with rfl | rfl <;> exact ⟨by simp [rd,wr],by simp [rd,wr]⟩)
theorem deaf_sem (d : Nat) (a : Addr) : deafBehind d (semEvents a) = d:=by
 simp [deafBehind,semEvents]
theorem vv_main (p : Nat -> Ph L) (n : Nat) (ph' : Ph L) (h : ph'.waits) : vv A (upd p 0 ph') n = cnt p n:=by
 unfold vv pnd
 rw [cnt_upd0,upd_same]
 cases ph' <;> first | exact h.elim | rfl
theorem vv_w (p : Nat -> Ph L) (n : Nat) (h : (p 0).waits) : vv A p n = cnt p n:=by
 have:=vv_main (A:=A) p n (p 0) h
 rwa [upd_self] at this
theorem nolast_main {p : Nat -> Ph L} {ph' : Ph L} (h : ∀ i,¬ (p i).last) (h' : ¬ ph'.last) : ∀ i,¬ (upd p 0 ph' i).last:=λ i => by
 by_cases hi : i = 0
 ·subst hi; rw [upd_same]; exact h'
 ·rw [upd_ne _ _ hi]; exact h i
theorem cnt_pre {p : Nat -> Ph L} : ∀ {n : Nat},cnt p n = 0 -> ∀ j,j < n -> j ≠ 0 -> (p j).pre = false
 | n + 1,h,j,hj,h0 => by
  simp only [cnt] at h
  by_cases hjn : j = n
  ·subst hjn
   cases hp : (p j).pre
   ·rfl
   ·simp [h0,hp] at h
  ·exact cnt_pre (n:=n) (by omega) j (by omega) h0
theorem Inv.vlt (hA : A.Ok) (h : Inv P ty Wg A Fin Shun gs w t T ch) : vv A (λ j => (T j).ph) gs.size < 2000000000:=
 Nat.lt_of_le_of_lt (vv_le_num A _ _ h.st.n0) (hA.few _ ch h.st.inv _)
theorem okRW {own pas : Nat -> Prop} {k B : Nat} (hW : Wg < B) {a : Addr} (ha : a.block = Wg) : ∀ e ∈ (#[rd a,wr a] : Array Event),OkL Wg own pas k B e:=by
 intro e he
 simp only [List.mem_toArray,List.mem_cons,List.not_mem_nil,or_false] at he
 rcases he with rfl | rfl <;> exact okL_group ha hW
theorem okR {own pas : Nat -> Prop} {k B : Nat} (hW : Wg < B) {a : Addr} (ha : a.block = Wg) : ∀ e ∈ (#[rd a] : Array Event),OkL Wg own pas k B e:=by
 intro e he
 simp only [List.mem_toArray,List.mem_cons,List.not_mem_nil,or_false] at he
 subst he; exact okL_group ha hW
theorem okSem {own pas : Nat -> Prop} {k B : Nat} (hW : Wg < B) {a : Addr} (ha : a.block = Wg) : ∀ e ∈ semEvents a,OkL Wg own pas k B e:=by
 intro e he
 simp only [semEvents,List.mem_toArray,List.mem_cons,List.not_mem_nil,or_false] at he
 rcases he with rfl | rfl | rfl | rfl
 ·exact okL_mute rfl
 ·exact okL_group ha hW
 ·exact okL_group ha hW
 ·exact okL_mute rfl
theorem proj_self_upd (T : Nat -> Td L) {ph' : Ph L} (h : ph'.proj = (T i).ph.proj) : upd (λ j => (T j).ph.proj) i ph'.proj = λ j => (T j).ph.proj:=by rw [h]; exact upd_self (λ j => (T j).ph.proj) i
theorem Inv.add (hA : A.Ok) (h : Inv P ty Wg A Fin Shun gs w t T ch) (hi : gs[i]? = some x) (haw : Awake x (T i).g) {ι : Type} {f : ι -> Rk} (hr : (T i).r = .inr (.mk ι f)) {l : L} (hl : (T i).ph = .usr l) {nx : L}
  (ha : A.act l = .add nx) (hB : AtUsr P ty Wg A (λ m ph d τ g w => ∃ k,Beh P ty Wg A Fin (f k) m ph d τ g w) (i == 0) l (Deaf t i) (T i).τ (T i).g w) : Res P ty Wg A Fin Shun gs w t T sl i:=by
 unfold AtUsr at hB
 rw [ha] at hB
 have hp : (λ k => (T k).ph.proj) i = .run l:=by show (T i).ph.proj = _; rw [hl]; rfl
 obtain ⟨rfl,hp1,hp2,hinv⟩:=hA.add _ ch i l nx h.st.inv hp ha
 have hg:=h.st.grp
 unfold Grp at hg
 simp only [hl] at hg
 have hv:=h.vlt hA
 obtain ⟨g',hst,hrun',k,hk⟩:=hB w Suf.refl _ (by omega) hg.1
 have hv0 : vv A (λ j => (T j).ph) gs.size = cnt (λ j => (T j).ph) gs.size:=by unfold vv pnd; simp only [hl,hp1]; rfl
 have hv1 : vv A (upd (λ j => (T j).ph) 0 (.usr nx)) gs.size = cnt (λ j => (T j).ph) gs.size + 1:=by unfold vv pnd; rw [cnt_upd0,upd_same]; simp [hp2]
 have hW1:=st_set (v:=vv A (λ j => (T j).ph) gs.size + 1) (wt:=0) hg.1
 refine h.alive hi haw hst hrun' hr (by rw [hl]; trivial) (ph':=.usr nx) trivial (asideSt _ _) (λ _ => ⟨_,_,hW1⟩) ⟨k,by rw [deaf_rw]; exact hk⟩ (λ e => absurd rfl e) ?_ hinv (λ e => by have:=(Go.ConcR.WgAt.unique e hW1).2; omega) (okRW (by rw [(asideSt w _).size]; exact h.st.grp.live.lt) rfl)
 unfold Grp
 rw [upd_same]
 refine ⟨?_,nolast_main hg.2 id⟩
 rw [hv1,<- hv0]
 simpa using hW1
theorem Inv.look (hA : A.Ok) (h : Inv P ty Wg A Fin Shun gs w t T ch) (hi : gs[0]? = some x) (haw : Awake x (T 0).g) {ι : Type} {f : ι -> Rk} (hr : (T 0).r = .inr (.mk ι f)) (hpl : (∃ b,(T 0).ph = .w1 b) \/ ∃ l,(T 0).ph = .usr l /\ A.act l = .wait)
  (hB : ∀ w₁,Suf ty Wg (T 0).τ w w₁ -> ∀ v : Nat,(∀ b,(T 0).ph = .w1 b -> v < b) -> v < 2147483648 -> WgAt ty Wg w₁ (v * KK) 0 -> ∃ g',stepG P true (T 0).g w₁ = .go g' w₁ #[rd (stA Wg)] /\ g'.status = .running /\
   (v = 0 -> ∃ k,Beh P ty Wg A Fin (f k) true .w5 (Deaf t 0) (T 0).τ g' w₁) /\ (v ≠ 0 -> ∃ k,Beh P ty Wg A Fin (f k) true (.w2 v) (Deaf t 0) (T 0).τ g' w₁)) : Res P ty Wg A Fin Shun gs w t T sl 0:=by
 have hv:=h.vlt hA
 have hg : WgAt ty Wg w (vv A (λ j => (T j).ph) gs.size * KK) 0 /\ ∀ i,¬ (T i).ph.last:=by
  have hg:=h.st.grp
  unfold Grp at hg
  rcases hpl with ⟨b,e⟩ | ⟨l,e,_⟩ <;> simp only [e] at hg
  ·exact ⟨hg.1,hg.2.1⟩
  ·exact hg
 have hgb : ∀ b,(T 0).ph = .w1 b -> vv A (λ j => (T j).ph) gs.size < b:=λ b e => by
  have hg:=h.st.grp
  unfold Grp at hg
  simp only [e] at hg
  exact hg.2.2
 have hlive : (T 0).ph.live:=h.st.role0
 have hvc : vv A (λ j => (T j).ph) gs.size = cnt (λ j => (T j).ph) gs.size:=by
  rcases hpl with ⟨b,e⟩ | ⟨l,e,ha⟩
  ·exact vv_w _ _ (by show (T 0).ph.waits; rw [e]; trivial)
  ·have:=(hA.wait _ ch 0 l h.st.inv (by show (T 0).ph.proj = _; rw [e]; rfl) ha).2.1
   unfold vv pnd; simp only [e,this]; rfl
 have hinv : A.Inv (upd (λ j => (T j).ph.proj) 0 .waits) ch:=by
  rcases hpl with ⟨b,e⟩ | ⟨l,e,ha⟩
  ·have:=proj_self_upd T (i:=0) (ph':=.w1 b) (by rw [e])
   rw [show (Ph.w1 b : Ph L).proj = .waits from rfl] at this
   rw [this]; exact h.st.inv
  ·exact (hA.wait _ ch 0 l h.st.inv (by show (T 0).ph.proj = _; rw [e]; rfl) ha).2.2
 obtain ⟨g',hst,hrun',h0,h1⟩:=hB w Suf.refl _ hgb (by omega) hg.1
 by_cases hz : vv A (λ j => (T j).ph) gs.size = 0
 ·obtain ⟨k,hk⟩:=h0 hz
  refine h.alive hi haw hst hrun' hr hlive (ph':=.w5) trivial (Go.Conc.Aside.refl _ _) id ⟨k,by rw [deaf_rd]; exact hk⟩ (λ e => absurd rfl e) ?_ hinv id (okR h.st.grp.live.lt rfl)
  unfold Grp
  rw [upd_same]
  refine ⟨by rw [vv_main _ _ .w5 trivial,<- hvc]; exact hz,nolast_main hg.2 id,?_⟩
  have:=hg.1
  rw [hz] at this
  simpa using this
 ·obtain ⟨k,hk⟩:=h1 hz
  refine h.alive hi haw hst hrun' hr hlive (ph':=.w2 (vv A (λ j => (T j).ph) gs.size)) trivial (Go.Conc.Aside.refl _ _) id ⟨k,by rw [deaf_rd]; exact hk⟩ (λ e => absurd rfl e) ?_ hinv id (okR h.st.grp.live.lt rfl)
  unfold Grp
  rw [upd_same]
  refine ⟨?_,nolast_main hg.2 id,?_,Nat.pos_of_ne_zero hz⟩
  ·rw [vv_main _ _ (.w2 _) trivial,<- hvc]; exact hg.1
  ·rw [vv_main _ _ (.w2 _) trivial,<- hvc]; exact Nat.le_refl _
theorem invW (h : Inv P ty Wg A Fin Shun gs w t T ch) {ph' : Ph L} (hw : (T 0).ph.waits) (hw' : ph'.waits) : A.Inv (upd (λ j => (T j).ph.proj) 0 ph'.proj) ch:=by
 rw [proj_self_upd T]
 ·exact h.st.inv
 ·cases hp : (T 0).ph <;> rw [hp] at hw <;> first | exact hw.elim | (cases ph' <;> first | exact hw'.elim | rfl)
theorem Inv.cas (hA : A.Ok) (h : Inv P ty Wg A Fin Shun gs w t T ch) (hi : gs[0]? = some x) (haw : Awake x (T 0).g) {ι : Type} {f : ι -> Rk} (hr : (T 0).r = .inr (.mk ι f)) {vs : Nat} (hpl : (T 0).ph = .w2 vs)
  (hB : AtPh P ty Wg A Fin (λ m ph d τ g w => ∃ k,Beh P ty Wg A Fin (f k) m ph d τ g w) true (.w2 vs) (Deaf t 0) (T 0).τ (T 0).g w) : Res P ty Wg A Fin Shun gs w t T sl 0:=by
 have hv:=h.vlt hA
 have hg:=h.st.grp
 unfold Grp at hg
 simp only [hpl] at hg
 obtain ⟨h1,h2,h3,h4⟩:=hg
 have hwt : (T 0).ph.waits:=by rw [hpl]; trivial
 have hvc : vv A (λ j => (T j).ph) gs.size = cnt (λ j => (T j).ph) gs.size:=vv_w _ _ hwt
 have hlive : (T 0).ph.live:=h.st.role0
 obtain ⟨ha,hb⟩:=hB w Suf.refl _ (by omega) h1
 rcases Nat.lt_or_ge (vv A (λ j => (T j).ph) gs.size) vs with hlt | hge
 ·obtain ⟨g',hst,hrun',k,hk⟩:=hb hlt
  refine h.alive hi haw hst hrun' hr hlive (ph':=.w1 vs) trivial (Go.Conc.Aside.refl _ _) id ⟨k,by rw [deaf_rd]; exact hk⟩ (λ e => absurd rfl e) ?_ (invW h hwt trivial) id (okR h.st.grp.live.lt rfl)
  unfold Grp
  rw [upd_same]
  exact ⟨by rw [vv_main _ _ (.w1 vs) trivial,<- hvc]; exact h1,nolast_main h2 id,by rw [vv_main _ _ (.w1 vs) trivial,<- hvc]; exact hlt⟩
 ·obtain ⟨g',hst,hrun',k,hk⟩:=ha (by omega)
  have hW1:=st_set (v:=vv A (λ j => (T j).ph) gs.size) (wt:=1) h1
  refine h.alive hi haw hst hrun' hr hlive (ph':=.w3) trivial (asideSt _ _) (λ _ => ⟨_,_,hW1⟩) ⟨k,by rw [deaf_rw]; exact hk⟩ (λ e => absurd rfl e) ?_ (invW h hwt trivial) (λ e => by have:=(Go.ConcR.WgAt.unique e hW1).2; omega) (okRW (by rw [(asideSt w _).size]; exact h.st.grp.live.lt) rfl)
  unfold Grp
  rw [upd_same]
  refine .inl ⟨?_,?_,nolast_main h2 id⟩
  ·rw [vv_main _ _ .w3 trivial,<- hvc]; omega
  ·rw [vv_main _ _ .w3 trivial,<- hvc]; exact hW1
theorem Inv.sleep (hA : A.Ok) (h : Inv P ty Wg A Fin Shun gs w t T ch) (hi : gs[0]? = some x) (haw : Awake x (T 0).g) {ι : Type} {f : ι -> Rk} (hr : (T 0).r = .inr (.mk ι f)) (hpl : (T 0).ph = .w3)
  (hB : AtPh P ty Wg A Fin (λ m ph d τ g w => ∃ k,Beh P ty Wg A Fin (f k) m ph d τ g w) true .w3 (Deaf t 0) (T 0).τ (T 0).g w) : Res P ty Wg A Fin Shun gs w t T sl 0:=by
 have hg:=h.st.grp
 unfold Grp at hg
 simp only [hpl] at hg
 have hwt : (T 0).ph.waits:=by rw [hpl]; trivial
 have hvc : vv A (λ j => (T j).ph) gs.size = cnt (λ j => (T j).ph) gs.size:=vv_w _ _ hwt
 have hlive : (T 0).ph.live:=h.st.role0
 obtain ⟨ho,hB⟩:=hB
 obtain ⟨ha,hb⟩:=hB w Suf.refl
 have hcase : (∃ x,WgAt ty Wg w x 0) \/ (vv A (λ j => (T j).ph) gs.size = 0 /\ (∀ i,¬ (T i).ph.last) /\ WgAt ty Wg w 0 1):=by
  rcases hg with ⟨_,h1,_⟩ | ⟨_,_,_,_,⟨_,h1⟩ | ⟨_,h1⟩⟩ | h1
  ·exact .inl ⟨_,h1⟩
  ·exact .inl ⟨_,h1⟩
  ·exact .inl ⟨_,h1⟩
  ·exact .inr h1
 rcases hcase with h0 | ⟨h1,h2,h3⟩
 ·have hst:=ha h0
  have hstep : stepG P (0 == 0) x w = .go { (T 0).g with status:=.blocked } w #[]:=by rw [show ((0 : Nat) == 0) = true from rfl,haw.step]; exact hst
  have hrun:=runT_crowd_go (sl:=sl) hi hstep
  have ew : woken P x { (T 0).g with status:=.blocked } w = id:=by
   funext o; simp [woken]
  rw [ew,Array.map_id,evs_none] at hrun
  obtain ⟨y,hy⟩:=h0
  have hp:=h.park hi haw.1 (by rw [hpl]; exact id) (y:={ (T 0).g with status:=.blocked }) rfl (.inr ⟨hpl,rfl,ho⟩) (λ _ _ e => by have:=(Go.ConcR.WgAt.unique e hy).2; omega)
   (λ c v z sh g e => by
    have:=congrArg Goroutine.offers e
    simp [parked,ho] at this)
   (λ c z sh g e => by
    have:=congrArg Goroutine.offers e
    simp [parked,ho] at this)
  exact ⟨_,_,hrun,.inr ⟨_,_,sl,T,ch,rfl,hp.1,hp.2⟩⟩
 ·obtain ⟨g',hst,hrun',k,hk⟩:=hb h3
  have hW1:=sm_set h3 0
  refine h.alive hi haw hst hrun' hr hlive (ph':=.w4) trivial (asideSm _ _) (λ _ => ⟨_,_,hW1⟩) ⟨k,by rw [deaf_sem]; exact hk⟩ (λ e => absurd rfl e) ?_ (invW h hwt trivial) (λ e => by have:=(Go.ConcR.WgAt.unique e hW1).2; omega) (okSem (by rw [(asideSm w _).size]; exact h.st.grp.live.lt) rfl)
  unfold Grp
  rw [upd_same]
  exact ⟨by rw [vv_main _ _ .w4 trivial,<- hvc]; exact h1,nolast_main h2 id,hW1⟩
theorem Inv.woke (hA : A.Ok) (h : Inv P ty Wg A Fin Shun gs w t T ch) (hi : gs[0]? = some x) (haw : Awake x (T 0).g) {ι : Type} {f : ι -> Rk} (hr : (T 0).r = .inr (.mk ι f)) (hpl : (T 0).ph = .w4)
  (hB : AtPh P ty Wg A Fin (λ m ph d τ g w => ∃ k,Beh P ty Wg A Fin (f k) m ph d τ g w) true .w4 (Deaf t 0) (T 0).τ (T 0).g w) : Res P ty Wg A Fin Shun gs w t T sl 0:=by
 have hg:=h.st.grp
 unfold Grp at hg
 simp only [hpl] at hg
 have hwt : (T 0).ph.waits:=by rw [hpl]; trivial
 have hvc : vv A (λ j => (T j).ph) gs.size = cnt (λ j => (T j).ph) gs.size:=vv_w _ _ hwt
 obtain ⟨g',hst,hrun',k,hk⟩:=hB w Suf.refl hg.2.2
 refine h.alive hi haw hst hrun' hr h.st.role0 (ph':=.w5) trivial (Go.Conc.Aside.refl _ _) id ⟨k,by rw [deaf_rd]; exact hk⟩ (λ e => absurd rfl e) ?_ (invW h hwt trivial) id (okR h.st.grp.live.lt rfl)
 unfold Grp
 rw [upd_same]
 exact ⟨by rw [vv_main _ _ .w5 trivial,<- hvc]; exact hg.1,nolast_main hg.2.1 id,hg.2.2⟩
theorem Inv.fin (hA : A.Ok) (h : Inv P ty Wg A Fin Shun gs w t T ch) (hi : gs[0]? = some x) (haw : Awake x (T 0).g) {ι : Type} {f : ι -> Rk} (hr : (T 0).r = .inr (.mk ι f)) (hpl : (T 0).ph = .w5)
  (hB : AtPh P ty Wg A Fin (λ m ph d τ g w => ∃ k,Beh P ty Wg A Fin (f k) m ph d τ g w) true .w5 (Deaf t 0) (T 0).τ (T 0).g w) : Res P ty Wg A Fin Shun gs w t T sl 0:=by
 have hg:=h.st.grp
 unfold Grp at hg
 simp only [hpl] at hg
 obtain ⟨h1,h2,h3⟩:=hg
 have hvc : vv A (λ j => (T j).ph) gs.size = cnt (λ j => (T j).ph) gs.size:=vv_w _ _ (by show (T 0).ph.waits; rw [hpl]; trivial)
 have hlv : ∀ j,j ≠ 0 -> (T j).ph.leaves:=by
  intro j hj
  rcases Nat.lt_or_ge j gs.size with hlt | hge
  ·have e1:=cnt_pre (p:=λ j => (T j).ph) (by rw [<- hvc]; exact h1) j hlt hj
   have e2:=h2 j
   have e3:=h.st.role j hj
   cases hp : (T j).ph <;> simp only [hp] at e1 e2 e3 <;> first | trivial | (simp [Ph.pre] at e1; done) | exact absurd trivial e2 | exact absurd trivial e3
  ·rw [h.st.out j hge]; trivial
 obtain ⟨hd,hB⟩:=hB
 have hw0 : (λ j => (T j).ph.proj) 0 = .waits:=by show (T 0).ph.proj = _; rw [hpl]; rfl
 have hnr : ∀ (j : Nat) (l : L),(λ j => (T j).ph.proj) j ≠ .run l:=λ j l e => by
  have e' : (T j).ph.proj = .run l:=e
  by_cases hj : j = 0
  ·subst hj; rw [hpl] at e'; cases e'
  ·have:=hlv j hj
   cases hp : (T j).ph <;> rw [hp] at e' this <;> first | exact this.elim | cases e'
 obtain ⟨g',hst,hrun',hF⟩:=hB w Suf.refl ⟨λ j => (T j).ph.proj,ch,h.st.inv,hw0,hnr,λ j l e => h.st.depo j l e w Suf.refl⟩
 exact h.acquire hi haw hst hrun' hd hlv hF
theorem Inv.dec (hA : A.Ok) (h : Inv P ty Wg A Fin Shun gs w t T ch) (hi : gs[i]? = some x) (haw : Awake x (T i).g) {ι : Type} {f : ι -> Rk} (hr : (T i).r = .inr (.mk ι f)) {l : L} (hpl : (T i).ph = .rel l)
  (hB : AtPh P ty Wg A Fin (λ m ph d τ g w => ∃ k,Beh P ty Wg A Fin (f k) m ph d τ g w) (i == 0) (.rel l) (Deaf t i) (T i).τ (T i).g w) : Res P ty Wg A Fin Shun gs w t T sl i:=by
 have hlt : i < gs.size:=(Array.getElem?_eq_some_iff.1 hi).1
 have hv:=h.vlt hA
 have h0 : i ≠ 0:=λ e => by subst e; have:=h.st.role0; rw [hpl] at this; exact this
 have hnl : ¬ (T i).ph.live:=by rw [hpl]; exact id
 have hng : (T i).ph ≠ .gone:=by rw [hpl]; simp
 have hWs : Wg < w.heap.size:=h.st.grp.live.lt
 have key : ∀ ph' : Ph L,ph'.pre = false -> vv A (upd (λ j => (T j).ph) i ph') gs.size + 1 = vv A (λ j => (T j).ph) gs.size:=by
  intro ph' hp
  have:=cnt_upd (λ j => (T j).ph) (i:=i) (n:=gs.size) ph' hlt h0
  unfold vv
  rw [pnd_upd_ne A _ h0]
  rw [hp] at this
  simp only [hpl,Ph.pre,if_true,Bool.false_eq_true,if_false] at this
  omega
 have k1:=key (.quit l) rfl
 have k2:=key (.l1 l) rfl
 have nolastQ : (∀ j,¬ (T j).ph.last) -> ∀ j,¬ (upd (λ j => (T j).ph) i (.quit l) j).last:=λ hn j => by
  by_cases hj : j = i
  ·subst hj; rw [upd_same]; exact id
  ·rw [upd_ne _ _ hj]; exact hn j
 have hrow : ∀ e : 0 < Deaf t i,∀ B,Wg < B -> okRow Wg B (Deaf t i) [rd (stA Wg),wr (stA Wg)]:=λ e B hB =>
  ⟨⟨.inr ⟨stA Wg,false,rfl,rfl,e⟩,hB⟩,⟨.inr ⟨stA Wg,true,rfl,rfl,by rw [deaf_rd]; exact e⟩,hB⟩,trivial⟩
 have u0 : upd (λ j => (T j).ph) i (.quit l) 0 = (T 0).ph:=upd_ne _ _ (Ne.symm h0)
 have u1 : upd (λ j => (T j).ph) i (.l1 l) 0 = (T 0).ph:=upd_ne _ _ (Ne.symm h0)
 have quit : ∀ (v wt : Nat),wt <= 1 -> WgAt ty Wg w ((v + 1 : Nat) * KK + wt) 0 -> vv A (λ j => (T j).ph) gs.size = v + 1 -> ¬ (v = 0 /\ wt = 1) ->
   Grp A ty Wg (upd (λ j => (T j).ph) i (.quit l)) gs.size (w.setCell (stA Wg) (Mt.st v wt)) -> Res P ty Wg A Fin Shun gs w t T sl i:=by
  intro v wt hwt hW hvv hne hgrp
  obtain ⟨g',hst,hrun',hd,_,hq⟩:=hB w Suf.refl v wt hwt (by omega) hW
  obtain ⟨q,hQ⟩:=hq hne
  have hW1:=st_set (v:=v) (wt:=wt) hW
  exact h.dead hi haw hst (by rw [hrun']; simp) (Ti:=⟨.quit l,.inl q,(T i).τ,g'⟩) (by rw [hr]; exact .sep _ _) rfl hnl hng h0 id (by simp) (asideSt _ _) (λ _ => ⟨_,_,hW1⟩)
   ((sits_leaves (T:=⟨.quit l,.inl q,(T i).τ,g'⟩) trivial).2 ⟨q,rfl,by rw [deaf_rw]; exact hQ⟩) (by rw [hpl]; rfl) hgrp (.inr λ e => by have:=(Go.ConcR.WgAt.unique e hW1).2; omega) (okRow_all (hrow hd _ (by rw [(asideSt w _).size]; exact hWs)))
 have hg:=h.st.grp
 unfold Grp at hg
 have norm : ∀ v : Nat,((v : Int) * KK) = ((v : Nat) : Int) * KK + ((0 : Nat) : Int):=λ v => by simp
 have pos : 0 < vv A (λ j => (T j).ph) gs.size:=by omega
 obtain ⟨v,hvv⟩ : ∃ v,vv A (λ j => (T j).ph) gs.size = v + 1:=⟨_,(Nat.succ_pred_eq_of_pos pos).symm⟩
 have e1 : vv A (upd (λ j => (T j).ph) i (.quit l)) gs.size = v:=by omega
 have e2 : vv A (upd (λ j => (T j).ph) i (.l1 l)) gs.size = v:=by omega
 cases hp0 : (T 0).ph with
 | gone => have:=h.st.role0; rw [hp0] at this; exact this.elim
 | rel _ => have:=h.st.role0; rw [hp0] at this; exact this.elim
 | l1 _ => have:=h.st.role0; rw [hp0] at this; exact this.elim
 | l2 _ => have:=h.st.role0; rw [hp0] at this; exact this.elim
 | l3 _ => have:=h.st.role0; rw [hp0] at this; exact this.elim
 | quit _ => have:=h.st.role0; rw [hp0] at this; exact this.elim
 | usr l0 =>
  simp only [hp0] at hg
  rw [hvv] at hg
  refine quit v 0 (by omega) (by simpa using hg.1) hvv (by omega) ?_
  unfold Grp; rw [u0,hp0]; simp only
  exact ⟨by rw [e1]; simpa using st_set (v:=v) (wt:=0) hg.1,nolastQ hg.2⟩
 | w1 b =>
  simp only [hp0] at hg
  rw [hvv] at hg
  refine quit v 0 (by omega) (by simpa using hg.1) hvv (by omega) ?_
  unfold Grp; rw [u0,hp0]; simp only
  exact ⟨by rw [e1]; simpa using st_set (v:=v) (wt:=0) hg.1,nolastQ hg.2.1,by omega⟩
 | w2 vs =>
  simp only [hp0] at hg
  rw [hvv] at hg
  refine quit v 0 (by omega) (by simpa using hg.1) hvv (by omega) ?_
  unfold Grp; rw [u0,hp0]; simp only
  exact ⟨by rw [e1]; simpa using st_set (v:=v) (wt:=0) hg.1,nolastQ hg.2.1,by omega,hg.2.2.2⟩
 | w4 => simp only [hp0] at hg; omega
 | w5 => simp only [hp0] at hg; omega
 | w3 =>
  simp only [hp0] at hg
  rcases hg with ⟨_,hW,hn⟩ | ⟨hz,_⟩ | ⟨hz,_⟩
  ·rw [hvv] at hW
   have hW' : WgAt ty Wg w ((v + 1 : Nat) * KK + (1 : Nat)) 0:=by simpa using hW
   by_cases hv0 : v = 0
   ·obtain ⟨g',hst,hrun',hd,hk,_⟩:=hB w Suf.refl v 1 (by omega) (by omega) hW'
    obtain ⟨k,hk⟩:=hk ⟨hv0,rfl⟩
    have hW1:=st_set (v:=v) (wt:=1) hW'
    refine h.dead hi haw hst (by rw [hrun']; simp) (Ti:=⟨.l1 l,.inr (f k),(T i).τ,g'⟩) (by rw [hr]; exact .inr (.mk f k)) rfl hnl hng h0 id (by simp) (asideSt _ _) (λ _ => ⟨_,_,hW1⟩)
     ((sits_stays (T:=⟨.l1 l,.inr (f k),(T i).τ,g'⟩) id).2 ⟨f k,rfl,by rw [deaf_rw]; exact hk,.inl (Awake.self hrun')⟩) (by rw [hpl]; rfl) ?_ (.inr λ e => by have:=(Go.ConcR.WgAt.unique e hW1).2; omega) (okRow_all (hrow hd _ (by rw [(asideSt w _).size]; exact hWs)))
    unfold Grp; rw [u1,hp0]; simp only
    refine .inr (.inl ⟨by omega,i,l,λ j hj => ?_,.inl ⟨.inl (upd_same _ _ _),?_⟩⟩)
    ·by_cases hji : j = i
     ·exact hji
     ·rw [upd_ne _ _ hji] at hj; exact absurd hj (hn j)
    ·subst hv0; simpa using hW1
   ·refine quit v 1 (by omega) hW' hvv (by omega) ?_
    unfold Grp; rw [u0,hp0]; simp only
    exact .inl ⟨by omega,by rw [e1]; simpa using st_set (v:=v) (wt:=1) hW',nolastQ hn⟩
  ·omega
  ·omega
theorem Inv.lastGrp (h : Inv P ty Wg A Fin Shun gs w t T ch) (hl : (T i).ph.last) : (T 0).ph = .w3 /\ vv A (λ j => (T j).ph) gs.size = 0 /\ (∀ j,(T j).ph.last -> j = i) /\ ((∃ l,((T i).ph = .l1 l \/ (T i).ph = .l2 l)) /\ WgAt ty Wg w 1 0 \/ (∃ l,(T i).ph = .l3 l) /\ WgAt ty Wg w 0 0):=by
 have hg:=h.st.grp
 unfold Grp at hg
 have h0:=h.st.role0
 cases hp0 : (T 0).ph <;> simp only [hp0] at hg h0 <;> first | exact h0.elim | exact absurd hl (hg.2 i) | exact absurd hl (hg.2.1 i) | skip
 rcases hg with ⟨_,_,hn⟩ | ⟨hz,k,l,hu,hc⟩ | ⟨_,hn,_⟩
 ·exact absurd hl (hn i)
 ·have:=hu i hl
  subst this
  exact ⟨rfl,hz,hu,hc.imp (λ x => ⟨⟨l,x.1⟩,x.2⟩) λ x => ⟨⟨l,x.1⟩,x.2⟩⟩
 ·exact absurd hl (hn i)
theorem Inv.last (hA : A.Ok) (h : Inv P ty Wg A Fin Shun gs w t T ch) (hi : gs[i]? = some x) (haw : Awake x (T i).g) {ι : Type} {f : ι -> Rk} (hr : (T i).r = .inr (.mk ι f)) (hl : (T i).ph.last)
  (hB : AtPh P ty Wg A Fin (λ m ph d τ g w => ∃ k,Beh P ty Wg A Fin (f k) m ph d τ g w) (i == 0) (T i).ph (Deaf t i) (T i).τ (T i).g w) : Res P ty Wg A Fin Shun gs w t T sl i:=by
 have hlt : i < gs.size:=(Array.getElem?_eq_some_iff.1 hi).1
 obtain ⟨h3,hz,hu,hc⟩:=h.lastGrp hl
 have h0 : i ≠ 0:=λ e => by subst e; rw [h3] at hl; exact hl
 have hnl : ¬ (T i).ph.live:=λ e => by cases hp : (T i).ph <;> rw [hp] at hl e <;> first | exact hl.elim | exact e.elim
 have hng : (T i).ph ≠ .gone:=λ e => by rw [e] at hl; exact hl
 have hWs : Wg < w.heap.size:=h.st.grp.live.lt
 have hpre : (T i).ph.pre = false:=by cases hp : (T i).ph <;> rw [hp] at hl <;> first | exact hl.elim | rfl
 have key : ∀ ph' : Ph L,ph'.pre = false -> vv A (upd (λ j => (T j).ph) i ph') gs.size = 0:=by
  intro ph' hp
  have:=cnt_upd (λ j => (T j).ph) (i:=i) (n:=gs.size) ph' hlt h0
  rw [hp,hpre] at this
  unfold vv at hz ⊢
  rw [pnd_upd_ne A _ h0]
  simp only [Bool.false_eq_true,if_false] at this
  omega
 have huu : ∀ ph' : Ph L,∀ j,(upd (λ j => (T j).ph) i ph' j).last -> j = i:=λ ph' j hj => by
  by_cases hji : j = i
  ·exact hji
  ·rw [upd_ne _ _ hji] at hj; exact hu j hj
 have u0 : ∀ ph' : Ph L,upd (λ j => (T j).ph) i ph' 0 = .w3:=λ ph' => (upd_ne _ _ (Ne.symm h0)).trans h3
 rcases hc with ⟨⟨l,hp | hp⟩,hW⟩ | ⟨⟨l,hp⟩,hW⟩
 ·simp only [hp] at hB
  obtain ⟨g',hst,hrun',hd,k,hk⟩:=hB w Suf.refl hW
  refine h.dead hi haw hst (by rw [hrun']; simp) (Ti:=⟨.l2 l,.inr (f k),(T i).τ,g'⟩) (by rw [hr]; exact .inr (.mk f k)) rfl hnl hng h0 id (by simp) (Go.Conc.Aside.refl _ _) id
   ((sits_stays (T:=⟨.l2 l,.inr (f k),(T i).τ,g'⟩) id).2 ⟨f k,rfl,by rw [deaf_rd]; exact hk,.inl (Awake.self hrun')⟩) (by rw [hp]; rfl) ?_ (.inr id) (okRow_all (es:=[rd (stA Wg)]) ⟨⟨.inr ⟨stA Wg,false,rfl,rfl,hd⟩,hWs⟩,trivial⟩)
  unfold Grp; rw [u0]
  exact .inr (.inl ⟨key _ rfl,i,l,huu _,.inl ⟨.inr (upd_same _ _ _),hW⟩⟩)
 ·simp only [hp] at hB
  obtain ⟨g',hst,hrun',hd,k,hk⟩:=hB w Suf.refl hW
  have hW1:=st_set (v:=0) (wt:=0) hW
  have hW2 : WgAt ty Wg (w.setCell (stA Wg) (Mt.st 0 0)) 0 0:=by simpa using hW1
  refine h.dead hi haw hst (by rw [hrun']; simp) (Ti:=⟨.l3 l,.inr (f k),(T i).τ,g'⟩) (by rw [hr]; exact .inr (.mk f k)) rfl hnl hng h0 id (by simp) (asideSt _ _) (λ _ => ⟨_,_,hW2⟩)
   ((sits_stays (T:=⟨.l3 l,.inr (f k),(T i).τ,g'⟩) id).2 ⟨f k,rfl,by rw [deaf_wr]; exact hk,.inl (Awake.self hrun')⟩) (by rw [hp]; rfl) ?_ (.inr λ e => by have:=(Go.ConcR.WgAt.unique e hW2).2; omega)
   (okRow_all (es:=[wr (stA Wg)]) ⟨⟨.inr ⟨stA Wg,true,rfl,rfl,hd⟩,by rw [(asideSt w _).size]; exact hWs⟩,trivial⟩)
  unfold Grp; rw [u0]
  exact .inr (.inl ⟨key _ rfl,i,l,huu _,.inr ⟨upd_same _ _ _,hW2⟩⟩)
 ·simp only [hp] at hB
  obtain ⟨hmw,hB⟩:=hB
  obtain ⟨g',hst,hrun',hd,q,hQ⟩:=hB w Suf.refl hW
  have hW1:=sm_set hW 1
  have hWs' : Wg < (w.setCell (smA Wg) (.int .u32 1)).heap.size:=by rw [(asideSm w _).size]; exact hWs
  refine h.dead hi haw hst (by rw [hrun']; simp) (Ti:=⟨.quit l,.inl q,(T i).τ,g'⟩) (by rw [hr]; exact .sep _ _) rfl hnl hng h0 id (by simp) (asideSm _ _) (λ _ => ⟨_,_,hW1⟩)
   ((sits_leaves (T:=⟨.quit l,.inl q,(T i).τ,g'⟩) trivial).2 ⟨q,rfl,by rw [deaf_sem]; exact hQ⟩) (by rw [hp]; rfl) ?_ (.inl ⟨hmw,hrun'⟩)
   (okRow_all (es:=[⟨.mark .disable,false,true⟩,⟨.cell (smA Wg),false,true⟩,⟨.cell (smA Wg),true,true⟩,⟨.mark .enable,false,true⟩]) ⟨⟨.inl rfl,hWs'⟩,⟨.inr ⟨_,_,rfl,rfl,by simp [deafBehind]⟩,hWs'⟩,⟨.inr ⟨_,_,rfl,rfl,by simp [deafBehind]⟩,hWs'⟩,⟨.inl rfl,hWs'⟩,trivial⟩)
  unfold Grp; rw [u0]
  refine .inr (.inr ⟨key _ rfl,λ j hj => ?_,hW1⟩)
  have:=huu _ j hj
  subst this
  rw [upd_same] at hj; exact hj
theorem Inv.step (hA : A.Ok) (h : Inv P ty Wg A Fin Shun gs w t T ch) (hi : gs[i]? = some x) (hrun : x.status = .running) : Res P ty Wg A Fin Shun gs w t T sl i:=by
 by_cases hl : (T i).ph.leaves
 ·exact h.leaver hi hrun hl
 have hs:=h.dy.sit i x hi
 rw [sits_stays hl] at hs
 obtain ⟨r,hr,hB,hx⟩:=hs
 have haw : Awake x (T i).g:=by
  rcases hx with hx | ⟨_,_,_,_,rfl,_⟩ | ⟨_,rfl,_⟩
  ·exact hx
  ·cases hrun
  ·cases hrun
 cases r with
 | mk ι f =>
  obtain ⟨_,hB⟩:=hB
  have hK : ∀ m ph d τ g w,(λ m ph d τ g w => ∃ k,Beh P ty Wg A Fin (f k) m ph d τ g w) m ph d τ g w -> ∃ k,Beh P ty Wg A Fin (f k) m ph d τ g w:=λ _ _ _ _ _ _ e => e
  have main : (T i).ph.waits -> i = 0:=λ e => Classical.byContradiction λ h0 => h.st.role i h0 e
  rcases hB with hB | hB
  ·cases hp : (T i).ph <;> rw [hp] at hB <;> first | exact hB.elim | skip
   ·exact h.own1 hA hi haw (by rw [hp]; trivial) hr hK (by rw [hp]; exact hB)
   ·exact h.idle1 hi haw (by rw [hp]; exact id) hl hr hK (by rw [hp]; exact hB)
   ·exact h.idle1 hi haw (by rw [hp]; exact id) hl hr hK (by rw [hp]; exact hB)
   ·exact h.idle1 hi haw (by rw [hp]; exact id) hl hr hK (by rw [hp]; exact hB)
   ·exact h.idle1 hi haw (by rw [hp]; exact id) hl hr hK (by rw [hp]; exact hB)
   ·exact h.own1 hA hi haw (by rw [hp]; trivial) hr hK (by rw [hp]; exact hB)
   ·exact h.own1 hA hi haw (by rw [hp]; trivial) hr hK (by rw [hp]; exact hB)
   ·exact h.own1 hA hi haw (by rw [hp]; trivial) hr hK (by rw [hp]; exact hB)
   ·exact h.own1 hA hi haw (by rw [hp]; trivial) hr hK (by rw [hp]; exact hB)
   ·exact h.own1 hA hi haw (by rw [hp]; trivial) hr hK (by rw [hp]; exact hB)
  ·cases hp : (T i).ph with
   | gone => rw [hp] at hB; exact hB.elim
   | quit l => rw [hp] at hB; exact hB.elim
   | rel l => rw [hp] at hB; exact h.dec hA hi haw hr hp hB
   | l1 l => exact h.last hA hi haw hr (by rw [hp]; trivial) hB
   | l2 l => exact h.last hA hi haw hr (by rw [hp]; trivial) hB
   | l3 l => exact h.last hA hi haw hr (by rw [hp]; trivial) hB
   | w1 b =>
    obtain rfl:=main (by rw [hp]; trivial)
    rw [hp] at hB
    exact h.look hA hi haw hr (.inl ⟨b,hp⟩) λ w₁ s₁ v hv => hB w₁ s₁ v (hv b hp)
   | w2 v =>
    obtain rfl:=main (by rw [hp]; trivial)
    rw [hp] at hB
    exact h.cas hA hi haw hr hp hB
   | w3 =>
    obtain rfl:=main (by rw [hp]; trivial)
    rw [hp] at hB
    exact h.sleep hA hi haw hr hp hB
   | w4 =>
    obtain rfl:=main (by rw [hp]; trivial)
    rw [hp] at hB
    exact h.woke hA hi haw hr hp hB
   | w5 =>
    obtain rfl:=main (by rw [hp]; trivial)
    rw [hp] at hB
    exact h.fin hA hi haw hr hp hB
   | usr l =>
    rw [hp] at hB
    simp only [AtPh] at hB
    cases ha : A.act l with
    | send c ok pub nx => exact h.send hA hi haw hr hp ha hB
    | recv c ok nx sh => exact h.recv hA hi haw hr hp ha hB
    | close c nx => exact h.close hA hi haw hr hp ha hB
    | add nx => exact h.add hA hi haw hr hp ha hB
    | spawn pub lc nx => exact h.spawn hA hi haw hr hp ha hB
    | done =>
     unfold AtUsr at hB
     rw [ha] at hB
     obtain ⟨hd,_,hdep,h1⟩:=hB
     obtain ⟨g',hst,hrun',hk⟩:=h1 w Suf.refl
     exact h.release hA hi haw hst hrun' hr hp ha hd hdep hk
    | wait =>
     have h0:=(hA.wait _ ch i l h.st.inv (by show (T i).ph.proj = _; rw [hp]; rfl) ha).1
     subst h0
     unfold AtUsr at hB
     rw [ha] at hB
     exact h.look hA hi haw hr (.inr ⟨l,hp,ha⟩) λ w₁ s₁ v _ => hB w₁ s₁ v
theorem phase_run (hA : A.Ok) (h : Inv P ty Wg A Fin Shun gs w t T ch) (sl : Option (Nat × Nat)) : ∃ N m' t',runNT P N (crowd gs w sl) t = (.next m',t') /\ Goal P Wg Fin Shun m' t':=by
 refine run_to Mu.wf (λ μ m t => ∃ gs w sl T ch,m = crowd gs w sl /\ Inv P ty Wg A Fin Shun gs w t T ch /\ μ = mu gs T) (Goal P Wg Fin Shun) ?_ _ _ _ ⟨gs,w,sl,T,ch,rfl,h,rfl⟩
 rintro μ m t ⟨gs,w,sl,T,ch,rfl,h,rfl⟩
 obtain ⟨i,g,d,sl',hi,hg,hst⟩:=crowd_pick (P:=P) (w:=w) (sl:=sl) h.awake (h.some1 hA)
 obtain ⟨m',ops,hrun,hres⟩:=(h.at d).step hA hi hg (sl:=sl')
 refine ⟨m',ops,hst.trans hrun,hres.imp id ?_⟩
 rintro ⟨gs',w',sl'',T',ch',rfl,hI,hmu⟩
 exact ⟨_,hmu,gs',w',sl'',T',ch',rfl,hI,rfl⟩
end
end Go.Mt
