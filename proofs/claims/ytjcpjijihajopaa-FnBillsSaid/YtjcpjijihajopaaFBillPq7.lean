/-
 Part 7 of what stands behind the last text.
-/
import Derived.Conc.WgGenN3
import Derived.Test.YtjcpjijihajopaaFBillPq6
set_option linter.unusedSectionVars false
set_option linter.unusedSimpArgs false
set_option linter.unusedVariables false
namespace Go.Mt
open Go.Conc Go.RowKit Go.Conc.Lib Go.ConcR.Gen
open Go.ConcR (KK wgBlock WgAt stA smA rd wr mk Payload DC0)
section
variable {L₀ : Type} {P : Program} {ty : TypeId} {Wg : Nat} {A : Proto L₀} {Fin : Goroutine -> World -> Prop}
theorem Terr.grow_self (τ : Terr) (w : World) : τ.grow w w = τ := by
 obtain ⟨a, b, c⟩ := τ
 simp only [Terr.grow, Terr.mk.injEq, and_true]
 funext x
 exact propext ⟨λ h => h.elim id λ h => by omega, .inl⟩
theorem Gua.refl (O : Nat -> Prop) (w : World) : Gua O w w := ⟨rfl, rfl, rfl, Nat.le_refl _, λ _ _ _ => rfl⟩
theorem BehE.running {main : Bool} {ph : Ph L₀} {d : Nat} {τ : Terr} {g : Goroutine} {w : World} (h : BehE P ty Wg A Fin main ph d τ g w) : g.status = .running := by
 obtain ⟨r, hr⟩ := h
 cases r with | mk ι f => exact hr.1
theorem BehE.goes {main : Bool} {ph : Ph L₀} {d : Nat} {τ : Terr} (hl : ph.live) : ∀ (n : Nat) {g : Goroutine} {w : World}, Goes P main (Suf ty Wg τ) DC0 (BehE P ty Wg A Fin main ph d τ) n g w -> BehE P ty Wg A Fin main ph d τ g w := by
 intro n
 induction n with
 | zero => exact λ {g w} h => h w (Suf.refl)
 | succ n ih =>
   intro g w h
   rcases h with h | ⟨hs, h⟩
   . exact h w (Suf.refl)
   . refine BehE.own hs hl λ w₁ s => ?_
     obtain ⟨g₁, w', es, hgo, ⟨e1, e2⟩, hg⟩ := goes_elim (h w₁ s)
     subst e1 e2
     have hb := ih hg
     refine ⟨g₁, w', #[], hgo, hb.running, Gua.refl _ _, λ e he => by simp at he, ?_⟩
     rw [Terr.grow_self]
     exact hb
theorem BehE.idles {main : Bool} {ph : Ph L₀} {d : Nat} {τ : Terr} (hl : ∀ {g w}, Idle1 P ty Wg (BehE P ty Wg A Fin) main ph d τ g w -> Way1 P ty Wg (BehE P ty Wg A Fin) main ph d τ g w) : ∀ (n : Nat) {g : Goroutine} {w : World}, Goes P main (Suf ty Wg τ) DC0 (BehE P ty Wg A Fin main ph d τ) n g w -> BehE P ty Wg A Fin main ph d τ g w := by
 intro n
 induction n with
 | zero => exact λ {g w} h => h w (Suf.refl)
 | succ n ih =>
   intro g w h
   rcases h with h | ⟨hs, h⟩
   . exact h w (Suf.refl)
   . refine BehE.mk hs (.inl (hl λ w₁ s => ?_))
     obtain ⟨g₁, w', es, hgo, ⟨e1, e2⟩, hg⟩ := goes_elim (h w₁ s)
     subst e1 e2
     have hb := ih hg
     exact ⟨g₁, #[], hgo, hb.running, λ e he => by simp at he, hb⟩
theorem BehE.mark {main : Bool} {ph : Ph L₀} {d : Nat} {τ : Terr} (hl : ph.live) {g : Goroutine} {w : World} (hs : g.status = .running) {g' : Goroutine} {m : Mark} (hgo : ∀ w₁, Suf ty Wg τ w w₁ -> stepG P main g w₁ = .go g' w₁ #[Go.ConcR.mk m])
   (hm : EvT Wg main τ.own τ.still (Go.ConcR.mk m)) (hb : ∀ w₁, Suf ty Wg τ w w₁ -> BehE P ty Wg A Fin main ph (deafBehind d #[Go.ConcR.mk m]) τ g' w₁) : BehE P ty Wg A Fin main ph d τ g w := by
 refine BehE.own hs hl λ w₁ s => ⟨g', w₁, #[Go.ConcR.mk m], hgo w₁ s, (hb w₁ s).running, Gua.refl _ _, λ e he => ?_, ?_⟩
 . rw [Array.mem_singleton] at he
   subst he
   rw [Terr.grow_self]; exact hm
 . rw [Terr.grow_self]; exact hb w₁ s
theorem BehE.imark {main : Bool} {l : L₀} {d : Nat} {τ : Terr} {g : Goroutine} {w : World} (hs : g.status = .running) {g' : Goroutine} {m : Mark} (hgo : ∀ w₁, Suf ty Wg τ w w₁ -> stepG P main g w₁ = .go g' w₁ #[Go.ConcR.mk m])
   (hm : Event.mute (Go.ConcR.mk m) = true) (hb : ∀ w₁, Suf ty Wg τ w w₁ -> BehE P ty Wg A Fin main (.rel l) (deafBehind d #[Go.ConcR.mk m]) τ g' w₁) : BehE P ty Wg A Fin main (.rel l) d τ g w := by
 refine BehE.mk hs (.inl λ w₁ s => ⟨g', #[Go.ConcR.mk m], hgo w₁ s, (hb w₁ s).running, λ e he => ?_, hb w₁ s⟩)
 rw [Array.mem_singleton] at he
 subst he
 exact hm
theorem WgLive.cell0 {w : World} (h : WgLive ty Wg w) : ∃ v, w.cell? ⟨Wg, 0, none⟩ = some v := let ⟨_, _, x⟩ := h; ⟨_, x.cellSt⟩
theorem WgLive.cell1 {w : World} (h : WgLive ty Wg w) : ∃ v, w.cell? ⟨Wg, 1, none⟩ = some v := let ⟨_, _, x⟩ := h; ⟨_, x.cellSm⟩
structure KeepF (ty : TypeId) (Wg : Nat) (τ : Terr) (F : World -> Prop) : Prop where
 suf : ∀ w w₁, Suf ty Wg τ w w₁ -> F w -> F w₁
 wg : ∀ w a v, a.block = Wg -> F w -> F (w.setCell a v)
theorem KeepF.rely {τ : Terr} {F : World -> Prop} (k : KeepF ty Wg τ F) {w w₁ : World} (h : F w /\ WgLive ty Wg w) (s : Suf ty Wg τ w w₁) : F w₁ /\ WgLive ty Wg w₁ := ⟨k.suf _ _ s h.1, s.live h.2⟩
end
end Go.Mt
namespace Go.Mt
open Go.Conc Go.RowKit Go.Conc.Lib Go.ConcR.Gen
open Go.ConcN.Gen (WgLive.cell0 WgLive.cell1)
open Go.ConcN (st_flag st_waiters)
open Go.ConcR (KK wgBlock WgAt stA smA rd wr mk Payload DC0)
variable [Payload] {L : WgLink}
section
variable {L₀ : Type} {P : Program} {Wg : Nat} {A : Proto L₀} {Fin : Goroutine -> World -> Prop} {F : World -> Prop}
 {b₀ : Frame} {a₀ : Go.Act} {ops₀ : Array Oper} {i₀ : Nat} {rest₀ : List Nat} {k₀ : List Item} {cs : List Frame} {τ : Terr} {l nx : L₀}
set_option maxRecDepth 100000 in
set_option maxHeartbeats 8000000 in
theorem addW (H : WgLib P L) (hact : A.act l = .add nx) (kf : KeepF L.tWg Wg τ F)
   (hT : ∀ w, F w -> WgLive L.tWg Wg w -> BehE P L.tWg Wg A Fin true (.usr nx) 0 τ (G (b₀.at (a₀.put ((ops₀[i₀]?).bind (·.dst)) (.tuple #[])) (.inRegion ops₀ rest₀ :: k₀)) cs) w)
   (w : World) (hF : F w /\ WgLive L.tWg Wg w) :
   BehE P L.tWg Wg A Fin true (.usr l) 0 τ (G ((base L.add).at ⟨#[.pointer (some ⟨Wg, 0, none⟩), .int .i64 1, undef, undef, undef, undef, undef, undef, undef, undef, undef, undef, undef, undef, undef, undef, undef, undef, undef, undef, undef, undef, undef, undef, undef, undef, undef, undef, undef, undef, undef, undef, undef, undef, undef, undef, undef, undef, undef, undef, undef, undef, undef, undef, undef, undef, undef, undef, undef, undef, undef, undef, undef, undef, undef, undef, undef, undef, undef, undef, undef, undef, undef, undef, undef, undef, undef, undef, undef, undef, undef, undef, undef, undef, undef, undef, undef, undef, undef, undef, undef, undef, undef, undef, undef, undef, undef, undef, undef, undef, undef, undef, undef, undef, undef, undef, undef, undef, undef, undef, undef, undef, undef, undef, undef, undef, undef, undef, undef, undef, undef, undef, undef, undef, undef, undef, undef], []⟩ [.code (body_add L)]) (b₀.at a₀ (.inRegion ops₀ (i₀ :: rest₀) :: k₀) :: cs)) w := by
 lib_facts
 simp only [body_add, addFn, Option.getD_some]
 refine BehE.goes (ph := .usr l) trivial 30 ?_
 u_c stepG_seq kf.rely hF
 u_cond true kf.rely hF
 u_c stepG_seq kf.rely hF
 u_c stepG_seq kf.rely hF
 u_reg kf.rely hF
 u_op kf.rely hF
 u_op kf.rely hF
 u_c stepG_region_end kf.rely hF
 u_cond false kf.rely hF
 u_c stepG_skip kf.rely hF
 u_c stepG_seq kf.rely hF
 u_reg kf.rely hF
 refine Goes.stop (λ w₁ h₁ => ?_)
 replace hF := kf.rely hF h₁
 clear h₁
 refine BehE.mark (ph := .usr l) trivial rfl (λ w₂ s => stepG_mark0 .disable (by simp) rfl rfl (by k_ne) rfl H.f_disable (x_disable_n L) (x_disable_b L) (x_disable_x L) (x_disable_f L)) trivial (λ w₂ s => ?_)
 replace hF := kf.rely hF s
 clear s
 rw [show deafBehind 0 #[Go.ConcR.mk .disable] = 1 from rfl]
 walk_nrm
 refine BehE.goes (ph := .usr l) trivial 60 ?_
 u_c stepG_region_end kf.rely hF
 u_reg kf.rely hF
 u_defer kf.rely hF
 u_c stepG_region_end kf.rely hF
 u_c stepG_seq kf.rely hF
 u_reg kf.rely hF
 u_op kf.rely hF
 u_c stepG_region_end kf.rely hF
 u_c stepG_seq kf.rely hF
 u_c stepG_seq kf.rely hF
 u_reg kf.rely hF
 u_bub kf.rely hF
 u_c stepG_region_end kf.rely hF
 u_cond false kf.rely hF
 u_c stepG_skip kf.rely hF
 u_c stepG_seq kf.rely hF
 u_reg kf.rely hF
 u_op kf.rely hF
 u_op kf.rely hF
 u_op kf.rely hF
 u_op kf.rely hF
 u_op kf.rely hF
 u_op kf.rely hF
 u_call H.f_uAdd (nm_uAdd L) uAddFn kf.rely hF
 u_c stepG_seq kf.rely hF
 u_reg kf.rely hF
 u_op kf.rely hF
 u_c stepG_region_end kf.rely hF
 u_c stepG_seq kf.rely hF
 u_reg kf.rely hF
 u_op kf.rely hF
 u_op kf.rely hF
 u_op kf.rely hF
 u_op kf.rely hF
 refine Goes.stop (λ w₁ h₁ => ?_)
 replace hF := kf.rely hF h₁
 clear h₁
 refine BehE.usr rfl ?_
 unfold AtUsr
 rw [hact]
 intro w₂ s₂ v hv hw
 replace hF := kf.rely hF s₂
 clear s₂
 rcases Nat.eq_zero_or_pos v with rfl | hvp
 . replace hw : WgAt L.tWg Wg w₂ 0 0 := by simpa using hw
   have z : st (0 + 1) 0 = .int .u64 KK := by simp [st]
   rw [z]
   have e0 : IntKind.u64.wrap (0 + 4294967296) = KK := by decide
   refine ⟨_, (stepG_add_atomic rfl rfl (by k_ne) rfl H.f_addU64 (x_addU64_n L) (x_addU64_b L) (x_addU64_x L) .u64 (x_addU64_f L) rfl rfl hw.cellSt (hw.thaw 0)).trans (by rw [e0]; rfl), rfl, ?_⟩
   replace hF : F (w₂.setCell (stA Wg) (.int .u64 KK)) /\ WgLive L.tWg Wg (w₂.setCell (stA Wg) (.int .u64 KK)) := ⟨kf.wg _ _ _ rfl hF.1, ⟨_, _, hw.setSt _⟩⟩
   clear hw
   simp only [KK] at hF ⊢
   walk_nrm
   refine BehE.goes (ph := .usr nx) trivial 110 ?_
   u_op kf.rely hF
   u_c stepG_region_end kf.rely hF
   u_c stepG_ret' kf.rely hF
   u_leave1 H.f_uAdd kf.rely hF
   u_op kf.rely hF
   u_c stepG_region_end kf.rely hF
   u_c stepG_seq kf.rely hF
   u_c stepG_seq kf.rely hF
   u_reg kf.rely hF
   u_op kf.rely hF
   u_op kf.rely hF
   u_op kf.rely hF
   u_op kf.rely hF
   u_skip kf.rely hF
   u_skip kf.rely hF
   u_op kf.rely hF
   u_c stepG_region_end kf.rely hF
   u_cond false kf.rely hF
   u_c stepG_skip kf.rely hF
   u_c stepG_seq kf.rely hF
   u_reg kf.rely hF
   u_op kf.rely hF
   u_op kf.rely hF
   u_op kf.rely hF
   u_op kf.rely hF
   u_c stepG_region_end kf.rely hF
   u_c stepG_seq kf.rely hF
   u_reg kf.rely hF
   u_op kf.rely hF
   u_op kf.rely hF
   u_op kf.rely hF
   u_op kf.rely hF
   u_c stepG_region_end kf.rely hF
   u_c stepG_seq kf.rely hF
   u_c stepG_seq kf.rely hF
   u_reg kf.rely hF
   u_op kf.rely hF
   u_op kf.rely hF
   u_op kf.rely hF
   u_op kf.rely hF
   u_op kf.rely hF
   u_op kf.rely hF
   u_op kf.rely hF
   u_op kf.rely hF
   u_op kf.rely hF
   u_op kf.rely hF
   u_c stepG_region_end kf.rely hF
   u_cond true kf.rely hF
   u_reg kf.rely hF
   u_op kf.rely hF
   u_op kf.rely hF
   u_op kf.rely hF
   u_conv H.underlying_tPU32 H.room_tU32 (WgLive.cell1 hF.2).choose_spec kf.rely hF
   refine Goes.stop (λ w₃ h₃ => ?_)
   replace hF := kf.rely hF h₃
   clear h₃
   refine BehE.mark (ph := .usr nx) trivial rfl (λ w₄ s => stepG_markAt .read (by simp) rfl rfl (by k_ne) rfl H.f_raceRead (x_raceRead_n L) (x_raceRead_b L) (x_raceRead_x L) (x_raceRead_f L) (ad := ⟨Wg, 1, none⟩) (by simp [Go.Act.eval])) ⟨rfl, rfl⟩ (λ w₄ s => ?_)
   replace hF := kf.rely hF s
   clear s
   rw [show deafBehind 1 #[Go.ConcR.mk (.read ⟨Wg, 1, none⟩)] = 1 from rfl]
   walk_nrm
   refine BehE.goes (ph := .usr nx) trivial 110 ?_
   u_c stepG_region_end kf.rely hF
   u_c stepG_seq kf.rely hF
   u_c stepG_seq kf.rely hF
   u_reg kf.rely hF
   u_op kf.rely hF
   u_op kf.rely hF
   u_c stepG_region_end kf.rely hF
   u_cond false kf.rely hF
   u_c stepG_skip kf.rely hF
   u_c stepG_seq kf.rely hF
   u_c stepG_seq kf.rely hF
   u_reg kf.rely hF
   u_op kf.rely hF
   u_op kf.rely hF
   u_op kf.rely hF
   u_skip kf.rely hF
   u_skip kf.rely hF
   u_op kf.rely hF
   u_op kf.rely hF
   u_skip kf.rely hF
   u_skip kf.rely hF
   u_skip kf.rely hF
   u_skip kf.rely hF
   u_op kf.rely hF
   u_c stepG_region_end kf.rely hF
   u_cond false kf.rely hF
   u_c stepG_skip kf.rely hF
   u_c stepG_seq kf.rely hF
   u_c stepG_seq kf.rely hF
   u_reg kf.rely hF
   u_op kf.rely hF
   u_op kf.rely hF
   u_op kf.rely hF
   u_skip kf.rely hF
   u_skip kf.rely hF
   u_op kf.rely hF
   u_c stepG_region_end kf.rely hF
   u_cond true kf.rely hF
   u_c stepG_ret' kf.rely hF
   refine Goes.stop (λ w₃ h₃ => ?_)
   replace hF := kf.rely hF h₃
   clear h₃
   refine BehE.mark (ph := .usr nx) trivial rfl (λ w₄ s => stepG_unwind_entry (v := .tuple #[]) (evs := #[Go.ConcR.mk .enable]) rfl H.f_enable (x_enable_n L) (x_enable_b L) (x_enable_x L) (x_enable_f L) (by simp [Extern.Race.none_]) (by simp [Go.ConcR.mk]) (by simp [Go.ConcR.mk])) trivial (λ w₄ s => ?_)
   replace hF := kf.rely hF s
   clear s
   rw [show deafBehind 1 #[Go.ConcR.mk .enable] = 0 from rfl]
   refine BehE.goes (ph := .usr nx) trivial 2 ?_
   u_leave0 H.f_add kf.rely hF
   exact Goes.stop (λ w₅ h₅ => hT w₅ (kf.rely hF h₅).1 (kf.rely hF h₅).2)
 . obtain ⟨V, hV⟩ : ∃ V : Int, V = (v : Int) + 1 := ⟨_, rfl⟩
   obtain ⟨S, hS⟩ : ∃ S : Int, S = V * KK := ⟨_, rfl⟩
   have eS : IntKind.u64.wrap ((v : Int) * KK + 4294967296) = S := by rw [IntKind.wrap_u64, hS, hV]; simp only [KK]; omega
   have z : st (v + 1) 0 = .int .u64 S := by simp [st, hS, hV]
   rw [z]
   have a1 : S / 4294967296 = V := by rw [hS]; simp only [KK]; omega
   have b1 : bits .and .u64 S 2147483648 = 0 := by rw [hS, hV]; have := st_flag (v + 1) 0 (by omega) (by omega); simpa [KK] using this
   have b2 : bits .and .u64 S 2147483647 = 0 := by rw [hS, hV]; have := st_waiters (v + 1) 0 (by omega) (by omega); simpa [KK] using this
   have c1 : IntKind.i32.wrap V = V := by rw [IntKind.wrap_i32]; omega
   have hV1 : 1 < V := by omega
   have hV2 : V < 2147483648 := by omega
   have q1 : (V == 1) = false := by simp; omega
   have q2 : decide (V = 1) = false := decide_eq_false (by omega)
   have q3 : decide (V < 0) = false := decide_eq_false (by omega)
   have q4 : decide (0 < V) = true := decide_eq_true (by omega)
   have q5 : (V == 0) = false := by simp; omega
   have q6 : decide (V = 0) = false := decide_eq_false (by omega)
   refine ⟨_, (stepG_add_atomic rfl rfl (by k_ne) rfl H.f_addU64 (x_addU64_n L) (x_addU64_b L) (x_addU64_x L) .u64 (x_addU64_f L) rfl rfl hw.cellSt (hw.thaw 0)).trans (by rw [eS]; rfl), rfl, ?_⟩
   replace hF : F (w₂.setCell (stA Wg) (.int .u64 S)) /\ WgLive L.tWg Wg (w₂.setCell (stA Wg) (.int .u64 S)) := ⟨kf.wg _ _ _ rfl hF.1, ⟨_, _, hw.setSt _⟩⟩
   clear hw hS hV eS z
   walk_nrm
   refine BehE.goes (ph := .usr nx) trivial 130 ?_
   u_op kf.rely hF
   u_c stepG_region_end kf.rely hF
   u_c stepG_ret' kf.rely hF
   u_leave1 H.f_uAdd kf.rely hF
   u_op kf.rely hF
   u_c stepG_region_end kf.rely hF
   u_c stepG_seq kf.rely hF
   u_c stepG_seq kf.rely hF
   u_reg kf.rely hF
   u_op kf.rely hF
   u_op kf.rely hF
   u_op kf.rely hF
   u_op kf.rely hF
   u_skip kf.rely hF
   u_skip kf.rely hF
   u_op kf.rely hF
   u_c stepG_region_end kf.rely hF
   u_cnd false kf.rely hF
   u_c stepG_skip kf.rely hF
   u_c stepG_seq kf.rely hF
   u_reg kf.rely hF
   u_op kf.rely hF
   u_op kf.rely hF
   u_op kf.rely hF
   u_op kf.rely hF
   u_c stepG_region_end kf.rely hF
   u_c stepG_seq kf.rely hF
   u_reg kf.rely hF
   u_op kf.rely hF
   u_op kf.rely hF
   u_op kf.rely hF
   u_op kf.rely hF
   u_c stepG_region_end kf.rely hF
   u_c stepG_seq kf.rely hF
   u_c stepG_seq kf.rely hF
   u_reg kf.rely hF
   u_op kf.rely hF
   u_op kf.rely hF
   u_op kf.rely hF
   u_op kf.rely hF
   u_op kf.rely hF
   u_op kf.rely hF
   u_op kf.rely hF
   u_op kf.rely hF
   u_op kf.rely hF
   u_op kf.rely hF
   u_c stepG_region_end kf.rely hF
   u_cnd false kf.rely hF
   u_c stepG_skip kf.rely hF
   u_c stepG_seq kf.rely hF
   u_c stepG_seq kf.rely hF
   u_reg kf.rely hF
   u_op kf.rely hF
   u_op kf.rely hF
   u_c stepG_region_end kf.rely hF
   u_cnd false kf.rely hF
   u_c stepG_skip kf.rely hF
   u_c stepG_seq kf.rely hF
   u_c stepG_seq kf.rely hF
   u_reg kf.rely hF
   u_op kf.rely hF
   u_op kf.rely hF
   u_op kf.rely hF
   u_skip kf.rely hF
   u_skip kf.rely hF
   u_op kf.rely hF
   u_op kf.rely hF
   u_skip kf.rely hF
   u_skip kf.rely hF
   u_skip kf.rely hF
   u_skip kf.rely hF
   u_op kf.rely hF
   u_c stepG_region_end kf.rely hF
   u_cnd false kf.rely hF
   u_c stepG_skip kf.rely hF
   u_c stepG_seq kf.rely hF
   u_c stepG_seq kf.rely hF
   u_reg kf.rely hF
   u_op kf.rely hF
   u_op kf.rely hF
   u_op kf.rely hF
   u_skip kf.rely hF
   u_skip kf.rely hF
   u_op kf.rely hF
   u_c stepG_region_end kf.rely hF
   u_cnd true kf.rely hF
   u_c stepG_ret' kf.rely hF
   refine Goes.stop (λ w₃ h₃ => ?_)
   replace hF := kf.rely hF h₃
   clear h₃
   refine BehE.mark (ph := .usr nx) trivial rfl (λ w₄ s => stepG_unwind_entry (v := .tuple #[]) (evs := #[Go.ConcR.mk .enable]) rfl H.f_enable (x_enable_n L) (x_enable_b L) (x_enable_x L) (x_enable_f L) (by simp [Extern.Race.none_]) (by simp [Go.ConcR.mk]) (by simp [Go.ConcR.mk])) trivial (λ w₄ s => ?_)
   replace hF := kf.rely hF s
   clear s
   rw [show deafBehind 1 #[Go.ConcR.mk .enable] = 0 from rfl]
   refine BehE.goes (ph := .usr nx) trivial 2 ?_
   u_leave0 H.f_add kf.rely hF
   exact Goes.stop (λ w₅ h₅ => hT w₅ (kf.rely hF h₅).1 (kf.rely hF h₅).2)
end
end Go.Mt
namespace Go.Mt
open Go.Conc Go.RowKit Go.Conc.Lib Go.ConcR.Gen
open Go.ConcN.Gen (WgLive.cell0 WgLive.cell1)
open Go.ConcN (st_flag st_waiters)
open Go.ConcR (KK wgBlock WgAt stA smA rd wr mk Payload DC0)
variable [Payload] {L : WgLink}
section
variable {L₀ : Type} {P : Program} {Wg : Nat} {A : Proto L₀} {Fin : Goroutine -> World -> Prop} {F : World -> Prop}
 {b₀ : Frame} {a₀ : Go.Act} {ops₀ : Array Oper} {i₀ : Nat} {rest₀ : List Nat} {k₀ : List Item} {cs : List Frame} {τ : Terr} {l nx : L₀}
set_option maxRecDepth 100000 in
set_option maxHeartbeats 8000000 in
theorem addNegW (H : WgLib P L) (hact : A.act l = .done) (kf : KeepF L.tWg Wg τ F) (hdep : ∀ w, F w -> A.dep l w) {qt : Nat}
   (hT : QuitsD P qt 0 (G (b₀.at (a₀.put ((ops₀[i₀]?).bind (·.dst)) (.tuple #[])) (.inRegion ops₀ rest₀ :: k₀)) cs)) (w : World) (hF : F w /\ WgLive L.tWg Wg w) :
   BehE P L.tWg Wg A Fin false (.usr l) 0 τ (G ((base L.add).at ⟨#[.pointer (some ⟨Wg, 0, none⟩), .int .i64 (-1), undef, undef, undef, undef, undef, undef, undef, undef, undef, undef, undef, undef, undef, undef, undef, undef, undef, undef, undef, undef, undef, undef, undef, undef, undef, undef, undef, undef, undef, undef, undef, undef, undef, undef, undef, undef, undef, undef, undef, undef, undef, undef, undef, undef, undef, undef, undef, undef, undef, undef, undef, undef, undef, undef, undef, undef, undef, undef, undef, undef, undef, undef, undef, undef, undef, undef, undef, undef, undef, undef, undef, undef, undef, undef, undef, undef, undef, undef, undef, undef, undef, undef, undef, undef, undef, undef, undef, undef, undef, undef, undef, undef, undef, undef, undef, undef, undef, undef, undef, undef, undef, undef, undef, undef, undef, undef, undef, undef, undef, undef, undef, undef, undef, undef, undef], []⟩ [.code (body_add L)]) (b₀.at a₀ (.inRegion ops₀ (i₀ :: rest₀) :: k₀) :: cs)) w := by
 lib_facts
 simp only [body_add, addFn, Option.getD_some]
 refine BehE.goes (ph := .usr l) trivial 20 ?_
 u_c stepG_seq kf.rely hF
 u_cond true kf.rely hF
 u_c stepG_seq kf.rely hF
 u_c stepG_seq kf.rely hF
 u_reg kf.rely hF
 u_op kf.rely hF
 u_op kf.rely hF
 u_c stepG_region_end kf.rely hF
 u_cond true kf.rely hF
 u_reg kf.rely hF
 u_op kf.rely hF
 u_conv H.underlying_tWgP H.room_tWg (WgLive.cell0 hF.2).choose_spec kf.rely hF
 refine Goes.stop (λ w₁ h₁ => ?_)
 replace hF := kf.rely hF h₁
 clear h₁
 refine BehE.usr rfl ?_
 unfold AtUsr
 rw [hact]
 refine ⟨rfl, rfl, λ w₂ s => hdep _ (kf.rely hF s).1, λ w₂ s => ?_⟩
 replace hF := kf.rely hF s
 clear s
 refine ⟨_, stepG_markAt .releaseMerge (by simp) rfl rfl (by k_ne) rfl H.f_relMerge (x_relMerge_n L) (x_relMerge_b L) (x_relMerge_x L) (x_relMerge_f L) (by simp [Act.eval, stA]), rfl, ?_⟩
 refine BehE.idles (ph := .rel l) id 10 ?_
 walk_nrm
 u_c stepG_region_end kf.rely hF
 u_c stepG_seq kf.rely hF
 u_reg kf.rely hF
 refine Goes.stop (λ w₁ h₁ => ?_)
 replace hF := kf.rely hF h₁
 clear h₁
 refine BehE.imark rfl (λ w₂ s => stepG_mark0 .disable (by simp) rfl rfl (by k_ne) rfl H.f_disable (x_disable_n L) (x_disable_b L) (x_disable_x L) (x_disable_f L)) rfl (λ w₂ s => ?_)
 replace hF := kf.rely hF s
 clear s
 rw [show deafBehind 0 #[Go.ConcR.mk .disable] = 1 from rfl]
 refine BehE.idles (ph := .rel l) id 50 ?_
 walk_nrm
 u_c stepG_region_end kf.rely hF
 u_reg kf.rely hF
 u_defer kf.rely hF
 u_c stepG_region_end kf.rely hF
 u_c stepG_seq kf.rely hF
 u_reg kf.rely hF
 u_op kf.rely hF
 u_c stepG_region_end kf.rely hF
 u_c stepG_seq kf.rely hF
 u_c stepG_seq kf.rely hF
 u_reg kf.rely hF
 u_bub kf.rely hF
 u_c stepG_region_end kf.rely hF
 u_cond false kf.rely hF
 u_c stepG_skip kf.rely hF
 u_c stepG_seq kf.rely hF
 u_reg kf.rely hF
 u_op kf.rely hF
 u_op kf.rely hF
 u_op kf.rely hF
 u_op kf.rely hF
 u_op kf.rely hF
 u_op kf.rely hF
 u_call H.f_uAdd (nm_uAdd L) uAddFn kf.rely hF
 u_c stepG_seq kf.rely hF
 u_reg kf.rely hF
 u_op kf.rely hF
 u_c stepG_region_end kf.rely hF
 u_c stepG_seq kf.rely hF
 u_reg kf.rely hF
 u_op kf.rely hF
 u_op kf.rely hF
 u_op kf.rely hF
 u_op kf.rely hF
 refine Goes.stop (λ w₀ h₀ => ?_)
 replace hF := kf.rely hF h₀
 clear h₀
 refine BehE.mk rfl (.inr ?_)
 intro w₁ s₁ v wt hwt hv hw
 replace hF := kf.rely hF s₁
 clear s₁
 have e0 : IntKind.u64.wrap (KK + 18446744069414584320) = 0 := by decide
 have e1 : IntKind.u64.wrap (KK + 1 + 18446744069414584320) = 1 := by decide
 rcases Nat.eq_zero_or_pos v with rfl | hvp <;> (obtain rfl | rfl : wt = 0 \/ wt = 1 := by omega)
 . -- (0, NOBODY WAITS): IT ONLY LEAVES
   replace hw : WgAt L.tWg Wg w₁ KK 0 := by simpa using hw
   have z : Mt.st 0 0 = .int .u64 0 := by simp [Mt.st]
   rw [z]
   refine ⟨_, (stepG_add_atomic rfl rfl (by k_ne) rfl H.f_addU64 (x_addU64_n L) (x_addU64_b L) (x_addU64_x L) .u64 (x_addU64_f L) rfl rfl hw.cellSt (hw.thaw 0)).trans (by rw [e0]; rfl), rfl, by decide, λ hl => absurd hl.2 (by decide), λ _ => ⟨qt + 89, ?_⟩⟩
   clear hw
   walk_nrm
   q_val (.int .u64 0)
   q_c stepG_region_end
   q_c stepG_ret'
   q_leave1 H.f_uAdd
   q_val (.int .u64 0)
   q_c stepG_region_end
   q_c stepG_seq
   q_c stepG_seq
   q_reg
   q_val (.int .u64 0)
   q_val (.int .u64 0)
   q_val (.bool false)
   q_val (.bool false)
   q_skip
   q_skip
   q_val (.bool false)
   q_c stepG_region_end
   q_cond false
   q_c stepG_skip
   q_c stepG_seq
   q_reg
   q_val (.int .u64 0)
   q_val (.int .u64 0)
   q_val (.int .i32 0)
   q_val (.int .i32 0)
   q_c stepG_region_end
   q_c stepG_seq
   q_reg
   q_val (.int .u64 0)
   q_val (.int .u64 0)
   q_val (.int .u32 0)
   q_val (.int .u32 0)
   q_c stepG_region_end
   q_c stepG_seq
   q_c stepG_seq
   q_reg
   q_val (.bool true)
   q_val (.int .i64 (-1))
   q_val (.bool false)
   q_val (.bool false)
   q_val (.bool false)
   q_skip
   q_skip
   q_skip
   q_skip
   q_val (.bool false)
   q_c stepG_region_end
   q_cond false
   q_c stepG_skip
   q_c stepG_seq
   q_c stepG_seq
   q_reg
   q_val (.int .i32 0)
   q_val (.bool false)
   q_c stepG_region_end
   q_cond false
   q_c stepG_skip
   q_c stepG_seq
   q_c stepG_seq
   q_reg
   q_val (.int .u32 0)
   q_val (.bool false)
   q_val (.bool false)
   q_skip
   q_skip
   q_val (.bool false)
   q_val (.bool false)
   q_skip
   q_skip
   q_skip
   q_skip
   q_val (.bool false)
   q_c stepG_region_end
   q_cond false
   q_c stepG_skip
   q_c stepG_seq
   q_c stepG_seq
   q_reg
   q_val (.int .i32 0)
   q_val (.bool false)
   q_val (.bool false)
   q_val (.int .u32 0)
   q_val (.bool true)
   q_val (.bool true)
   q_c stepG_region_end
   q_cond true
   q_c stepG_ret'
   q_enable
   q_leave0 H.f_add
   exact hT
 . -- (0, THE STARTER WAITS): THE LAST ONE
   replace hw : WgAt L.tWg Wg w₁ (KK + 1) 0 := by simpa using hw
   have z : Mt.st 0 1 = .int .u64 1 := by simp [Mt.st]
   rw [z]
   refine ⟨_, (stepG_add_atomic rfl rfl (by k_ne) rfl H.f_addU64 (x_addU64_n L) (x_addU64_b L) (x_addU64_x L) .u64 (x_addU64_f L) rfl rfl hw.cellSt (hw.thaw 0)).trans (by rw [e1]; rfl), rfl, by decide, λ _ => ?_, λ hl => absurd ⟨rfl, rfl⟩ hl⟩
   replace hF : F (w₁.setCell (stA Wg) (.int .u64 1)) /\ WgLive L.tWg Wg (w₁.setCell (stA Wg) (.int .u64 1)) := ⟨kf.wg _ _ _ rfl hF.1, ⟨_, _, hw.setSt 1⟩⟩
   clear hw
   refine BehE.idles (ph := .l1 l) id 120 ?_
   walk_nrm
   u_op kf.rely hF
   u_c stepG_region_end kf.rely hF
   u_c stepG_ret' kf.rely hF
   u_leave1 H.f_uAdd kf.rely hF
   u_op kf.rely hF
   u_c stepG_region_end kf.rely hF
   u_c stepG_seq kf.rely hF
   u_c stepG_seq kf.rely hF
   u_reg kf.rely hF
   u_op kf.rely hF
   u_op kf.rely hF
   u_op kf.rely hF
   u_op kf.rely hF
   u_skip kf.rely hF
   u_skip kf.rely hF
   u_op kf.rely hF
   u_c stepG_region_end kf.rely hF
   u_cond false kf.rely hF
   u_c stepG_skip kf.rely hF
   u_c stepG_seq kf.rely hF
   u_reg kf.rely hF
   u_op kf.rely hF
   u_op kf.rely hF
   u_op kf.rely hF
   u_op kf.rely hF
   u_c stepG_region_end kf.rely hF
   u_c stepG_seq kf.rely hF
   u_reg kf.rely hF
   u_op kf.rely hF
   u_op kf.rely hF
   u_op kf.rely hF
   u_op kf.rely hF
   u_c stepG_region_end kf.rely hF
   u_c stepG_seq kf.rely hF
   u_c stepG_seq kf.rely hF
   u_reg kf.rely hF
   u_op kf.rely hF
   u_op kf.rely hF
   u_op kf.rely hF
   u_op kf.rely hF
   u_op kf.rely hF
   u_skip kf.rely hF
   u_skip kf.rely hF
   u_skip kf.rely hF
   u_skip kf.rely hF
   u_op kf.rely hF
   u_c stepG_region_end kf.rely hF
   u_cond false kf.rely hF
   u_c stepG_skip kf.rely hF
   u_c stepG_seq kf.rely hF
   u_c stepG_seq kf.rely hF
   u_reg kf.rely hF
   u_op kf.rely hF
   u_op kf.rely hF
   u_c stepG_region_end kf.rely hF
   u_cond false kf.rely hF
   u_c stepG_skip kf.rely hF
   u_c stepG_seq kf.rely hF
   u_c stepG_seq kf.rely hF
   u_reg kf.rely hF
   u_op kf.rely hF
   u_op kf.rely hF
   u_op kf.rely hF
   u_op kf.rely hF
   u_op kf.rely hF
   u_op kf.rely hF
   u_op kf.rely hF
   u_skip kf.rely hF
   u_skip kf.rely hF
   u_skip kf.rely hF
   u_skip kf.rely hF
   u_op kf.rely hF
   u_c stepG_region_end kf.rely hF
   u_cond false kf.rely hF
   u_c stepG_skip kf.rely hF
   u_c stepG_seq kf.rely hF
   u_c stepG_seq kf.rely hF
   u_reg kf.rely hF
   u_op kf.rely hF
   u_op kf.rely hF
   u_op kf.rely hF
   u_op kf.rely hF
   u_op kf.rely hF
   u_op kf.rely hF
   u_c stepG_region_end kf.rely hF
   u_cond false kf.rely hF
   u_c stepG_skip kf.rely hF
   u_c stepG_seq kf.rely hF
   u_c stepG_seq kf.rely hF
   u_reg kf.rely hF
   u_op kf.rely hF
   u_op kf.rely hF
   u_op kf.rely hF
   u_call H.f_uLoad (nm_uLoad L) uLoadFn kf.rely hF
   u_c stepG_seq kf.rely hF
   u_reg kf.rely hF
   u_op kf.rely hF
   u_c stepG_region_end kf.rely hF
   u_c stepG_seq kf.rely hF
   u_reg kf.rely hF
   u_op kf.rely hF
   u_op kf.rely hF
   u_op kf.rely hF
   refine Goes.stop (λ w₂ h₂ => ?_)
   replace hF := kf.rely hF h₂
   clear h₂
   refine BehE.mk rfl (.inr ?_)
   intro w₃ s hw
   replace hF := kf.rely hF s
   clear s
   refine ⟨_, stepG_load_atomic rfl rfl (by k_ne) rfl H.f_loadU64 (x_loadU64_n L) (x_loadU64_b L) (x_loadU64_x L) .u64 (x_loadU64_f L) rfl hw.cellSt, rfl, by decide, ?_⟩
   clear hw
   refine BehE.idles (ph := .l2 l) id 40 ?_
   walk_nrm
   u_op kf.rely hF
   u_c stepG_region_end kf.rely hF
   u_c stepG_ret' kf.rely hF
   u_leave1 H.f_uLoad kf.rely hF
   u_op kf.rely hF
   u_op kf.rely hF
   u_c stepG_region_end kf.rely hF
   u_cond false kf.rely hF
   u_c stepG_skip kf.rely hF
   u_c stepG_seq kf.rely hF
   u_reg kf.rely hF
   u_op kf.rely hF
   u_op kf.rely hF
   u_op kf.rely hF
   u_call H.f_uStore (nm_uStore L) uStoreFn kf.rely hF
   u_reg kf.rely hF
   u_op kf.rely hF
   u_op kf.rely hF
   u_op kf.rely hF
   u_op kf.rely hF
   refine Goes.stop (λ w₂ h₃ => ?_)
   replace hF := kf.rely hF h₃
   clear h₃
   refine BehE.mk rfl (.inr ?_)
   intro w₃ s hw
   replace hF := kf.rely hF s
   clear s
   have z0 : Mt.st 0 0 = .int .u64 0 := by simp [Mt.st]
   rw [z0]
   refine ⟨_, stepG_store_atomic rfl rfl (by k_ne) rfl H.f_storeU64 (x_storeU64_n L) (x_storeU64_b L) (x_storeU64_x L) (x_storeU64_f L) rfl rfl hw.cellSt (hw.thaw 0), rfl, by decide, ?_⟩
   replace hF : F (w₃.setCell (stA Wg) (.int .u64 0)) /\ WgLive L.tWg Wg (w₃.setCell (stA Wg) (.int .u64 0)) := ⟨kf.wg _ _ _ rfl hF.1, ⟨_, _, hw.setSt 0⟩⟩
   clear hw z0
   refine BehE.idles (ph := .l3 l) id 50 ?_
   walk_nrm
   u_c stepG_region_end kf.rely hF
   u_c stepG_end kf.rely hF
   u_leave0 H.f_uStore kf.rely hF
   u_c stepG_region_end kf.rely hF
   u_c stepG_seq kf.rely hF
   u_c stepG_seq kf.rely hF
   u_reg kf.rely hF
   u_op kf.rely hF
   u_c stepG_region_end kf.rely hF
   u_cond false kf.rely hF
   u_c stepG_skip kf.rely hF
   u_c stepG_block kf.rely hF
   u_c stepG_loop kf.rely hF
   u_c stepG_seq kf.rely hF
   u_c stepG_seq kf.rely hF
   u_reg kf.rely hF
   u_op kf.rely hF
   u_op kf.rely hF
   u_c stepG_region_end kf.rely hF
   u_cond true kf.rely hF
   u_c stepG_skip kf.rely hF
   u_c stepG_seq kf.rely hF
   u_c stepG_block kf.rely hF
   u_reg kf.rely hF
   u_op kf.rely hF
   u_op kf.rely hF
   u_op kf.rely hF
   refine Goes.stop (λ w₂ h₄ => ?_)
   clear h₄ hF
   refine BehE.mk rfl (.inr ⟨mayWake_entry rfl rfl H.f_semrelease (x_semrelease_b L), λ w₄ s hw => ?_⟩)
   clear s
   refine ⟨_, (stepG_semrelease rfl rfl (by k_ne) rfl H.f_semrelease (x_semrelease_n L) (x_semrelease_b L) (x_semrelease_x L) (x_semrelease_f L) (by simp [Act.eval, smA]) hw.cellSm (hw.thaw 1)).trans (by rfl), rfl, by decide, qt + 19, ?_⟩
   clear hw
   walk_nrm
   q_c stepG_region_end
   q_c stepG_inBlock
   q_reg
   q_val (.int .u32 1)
   q_val (.int .u32 0)
   q_val (.int .u32 0)
   q_c stepG_region_end
   q_c stepG_inLoop
   q_c stepG_seq
   q_c stepG_seq
   q_reg
   q_val (.int .u32 0)
   q_val (.bool false)
   q_c stepG_region_end
   q_cond false
   q_exit
   q_c stepG_end
   q_enable
   q_leave0 H.f_add
   exact hT
 . -- (v > 0, NOBODY WAITS)
   replace hw : WgAt L.tWg Wg w₁ (((v : Nat) + 1) * KK + 0) 0 := by simpa using hw
   have z : Mt.st v 0 = .int .u64 ((v : Int) * KK + 0) := by simp [Mt.st]
   rw [z]
   have hv0 : 0 < v := by omega
   have eS : IntKind.u64.wrap (((v : Nat) + 1) * KK + 0 + 18446744069414584320) = (v : Int) * KK + 0 := by rw [IntKind.wrap_u64]; simp only [KK]; omega
   obtain ⟨S, hS⟩ : ∃ S : Int, S = (v : Int) * KK + 0 := ⟨_, rfl⟩
   rw [<- hS] at eS ⊢
   have a1 : S / 4294967296 = (v : Int) := by rw [hS]; simp only [KK]; omega
   have a2 : 0 <= S /\ S < 9223372036854775808 := by rw [hS]; simp only [KK]; omega
   have b1 : bits .and .u64 S 2147483648 = 0 := by rw [hS]; have := st_flag v 0 (by omega) (by omega); simpa [KK] using this
   have b2 : bits .and .u64 S 2147483647 = 0 := by rw [hS]; have := st_waiters v 0 (by omega) (by omega); simpa [KK] using this
   clear hS z
   refine ⟨_, (stepG_add_atomic rfl rfl (by k_ne) rfl H.f_addU64 (x_addU64_n L) (x_addU64_b L) (x_addU64_x L) .u64 (x_addU64_f L) rfl rfl hw.cellSt (hw.thaw 0)).trans (by rw [eS]; rfl), rfl, by decide, λ hl => absurd hl.1 (by omega), λ _ => ⟨qt + 89, ?_⟩⟩
   clear hw
   walk_nrm
   q_vn (.int .u64 S)
   q_c stepG_region_end
   q_c stepG_ret'
   q_leave1 H.f_uAdd
   q_vn (.int .u64 S)
   q_c stepG_region_end
   q_c stepG_seq
   q_c stepG_seq
   q_reg
   q_vn (.int .u64 S)
   q_vn (.int .u64 0)
   q_vn (.bool false)
   q_vn (.bool false)
   q_skip
   q_skip
   q_vn (.bool false)
   q_c stepG_region_end
   q_cond false
   q_c stepG_skip
   q_c stepG_seq
   q_reg
   q_vn (.int .u64 S)
   q_vn (.int .u64 (v : Int))
   q_vn (.int .i32 (v : Int))
   q_vn (.int .i32 (v : Int))
   q_c stepG_region_end
   q_c stepG_seq
   q_reg
   q_vn (.int .u64 S)
   q_vn (.int .u64 0)
   q_vn (.int .u32 0)
   q_vn (.int .u32 0)
   q_c stepG_region_end
   q_c stepG_seq
   q_c stepG_seq
   q_reg
   q_vn (.bool true)
   q_vn (.int .i64 (-1))
   q_vn (.bool false)
   q_vn (.bool false)
   q_vn (.bool false)
   q_skip
   q_skip
   q_skip
   q_skip
   q_vn (.bool false)
   q_c stepG_region_end
   q_cond false
   q_c stepG_skip
   q_c stepG_seq
   q_c stepG_seq
   q_reg
   q_vn (.int .i32 (v : Int))
   q_vn (.bool false)
   q_c stepG_region_end
   q_cond false
   q_c stepG_skip
   q_c stepG_seq
   q_c stepG_seq
   q_reg
   q_vn (.int .u32 0)
   q_vn (.bool false)
   q_vn (.bool false)
   q_skip
   q_skip
   q_vn (.bool false)
   q_vn (.bool false)
   q_skip
   q_skip
   q_skip
   q_skip
   q_vn (.bool false)
   q_c stepG_region_end
   q_cond false
   q_c stepG_skip
   q_c stepG_seq
   q_c stepG_seq
   q_reg
   q_vn (.int .i32 (v : Int))
   q_vn (.bool true)
   q_vn (.bool true)
   q_skip
   q_skip
   q_vn (.bool true)
   q_c stepG_region_end
   q_cond true
   q_c stepG_ret'
   q_enable
   q_leave0 H.f_add
   exact hT
 . -- (v > 0, THE STARTER WAITS)
   replace hw : WgAt L.tWg Wg w₁ (((v : Nat) + 1) * KK + 1) 0 := by simpa using hw
   have z : Mt.st v 1 = .int .u64 ((v : Int) * KK + 1) := by simp [Mt.st]
   rw [z]
   have hv0 : 0 < v := by omega
   have eS : IntKind.u64.wrap (((v : Nat) + 1) * KK + 1 + 18446744069414584320) = (v : Int) * KK + 1 := by rw [IntKind.wrap_u64]; simp only [KK]; omega
   obtain ⟨S, hS⟩ : ∃ S : Int, S = (v : Int) * KK + 1 := ⟨_, rfl⟩
   rw [<- hS] at eS ⊢
   have a1 : S / 4294967296 = (v : Int) := by rw [hS]; simp only [KK]; omega
   have a2 : 0 <= S /\ S < 9223372036854775808 := by rw [hS]; simp only [KK]; omega
   have b1 : bits .and .u64 S 2147483648 = 0 := by rw [hS]; have := st_flag v 1 (by omega) (by omega); simpa [KK] using this
   have b2 : bits .and .u64 S 2147483647 = 1 := by rw [hS]; have := st_waiters v 1 (by omega) (by omega); simpa [KK] using this
   clear hS z
   refine ⟨_, (stepG_add_atomic rfl rfl (by k_ne) rfl H.f_addU64 (x_addU64_n L) (x_addU64_b L) (x_addU64_x L) .u64 (x_addU64_f L) rfl rfl hw.cellSt (hw.thaw 0)).trans (by rw [eS]; rfl), rfl, by decide, λ hl => absurd hl.1 (by omega), λ _ => ⟨qt + 89, ?_⟩⟩
   clear hw
   walk_nrm
   q_vn (.int .u64 S)
   q_c stepG_region_end
   q_c stepG_ret'
   q_leave1 H.f_uAdd
   q_vn (.int .u64 S)
   q_c stepG_region_end
   q_c stepG_seq
   q_c stepG_seq
   q_reg
   q_vn (.int .u64 S)
   q_vn (.int .u64 0)
   q_vn (.bool false)
   q_vn (.bool false)
   q_skip
   q_skip
   q_vn (.bool false)
   q_c stepG_region_end
   q_cond false
   q_c stepG_skip
   q_c stepG_seq
   q_reg
   q_vn (.int .u64 S)
   q_vn (.int .u64 (v : Int))
   q_vn (.int .i32 (v : Int))
   q_vn (.int .i32 (v : Int))
   q_c stepG_region_end
   q_c stepG_seq
   q_reg
   q_vn (.int .u64 S)
   q_vn (.int .u64 1)
   q_vn (.int .u32 1)
   q_vn (.int .u32 1)
   q_c stepG_region_end
   q_c stepG_seq
   q_c stepG_seq
   q_reg
   q_vn (.bool true)
   q_vn (.int .i64 (-1))
   q_vn (.bool false)
   q_vn (.bool false)
   q_vn (.bool false)
   q_skip
   q_skip
   q_skip
   q_skip
   q_vn (.bool false)
   q_c stepG_region_end
   q_cond false
   q_c stepG_skip
   q_c stepG_seq
   q_c stepG_seq
   q_reg
   q_vn (.int .i32 (v : Int))
   q_vn (.bool false)
   q_c stepG_region_end
   q_cond false
   q_c stepG_skip
   q_c stepG_seq
   q_c stepG_seq
   q_reg
   q_vn (.int .u32 1)
   q_vn (.bool true)
   q_vn (.bool true)
   q_vn (.int .i64 (-1))
   q_vn (.bool false)
   q_vn (.bool false)
   q_vn (.bool false)
   q_skip
   q_skip
   q_skip
   q_skip
   q_vn (.bool false)
   q_c stepG_region_end
   q_cond false
   q_c stepG_skip
   q_c stepG_seq
   q_c stepG_seq
   q_reg
   q_vn (.int .i32 (v : Int))
   q_vn (.bool true)
   q_vn (.bool true)
   q_skip
   q_skip
   q_vn (.bool true)
   q_c stepG_region_end
   q_cond true
   q_c stepG_ret'
   q_enable
   q_leave0 H.f_add
   exact hT
set_option maxRecDepth 100000 in
theorem doneW (H : WgLib P L) (hact : A.act l = .done) (kf : KeepF L.tWg Wg τ F) (hdep : ∀ w, F w -> A.dep l w) {c : Frame} {cs : List Frame} {qt : Nat}
   (hcm : c.mode = .returning) (hT : QuitsD P qt 0 (G c cs)) (w : World) (hF : F w /\ WgLive L.tWg Wg w) :
   BehE P L.tWg Wg A Fin false (.usr l) 0 τ (G ((baseD L.done).at ⟨#[.pointer (some ⟨Wg, 0, none⟩), undef, undef, undef], []⟩ [.code (body_done L)]) (c :: cs)) w := by
 lib_facts
 have hA := @addNegW _ L _ P Wg A Fin F
 simp only [body_done, body_add, doneFn, addFn, Option.getD_some] at hA ⊢
 refine BehE.goes (ph := .usr l) trivial 23 ?_
 u_reg kf.rely hF
 u_op kf.rely hF
 u_in kf.rely hF
 refine goes_call rfl rfl (by k_ne) rfl H.f_add (nm_add L) rfl ⟨by u_nil, ?_⟩
 walk_nrmf addFn
 refine Goes.stop (λ w₁ h₁ => ?_)
 refine hA H hact kf hdep (qt := qt + 3) ?_ _ (kf.rely hF h₁)
 q_c stepG_region_end
 q_c stepG_end
 exact QuitsD.leaveD rfl rfl H.f_done rfl hcm hT
end
end Go.Mt
namespace Go.Mt
open Go.Conc Go.RowKit Go.Conc.Lib Go.ConcR.Gen
open Go.ConcN.Gen (WgLive.cell0 WgLive.cell1 AnchWN)
open Go.ConcN (st_flag st_waiters)
open Go.ConcR (KK wgBlock WgAt stA smA rd wr mk Payload DC0)
variable [Payload] {L : WgLink}
section
variable {L₀ : Type} {P : Program} {Wg : Nat} {A : Proto L₀} {Fin : Goroutine -> World -> Prop} {F : World -> Prop}
 {b₀ : Frame} {a₀ : Go.Act} {ops₀ : Array Oper} {i₀ : Nat} {rest₀ : List Nat} {k₀ : List Item} {cs : List Frame} {τ : Terr} {l nx : L₀}
def AtX (W w : World) : Prop := ∃ d, w = W.at d
theorem atX_rely {W w w₁ : World} (h : AtX W w) (r : AtRel w w₁) : AtX W w₁ := by
 obtain ⟨d, rfl⟩ := h
 obtain ⟨d', rfl⟩ := r
 exact ⟨d', rfl⟩
def Deps (A : Proto L₀) (w : World) : Prop := ∃ q ch, A.Inv q ch /\ q 0 = .waits /\ (∀ i l, q i ≠ .run l) /\ ∀ i l, q i = .over l -> A.dep l w
set_option maxRecDepth 100000 in
set_option maxHeartbeats 8000000 in
theorem waitRoundW (H : WgLib P L) (kf : KeepF L.tWg Wg τ F) (hFin : ∀ (n : Nat) g w, Goes P true AtRel DC0 Fin n g w -> Fin g w)
   (hT : ∀ w, F w -> WgLive L.tWg Wg w -> Deps A w -> ∀ d, Fin (G (b₀.at (a₀.put ((ops₀[i₀]?).bind (·.dst)) (.tuple #[])) (.inRegion ops₀ rest₀ :: k₀)) cs) (w.at d))
   {ok : Nat -> Prop} {ph : Ph L₀} (hl : ph.live)
   (hph : ∀ g w, g.status = .running -> (∀ w₁, Suf L.tWg Wg τ w w₁ -> ∀ v : Nat, ok v -> v < 2147483648 -> WgAt L.tWg Wg w₁ (v * KK) 0 -> ∃ g', stepG P true g w₁ = .go g' w₁ #[rd (stA Wg)] /\ g'.status = .running /\
     (v = 0 -> BehE P L.tWg Wg A Fin true .w5 1 τ g' w₁) /\ (v ≠ 0 -> BehE P L.tWg Wg A Fin true (.w2 v) 1 τ g' w₁)) -> BehE P L.tWg Wg A Fin true ph 1 τ g w)
   (hC : ∀ v, ok v -> ∀ g w, AnchWN L F Wg (b₀.at a₀ (.inRegion ops₀ (i₀ :: rest₀) :: k₀)) cs g w -> BehE P L.tWg Wg A Fin true (.w1 v) 1 τ g w)
   (g : Goroutine) (w : World) (h : AnchWN L F Wg (b₀.at a₀ (.inRegion ops₀ (i₀ :: rest₀) :: k₀)) cs g w) : BehE P L.tWg Wg A Fin true ph 1 τ g w := by
 lib_facts
 obtain ⟨T, rfl, hT84, t0, hF⟩ := h
 obtain ⟨v0, v1, v2, v3, v4, v5, v6, v7, v8, v9, v10, v11, v12, v13, v14, v15, v16, v17, v18, v19, v20, v21, v22, v23, v24, v25, v26, v27, v28, v29, v30, v31, v32, v33, v34, v35, v36, v37, v38, v39, v40, v41, v42, v43, v44, v45, v46, v47, v48, v49, v50, v51, v52, v53, v54, v55, v56, v57, v58, v59, v60, v61, v62, v63, v64, v65, v66, v67, v68, v69, v70, v71, v72, v73, v74, v75, v76, v77, v78, v79, v80, v81, v82, v83, rfl⟩ := array84 T hT84
 simp only [List.getElem?_toArray, List.getElem?_cons_zero, Option.some.injEq] at t0
 subst t0
 refine BehE.goes hl 30 ?_
 simp only [L7, body_wait, waitFn, Option.getD_some]
 u_c stepG_block kf.rely hF
 u_c stepG_seq kf.rely hF
 u_reg kf.rely hF
 u_op kf.rely hF
 u_op kf.rely hF
 u_op kf.rely hF
 u_call H.f_uLoad (nm_uLoad L) uLoadFn kf.rely hF
 u_c stepG_seq kf.rely hF
 u_reg kf.rely hF
 u_op kf.rely hF
 u_c stepG_region_end kf.rely hF
 u_c stepG_seq kf.rely hF
 u_reg kf.rely hF
 u_op kf.rely hF
 u_op kf.rely hF
 u_op kf.rely hF
 refine Goes.stop (λ w₀ h₁ => ?_)
 replace hF := kf.rely hF h₁
 clear h₁
 refine hph _ _ rfl ?_
 intro w₁ s v hok hv hw
 replace hF := kf.rely hF s
 clear s
 rcases Nat.eq_zero_or_pos v with rfl | hvp
 . -- THE LOAD READS 0: THE JOIN IS SEEN
   replace hw : WgAt L.tWg Wg w₁ 0 0 := by simpa using hw
   refine ⟨_, stepG_load_atomic (v := 0) rfl rfl (by k_ne) rfl H.f_loadU64 (x_loadU64_n L) (x_loadU64_b L) (x_loadU64_x L) .u64 (x_loadU64_f L) rfl hw.cellSt, rfl, λ _ => ?_, λ h => absurd rfl h⟩
   clear hw
   refine BehE.goes (ph := .w5) trivial 60 ?_
   walk_nrm
   u_op kf.rely hF
   u_c stepG_region_end kf.rely hF
   u_c stepG_ret' kf.rely hF
   u_leave1 H.f_uLoad kf.rely hF
   u_op kf.rely hF
   u_c stepG_region_end kf.rely hF
   u_c stepG_seq kf.rely hF
   u_reg kf.rely hF
   u_op kf.rely hF
   u_op kf.rely hF
   u_op kf.rely hF
   u_op kf.rely hF
   u_c stepG_region_end kf.rely hF
   u_c stepG_seq kf.rely hF
   u_reg kf.rely hF
   u_op kf.rely hF
   u_op kf.rely hF
   u_op kf.rely hF
   u_op kf.rely hF
   u_c stepG_region_end kf.rely hF
   u_c stepG_seq kf.rely hF
   u_c stepG_seq kf.rely hF
   u_reg kf.rely hF
   u_op kf.rely hF
   u_op kf.rely hF
   u_c stepG_region_end kf.rely hF
   u_cond true kf.rely hF
   u_c stepG_seq kf.rely hF
   u_cond true kf.rely hF
   u_c stepG_seq kf.rely hF
   u_reg kf.rely hF
   refine Goes.stop (λ w₅ h₅ => ?_)
   replace hF := kf.rely hF h₅
   clear h₅
   refine BehE.mark (ph := .w5) trivial rfl (λ w₂ s => stepG_mark0 .enable (by simp) rfl rfl (by k_ne) rfl H.f_enable (x_enable_n L) (x_enable_b L) (x_enable_x L) (x_enable_f L)) trivial (λ w₂ s => ?_)
   replace hF := kf.rely hF s
   clear s
   rw [show deafBehind 1 #[Go.ConcR.mk .enable] = 0 from rfl]
   refine BehE.goes (ph := .w5) trivial 30 ?_
   walk_nrm
   u_c stepG_region_end kf.rely hF
   u_reg kf.rely hF
   u_op kf.rely hF
   u_conv H.underlying_tWgP H.room_tWg (WgLive.cell0 hF.2).choose_spec kf.rely hF
   refine Goes.stop (λ w₆ h₆ => ?_)
   replace hF := kf.rely hF h₆
   clear h₆
   refine BehE.mk rfl (.inr ⟨rfl, λ w₇ s hD => ?_⟩)
   replace hF := kf.rely hF s
   clear s
   have hX : AtX w₇ w₇ := ⟨w₇.drawn, rfl⟩
   refine ⟨_, stepG_markAt .acquire (by simp) rfl rfl (by k_ne) rfl H.f_acquire (x_acquire_n L) (x_acquire_b L) (x_acquire_x L) (x_acquire_f L) (by simp [Act.eval, stA]), rfl, ?_⟩
   refine hFin 30 _ _ ?_
   walk_nrm
   u_c stepG_region_end atX_rely hX
   u_c stepG_seq atX_rely hX
   u_c stepG_seq atX_rely hX
   u_reg atX_rely hX
   u_op atX_rely hX
   u_op atX_rely hX
   u_op atX_rely hX
   u_op atX_rely hX
   u_op atX_rely hX
   u_op atX_rely hX
   u_op atX_rely hX
   u_op atX_rely hX
   u_skip atX_rely hX
   u_skip atX_rely hX
   u_op atX_rely hX
   u_c stepG_region_end atX_rely hX
   u_cond false atX_rely hX
   u_c stepG_skip atX_rely hX
   u_c stepG_ret' atX_rely hX
   u_leave0 H.f_wait atX_rely hX
   exact Goes.stop (λ w₈ h => by obtain ⟨d₁, rfl⟩ := atX_rely hX h; exact hT _ hF.1 hF.2 hD d₁)
 . -- THE LOAD READS v * 2^32, v > 0
   obtain ⟨S, hS⟩ : ∃ S : Int, (v : Int) * KK = S := ⟨_, rfl⟩
   have a1 : S / 4294967296 = (v : Int) := by rw [<- hS]; simp only [KK]; omega
   have b1 : bits .and .u64 S 2147483648 = 0 := by rw [<- hS]; have := st_flag v 0 (by omega) (by omega); simpa [KK] using this
   have b2 : bits .and .u64 S 2147483647 = 0 := by rw [<- hS]; have := st_waiters v 0 (by omega) (by omega); simpa [KK] using this
   have c1 : IntKind.i32.wrap (v : Int) = (v : Int) := by rw [IntKind.wrap_i32]; omega
   have w1 : IntKind.u64.wrap (S + 1) = S + 1 := by rw [IntKind.wrap_u64, <- hS]; simp only [KK]; omega
   have q3 : decide ((v : Int) < 0) = false := decide_eq_false (by omega)
   have q4 : decide (0 < (v : Int)) = true := decide_eq_true (by omega)
   have q5 : ((v : Int) == 0) = false := by simp; omega
   have q6 : decide ((v : Int) = 0) = false := decide_eq_false (by omega)
   rw [hS] at hw
   refine ⟨_, stepG_load_atomic (v := S) rfl rfl (by k_ne) rfl H.f_loadU64 (x_loadU64_n L) (x_loadU64_b L) (x_loadU64_x L) .u64 (x_loadU64_f L) rfl hw.cellSt, rfl, λ h0 => absurd h0 (by omega), λ _ => ?_⟩
   clear hw
   refine BehE.goes (ph := .w2 v) trivial 60 ?_
   walk_nrm
   u_op kf.rely hF
   u_c stepG_region_end kf.rely hF
   u_c stepG_ret' kf.rely hF
   u_leave1 H.f_uLoad kf.rely hF
   u_op kf.rely hF
   u_c stepG_region_end kf.rely hF
   u_c stepG_seq kf.rely hF
   u_reg kf.rely hF
   u_op kf.rely hF
   u_op kf.rely hF
   u_op kf.rely hF
   u_op kf.rely hF
   u_c stepG_region_end kf.rely hF
   u_c stepG_seq kf.rely hF
   u_reg kf.rely hF
   u_op kf.rely hF
   u_op kf.rely hF
   u_op kf.rely hF
   u_op kf.rely hF
   u_c stepG_region_end kf.rely hF
   u_c stepG_seq kf.rely hF
   u_c stepG_seq kf.rely hF
   u_reg kf.rely hF
   u_op kf.rely hF
   u_op kf.rely hF
   u_c stepG_region_end kf.rely hF
   u_cnd false kf.rely hF
   u_c stepG_skip kf.rely hF
   u_c stepG_seq kf.rely hF
   u_reg kf.rely hF
   u_op kf.rely hF
   u_op kf.rely hF
   u_op kf.rely hF
   u_op kf.rely hF
   u_op kf.rely hF
   u_op kf.rely hF
   u_call H.f_uCas (nm_uCas L) uCasFn kf.rely hF
   u_c stepG_seq kf.rely hF
   u_reg kf.rely hF
   u_op kf.rely hF
   u_c stepG_region_end kf.rely hF
   u_c stepG_seq kf.rely hF
   u_reg kf.rely hF
   u_op kf.rely hF
   u_op kf.rely hF
   u_op kf.rely hF
   u_op kf.rely hF
   u_op kf.rely hF
   refine Goes.stop (λ w₀ h₂ => ?_)
   replace hF := kf.rely hF h₂
   clear h₂
   refine BehE.mk rfl (.inr ?_)
   intro w₂ s v' hv' hw
   replace hF := kf.rely hF s
   clear s
   refine ⟨λ e => ?_, λ e => ?_⟩
   . -- THE CompareAndSwap HITS: REGISTERED
     subst e
     have z : Mt.st v' 1 = .int .u64 (S + 1) := by simp [Mt.st, hS]
     rw [hS] at hw
     rw [z]
     refine ⟨_, (stepG_cas_hit (v := S) (n := S + 1) rfl rfl (by k_ne) rfl H.f_casU64 (x_casU64_n L) (x_casU64_b L) (x_casU64_x L) .u64 (x_casU64_f L) rfl rfl rfl hw.cellSt (hw.thaw 0)).trans (by rfl), rfl, ?_⟩
     refine BehE.goes (ph := .w3) trivial 70 ?_
     replace hF : F (w₂.setCell (stA Wg) (.int .u64 (S + 1))) /\ WgLive L.tWg Wg (w₂.setCell (stA Wg) (.int .u64 (S + 1))) := ⟨kf.wg _ _ _ rfl hF.1, ⟨_, _, hw.setSt _⟩⟩
     clear hw
     walk_nrm
     u_op kf.rely hF
     u_c stepG_region_end kf.rely hF
     u_c stepG_ret' kf.rely hF
     u_leave1 H.f_uCas kf.rely hF
     u_c stepG_region_end kf.rely hF
     u_cond true kf.rely hF
     u_c stepG_seq kf.rely hF
     u_c stepG_seq kf.rely hF
     u_reg kf.rely hF
     u_op kf.rely hF
     u_op kf.rely hF
     u_op kf.rely hF
     u_op kf.rely hF
     u_c stepG_region_end kf.rely hF
     u_cond true kf.rely hF
     u_reg kf.rely hF
     u_op kf.rely hF
     u_op kf.rely hF
     u_op kf.rely hF
     u_conv H.underlying_tPU32 H.room_tU32 (WgLive.cell1 hF.2).choose_spec kf.rely hF
     refine Goes.stop (λ w₉ h₉ => ?_)
     replace hF := kf.rely hF h₉
     clear h₉
     refine BehE.mark (ph := .w3) trivial rfl (λ w₂ s => stepG_markAt .write (by simp) rfl rfl (by k_ne) rfl H.f_raceWrite (x_raceWrite_n L) (x_raceWrite_b L) (x_raceWrite_x L) (x_raceWrite_f L) (ad := ⟨Wg, 1, none⟩) (by simp [Go.Act.eval])) ⟨rfl, rfl⟩ (λ w₂ s => ?_)
     replace hF := kf.rely hF s
     clear s
     rw [show deafBehind 1 #[Go.ConcR.mk (.write ⟨Wg, 1, none⟩)] = 1 from rfl]
     walk_nrm
     refine BehE.goes (ph := .w3) trivial 70 ?_
     u_c stepG_region_end kf.rely hF
     u_c stepG_seq kf.rely hF
     u_reg kf.rely hF
     u_op kf.rely hF
     u_c stepG_region_end kf.rely hF
     u_c stepG_seq kf.rely hF
     u_c stepG_seq kf.rely hF
     u_reg kf.rely hF
     u_op kf.rely hF
     u_op kf.rely hF
     u_op kf.rely hF
     u_op kf.rely hF
     u_skip kf.rely hF
     u_op kf.rely hF
     u_c stepG_region_end kf.rely hF
     u_cond false kf.rely hF
     u_c stepG_skip kf.rely hF
     u_c stepG_seq kf.rely hF
     u_reg kf.rely hF
     u_op kf.rely hF
     u_op kf.rely hF
     u_op kf.rely hF
     u_op kf.rely hF
     refine Goes.stop (λ w₀ h₃ => ?_)
     replace hF := kf.rely hF h₃
     clear h₃
     refine BehE.mk rfl (.inr ⟨rfl, λ w₃ s => ?_⟩)
     replace hF := kf.rely hF s
     clear s
     refine ⟨λ ⟨st, hw⟩ => stepG_semacquire_wait rfl rfl rfl H.f_semacquire (x_semacquire_n L) (x_semacquire_b L) (x_semacquire_x L) (x_semacquire_f L) (by simp [Act.eval, smA]) hw.cellSm, λ hf => ?_⟩
     refine ⟨_, (stepG_semacquire (n := 1) rfl rfl (by k_ne) rfl H.f_semacquire (x_semacquire_n L) (x_semacquire_b L) (x_semacquire_x L) (x_semacquire_f L) (by simp [Act.eval, smA]) hf.cellSm (by k_ne) (hf.thaw 1)).trans (by rfl), rfl, ?_⟩
     refine BehE.goes (ph := .w4) trivial 60 ?_
     replace hF : F (w₃.setCell (smA Wg) (.int .u32 0)) /\ WgLive L.tWg Wg (w₃.setCell (smA Wg) (.int .u32 0)) := ⟨kf.wg _ _ _ rfl hF.1, ⟨_, _, hf.setSm 0⟩⟩
     clear hf
     walk_nrm
     u_c stepG_region_end kf.rely hF
     u_c stepG_seq kf.rely hF
     u_reg kf.rely hF
     u_op kf.rely hF
     u_op kf.rely hF
     u_op kf.rely hF
     u_call H.f_uLoad (nm_uLoad L) uLoadFn kf.rely hF
     u_c stepG_seq kf.rely hF
     u_reg kf.rely hF
     u_op kf.rely hF
     u_c stepG_region_end kf.rely hF
     u_c stepG_seq kf.rely hF
     u_reg kf.rely hF
     u_op kf.rely hF
     u_op kf.rely hF
     u_op kf.rely hF
     refine Goes.stop (λ w₀ h₄ => ?_)
     replace hF := kf.rely hF h₄
     clear h₄
     refine BehE.mk rfl (.inr λ w₄ s hw => ?_)
     replace hF := kf.rely hF s
     clear s
     refine ⟨_, stepG_load_atomic (v := 0) rfl rfl (by k_ne) rfl H.f_loadU64 (x_loadU64_n L) (x_loadU64_b L) (x_loadU64_x L) .u64 (x_loadU64_f L) rfl hw.cellSt, rfl, ?_⟩
     clear hw
     refine BehE.goes (ph := .w5) trivial 60 ?_
     walk_nrm
     u_op kf.rely hF
     u_c stepG_region_end kf.rely hF
     u_c stepG_ret' kf.rely hF
     u_leave1 H.f_uLoad kf.rely hF
     u_op kf.rely hF
     u_op kf.rely hF
     u_c stepG_region_end kf.rely hF
     u_c stepG_seq kf.rely hF
     u_cond true kf.rely hF
     u_c stepG_seq kf.rely hF
     u_reg kf.rely hF
     refine Goes.stop (λ w₅ h₅ => ?_)
     replace hF := kf.rely hF h₅
     clear h₅
     refine BehE.mark (ph := .w5) trivial rfl (λ w₂ s => stepG_mark0 .enable (by simp) rfl rfl (by k_ne) rfl H.f_enable (x_enable_n L) (x_enable_b L) (x_enable_x L) (x_enable_f L)) trivial (λ w₂ s => ?_)
     replace hF := kf.rely hF s
     clear s
     rw [show deafBehind 1 #[Go.ConcR.mk .enable] = 0 from rfl]
     refine BehE.goes (ph := .w5) trivial 30 ?_
     walk_nrm
     u_c stepG_region_end kf.rely hF
     u_reg kf.rely hF
     u_op kf.rely hF
     u_conv H.underlying_tWgP H.room_tWg (WgLive.cell0 hF.2).choose_spec kf.rely hF
     refine Goes.stop (λ w₆ h₆ => ?_)
     replace hF := kf.rely hF h₆
     clear h₆
     refine BehE.mk rfl (.inr ⟨rfl, λ w₇ s hD => ?_⟩)
     replace hF := kf.rely hF s
     clear s
     have hX : AtX w₇ w₇ := ⟨w₇.drawn, rfl⟩
     refine ⟨_, stepG_markAt .acquire (by simp) rfl rfl (by k_ne) rfl H.f_acquire (x_acquire_n L) (x_acquire_b L) (x_acquire_x L) (x_acquire_f L) (by simp [Act.eval, stA]), rfl, ?_⟩
     refine hFin 30 _ _ ?_
     walk_nrm
     u_c stepG_region_end atX_rely hX
     u_c stepG_seq atX_rely hX
     u_c stepG_seq atX_rely hX
     u_reg atX_rely hX
     u_op atX_rely hX
     u_c stepG_region_end atX_rely hX
     u_cond false atX_rely hX
     u_c stepG_skip atX_rely hX
     u_c stepG_ret' atX_rely hX
     u_leave0 H.f_wait atX_rely hX
     exact Goes.stop (λ w₈ h => by obtain ⟨d₁, rfl⟩ := atX_rely hX h; exact hT _ hF.1 hF.2 hD d₁)
   . -- IT MISSES: BACK TO THE LOOP's HEAD
     refine ⟨_, stepG_cas_miss (v := (v' : Int) * KK) (old := S) (n := S + 1) rfl rfl (by k_ne) rfl H.f_casU64 (x_casU64_n L) (x_casU64_b L) (x_casU64_x L) .u64 (x_casU64_f L) rfl rfl rfl hw.cellSt (hw.thaw 0) (by rw [<- hS]; simp only [KK]; omega), rfl, ?_⟩
     clear hw
     refine BehE.goes (ph := .w1 v) trivial 20 ?_
     walk_nrm
     u_op kf.rely hF
     u_c stepG_region_end kf.rely hF
     u_c stepG_ret' kf.rely hF
     u_leave1 H.f_uCas kf.rely hF
     u_c stepG_region_end kf.rely hF
     u_cond false kf.rely hF
     u_c stepG_skip kf.rely hF
     u_c stepG_inBlock kf.rely hF
     u_c stepG_inLoop kf.rely hF
     exact Goes.stop (λ w₃ h₃ => hC v hok _ _ ⟨_, rfl, by simp, by simp, kf.rely hF h₃⟩)
theorem waitHeadW (H : WgLib P L) (kf : KeepF L.tWg Wg τ F) (hFin : ∀ (n : Nat) g w, Goes P true AtRel DC0 Fin n g w -> Fin g w)
   (hT : ∀ w, F w -> WgLive L.tWg Wg w -> Deps A w -> ∀ d, Fin (G (b₀.at (a₀.put ((ops₀[i₀]?).bind (·.dst)) (.tuple #[])) (.inRegion ops₀ rest₀ :: k₀)) cs) (w.at d)) :
   ∀ b g w, AnchWN L F Wg (b₀.at a₀ (.inRegion ops₀ (i₀ :: rest₀) :: k₀)) cs g w -> BehE P L.tWg Wg A Fin true (.w1 b) 1 τ g w := by
 intro b
 induction b using Nat.strongRecOn with
 | ind b ih => exact waitRoundW H kf hFin hT (ok := λ v => v < b) trivial (λ g w hr h => BehE.mk hr (.inr h)) ih
set_option maxRecDepth 100000 in
theorem waitW (H : WgLib P L) (hact : A.act l = .wait) (kf : KeepF L.tWg Wg τ F) (hFin : ∀ (n : Nat) g w, Goes P true AtRel DC0 Fin n g w -> Fin g w)
   (hT : ∀ w, F w -> WgLive L.tWg Wg w -> Deps A w -> ∀ d, Fin (G (b₀.at (a₀.put ((ops₀[i₀]?).bind (·.dst)) (.tuple #[])) (.inRegion ops₀ rest₀ :: k₀)) cs) (w.at d))
   (w : World) (hF : F w /\ WgLive L.tWg Wg w) : BehE P L.tWg Wg A Fin true (.usr l) 0 τ (G ((base L.wait).at ⟨#[.pointer (some ⟨Wg, 0, none⟩), undef, undef, undef, undef, undef, undef, undef, undef, undef, undef, undef, undef, undef, undef, undef, undef, undef, undef, undef, undef, undef, undef, undef, undef, undef, undef, undef, undef, undef, undef, undef, undef, undef, undef, undef, undef, undef, undef, undef, undef, undef, undef, undef, undef, undef, undef, undef, undef, undef, undef, undef, undef, undef, undef, undef, undef, undef, undef, undef, undef, undef, undef, undef, undef, undef, undef, undef, undef, undef, undef, undef, undef, undef, undef, undef, undef, undef, undef, undef, undef, undef, undef, undef], []⟩ [.code (body_wait L)]) (b₀.at a₀ (.inRegion ops₀ (i₀ :: rest₀) :: k₀) :: cs)) w := by
 have hst : ∀ g w, AnchWN L F Wg (b₀.at a₀ (.inRegion ops₀ (i₀ :: rest₀) :: k₀)) cs g w -> BehE P L.tWg Wg A Fin true (.usr l) 1 τ g w := λ g w h => by
   refine waitRoundW H kf hFin hT (ok := λ _ => True) (ph := .usr l) trivial (λ g w hr h => BehE.usr hr ?_) (λ v _ => waitHeadW H kf hFin hT v) g w h
   unfold AtUsr
   rw [hact]
   exact λ w₁ s v hv hw => h w₁ s v trivial hv hw
 lib_facts
 simp only [body_wait, waitFn, Option.getD_some]
 refine BehE.goes (ph := .usr l) trivial 3 ?_
 u_c stepG_seq kf.rely hF
 u_cond true kf.rely hF
 u_reg kf.rely hF
 refine Goes.stop (λ w₁ h₁ => ?_)
 replace hF := kf.rely hF h₁
 clear h₁
 refine BehE.mark (ph := .usr l) trivial rfl (λ w₂ s => stepG_mark0 .disable (by simp) rfl rfl (by k_ne) rfl H.f_disable (x_disable_n L) (x_disable_b L) (x_disable_x L) (x_disable_f L)) trivial (λ w₂ s => ?_)
 replace hF := kf.rely hF s
 clear s
 rw [show deafBehind 0 #[Go.ConcR.mk .disable] = 1 from rfl]
 walk_nrm
 refine BehE.goes (ph := .usr l) trivial 3 ?_
 u_c stepG_region_end kf.rely hF
 u_c stepG_block kf.rely hF
 u_c stepG_loop kf.rely hF
 exact Goes.stop (λ w₃ h₂ => hst _ _ ⟨_, rfl, by simp, by simp, kf.rely hF h₂⟩)
end
end Go.Mt
namespace Go.Mt
open Go.Conc Go.Tt
def valOk : Nat -> Value -> Bool
 | 0, _ => false
 | n + 1, v => match v with
   | .bool _ | .int _ _ | .string _ | .nilFunc | .nilIface | .pointer none | .slice none _ _ | .map none | .chan none => true
   | .agg xs | .tuple xs => xs.all (valOk n)
   | _ => false
theorem valOk_vr {S : FuncId -> Prop} {K R : Pr} : ∀ (n : Nat) (v : Value), valOk n v = true -> VR S K R v v := by
 intro n
 induction n with
 | zero => intro v h; cases h
 | succ n ih =>
   intro v h
   have arr : ∀ xs : Array Value, xs.all (valOk n) = true -> ArR S K R xs xs := λ xs hx => ⟨rfl, λ i a b h1 h2 => by
     rw [h1] at h2
     obtain rfl := Option.some.inj h2
     rw [Array.all_eq_true_iff_forall_mem] at hx
     exact ih a (hx a (Array.mem_of_getElem? h1))⟩
   cases v with
   | bool b => exact .bool b
   | int k m => exact .int k m
   | string s => exact .string s
   | nilFunc => exact .nilFunc
   | nilIface => exact .nilIface
   | pointer a => cases a with | none => exact .pointer .none | some a => simp [valOk] at h
   | slice a m c => cases a with | none => exact .slice .none | some a => simp [valOk] at h
   | map a => cases a with | none => exact .map .none | some a => simp [valOk] at h
   | chan a => cases a with | none => exact .chan .none | some a => simp [valOk] at h
   | agg xs => exact .agg rfl (arr xs (by simpa [valOk] using h)).2
   | tuple xs => exact .tuple rfl (arr xs (by simpa [valOk] using h)).2
   | _ => simp [valOk] at h
def Zok (v : Value) : Prop := ∀ (S : FuncId -> Prop) (K R : Pr), VR S K R v v
theorem Zok.cells {z : Value} (h : Zok z) : ∀ x ∈ z.cells, Zok x := λ x hx S K R => by
 obtain ⟨i, hi, rfl⟩ := Array.mem_iff_getElem.1 hx
 exact (h S K R).cells.2 i _ _ (Array.getElem?_eq_getElem hi) (Array.getElem?_eq_getElem hi)
theorem Zok.agg {xs : Array Value} (h : ∀ x ∈ xs, Zok x) : Zok (.agg xs) := λ S K R => .agg rfl λ i v v' h1 h2 => by
 rw [h1] at h2
 obtain rfl := Option.some.inj h2
 exact h v (Array.mem_of_getElem? h1) S K R
def ZInfo (info : TypeId -> Option TypeInfo) : Prop := ∀ t i z, info t = some i -> i.zero = some z -> Zok z
theorem forIn_inv {α β : Type} {P : β -> Prop} {f : α -> β -> Option (ForInStep β)} (hf : ∀ a b r, P b -> f a b = some r -> P (match r with | .yield b => b | .done b => b)) : ∀ (l : List α) (b b' : β), P b -> forIn l b f = some b' -> P b' := by
 intro l
 induction l with
 | nil => intro b b' hb h; simp only [List.forIn_nil, pure, Option.some.injEq] at h; exact h ▸ hb
 | cons a l ih =>
   intro b b' hb h
   simp only [List.forIn_cons, bind, Option.bind_eq_some_iff] at h
   obtain ⟨r, h1, h2⟩ := h
   have := hf a b r hb h1
   cases r with
   | yield c => exact ih c b' this h2
   | done c => simp only [pure, Option.some.injEq] at h2; exact h2 ▸ this
theorem zok_struct {info : TypeId -> Option TypeInfo} (hI : ZInfo info) {fs : Array Field} {i : TypeInfo} {z : Value} (h : Made.reckonStruct info fs = some i) (hz : i.zero = some z) : Zok z := by
 unfold Made.reckonStruct at h
 simp only [bind, pure, Option.bind_eq_some_iff] at h
 obtain ⟨a, h1, h2⟩ := h
 rw [<- Array.forIn_toList] at h1
 have key : ∀ xs, a.2.2.2.2.2.2.2.1 = some xs -> ∀ x ∈ xs, Zok x := by
   refine forIn_inv (P := λ s => ∀ xs, s.2.2.2.2.2.2.2.1 = some xs -> ∀ x ∈ xs, Zok x) (λ f s r hP h => ?_) _ _ _ (λ xs hx => by simp only [Option.some.injEq] at hx; subst hx; simp) h1
   simp only [Option.bind_eq_some_iff] at h
   obtain ⟨j, hj, h⟩ := h
   have key : ∀ xs, (s.2.2.2.2.2.2.2.1.bind λ a => j.zero.bind λ b => some (a ++ b.cells)) = some xs -> ∀ x ∈ xs, Zok x := by
     intro xs hx
     simp only [Option.bind_eq_some_iff, Option.some.injEq] at hx
     obtain ⟨u, h3, v, h4, rfl⟩ := hx
     intro x hm
     rcases Array.mem_append.1 hm with hm | hm
     . exact hP u h3 x hm
     . exact (hI _ j v hj h4).cells x hm
   repeat' (first | split at h | (simp only [Option.bind_eq_some_iff] at h; obtain ⟨_, h0, h⟩ := h))
   all_goals first
     | (cases h0; done)
     | (simp only [Option.some.injEq] at h; subst h; exact key)
     | (simp only [Option.some.injEq] at h; subst h; intro xs hx; cases hx)
 split at h2 <;> (simp only [Option.some.injEq] at h2; subst h2; simp only at hz; obtain ⟨xs, h3, rfl⟩ := Option.map_eq_some_iff.1 hz; exact Zok.agg (key xs h3))
theorem zok_reckon {info : TypeId -> Option TypeInfo} (hI : ZInfo info) {d : TypeDesc} {i : TypeInfo} {z : Value} (h : Made.reckon info d = some i) (hz : i.zero = some z) : Zok z := by
 have hw : ∀ (d : TypeDesc) (s : String) (v : Value) (b : Bool) (n : Nat), Zok v -> ∀ z, (Made.word d s v b n).zero = some z -> Zok z := λ d s v b n hv z hz => by
   simp only [Made.word, Option.some.injEq] at hz
   exact hz ▸ hv
 have p0 : Zok (.pointer none) := λ _ _ _ => .pointer .none
 have s0 : Zok (.slice none 0 0) := λ _ _ _ => .slice .none
 have m0 : Zok (.map none) := λ _ _ _ => .map .none
 have c0 : Zok (.chan none) := λ _ _ _ => .chan .none
 have f0 : Zok .nilFunc := λ _ _ _ => .nilFunc
 unfold Made.reckon at h
 cases d with
 | pointer e =>
   simp only [bind, pure, Option.bind_eq_some_iff] at h
   obtain ⟨j, _, h⟩ := h
   split at h
   . cases h
   . split at h
     . cases h
     . simp only [Option.bind_eq_some_iff, Option.some.injEq] at h
       obtain ⟨_, _, rfl⟩ := h
       exact hw _ _ _ _ _ p0 z hz
   . simp only [Option.bind_eq_some_iff, Option.some.injEq] at h
     obtain ⟨_, _, rfl⟩ := h
     exact hw _ _ _ _ _ p0 z hz
 | slice e =>
   simp only [bind, pure, Option.bind_eq_some_iff, Option.some.injEq] at h
   obtain ⟨_, _, _, _, rfl⟩ := h
   exact hw _ _ _ _ _ s0 z hz
 | map k e =>
   simp only [bind, pure, Option.bind_eq_some_iff, Option.some.injEq] at h
   obtain ⟨_, _, _, _, _, _, _, _, rfl⟩ := h
   exact hw _ _ _ _ _ m0 z hz
 | chan dir e =>
   simp only [bind, pure, Option.bind_eq_some_iff, Option.some.injEq] at h
   obtain ⟨_, _, _, _, rfl⟩ := h
   exact hw _ _ _ _ _ c0 z hz
 | func ps rs v =>
   simp only [bind, pure, Option.bind_eq_some_iff, Option.some.injEq] at h
   obtain ⟨_, _, rfl⟩ := h
   exact hw _ _ _ _ _ f0 z hz
 | array n e =>
   simp only [bind, pure, Option.bind_eq_some_iff, Option.some.injEq] at h
   obtain ⟨j, hj, _, _, rfl⟩ := h
   simp only at hz
   split at hz
   . cases hz
   . split at hz
     . simp only [Option.some.injEq] at hz; subst hz; exact Zok.agg (by simp)
     . obtain ⟨u, hu, rfl⟩ := Option.map_eq_some_iff.1 hz
       refine Zok.agg λ x hx => ?_
       simp only [Array.mem_flatten, Array.mem_replicate] at hx
       obtain ⟨xs, ⟨_, rfl⟩, hx⟩ := hx
       exact (hI _ j u hj hu).cells x hx
 | struct fs => exact zok_struct hI h hz
 | _ => cases h
def zerosOk (p : Program) : Bool := (List.range p.types.size).all λ t => match p.info? t with | some i => (match i.zero with | some z => valOk 12 z | none => true) | none => true
def resOk : List ResultVar -> Bool
 | [] => true
 | [_] => true
 | [_, _] => true
 | [_, _, _] => true
 | _ => false
theorem resOk_plain {l : List ResultVar} (h : resOk l = true) : plainRes l := by
 unfold resOk at h
 split at h
 . exact .inl rfl
 . exact .inr (.inl ⟨_, rfl⟩)
 . exact .inr (.inr (.inl ⟨_, _, rfl⟩))
 . exact .inr (.inr (.inr ⟨_, _, _, rfl⟩))
 . cases h
def fnFit (p : Program) (fs gs : FuncId -> Bool) (f : FuncId) : Bool :=
 match p.funcs[f]? with
 | some fn => !(fn.name == "runtime.NumGoroutine") && resOk fn.results.toList && (match fn.body with | some c => fitCode p ⟨fs, gs, false⟩ c | none => false)
 | none => false
theorem fnFit_ok {p : Program} {fs gs : FuncId -> Bool} {f : FuncId} (h : fnFit p fs gs f = true) : ∃ fn c, p.funcs[f]? = some fn /\ (fn.name == "runtime.NumGoroutine") = false /\ fn.body = some c /\ fitCode p ⟨fs, gs, false⟩ c = true /\ plainRes fn.results.toList := by
 unfold fnFit at h
 cases hf : p.funcs[f]? with
 | none => rw [hf] at h; cases h
 | some fn =>
   rw [hf] at h
   simp only [Bool.and_eq_true, Bool.not_eq_true'] at h
   cases hb : fn.body with
   | none => rw [hb] at h; cases h.2
   | some c => rw [hb] at h; exact ⟨fn, c, rfl, h.1.1, hb, h.2, resOk_plain h.1.2⟩
theorem zeros_low {p : Program} (h : zerosOk p = true) {t : TypeId} {i : TypeInfo} {z : Value} (ht : t < p.types.size) (hi : p.types[t]? = some i) (hz : i.zero = some z) : Zok z := by
 unfold zerosOk at h
 rw [List.all_eq_true] at h
 have := h t (List.mem_range.2 ht)
 have e : p.info? t = some i := by show Tables.info? p.toTables t = some i; unfold Tables.info?; rw [if_pos ht]; exact hi
 rw [e] at this
 simp only [hz] at this
 exact λ S K R => valOk_vr 12 z this
theorem zeros_at {p : Program} (h : zerosOk p = true) : ∀ n, ZInfo (Made.infoAt p.toTables n) := by
 intro n
 induction n with
 | zero => intro t i z hi; cases hi
 | succ n ih =>
   intro t i z hi hz
   unfold Made.infoAt at hi
   split at hi
   . next ht => exact zeros_low h ht hi hz
   . obtain ⟨d, _, hd⟩ := Option.bind_eq_some_iff.1 hi
     exact zok_reckon ih hd hz
theorem zeros_ok {p : Program} (h : zerosOk p = true) {S : FuncId -> Prop} {K R : Pr} {t : TypeId} {i : TypeInfo} {z : Value} (hi : p.info? t = some i) (hz : i.zero = some z) : VR S K R z z := by
 have hi' : Tables.info? p.toTables t = some i := hi
 unfold Tables.info? at hi'
 split at hi'
 . next ht => exact zeros_low h ht hi' hz S K R
 . exact zeros_at h Made.depth t i z hi' hz S K R
def inL (l : List Nat) (f : FuncId) : Bool := l.contains f
theorem inL_mem {l : List Nat} {f : FuncId} (h : inL l f = true) : f ∈ l := by simpa [inL] using h
theorem fit3_of {p : Program} {gl fl : List Nat} (hz : zerosOk p = true) (h : gl.all (fnFit p (inL fl) (inL gl)) = true) : Fit3 (PS p (inL gl)) (inL fl) where
 zero := λ K R t i z hi hz' => zeros_ok hz hi hz'
 fn := λ f hf _ => by
   obtain ⟨fn, c, h1, h2, h3, h4, _⟩ := fnFit_ok (List.all_eq_true.1 h f (inL_mem hf))
   exact ⟨fn, c, h1, h1, h2, h3, h4⟩
 opq := λ f _ ho => by cases ho
 low := λ f ho => by cases ho
 dyn := λ h => by cases h
 guard := λ t => rfl
 res := λ f hf _ fn hfn => by
   obtain ⟨fn', c, h1, h2, h3, h4, h5⟩ := fnFit_ok (List.all_eq_true.1 h f (inL_mem hf))
   have h1' : (PS p (inL gl)).c.funcs[f]? = some fn' := h1
   rw [h1'] at hfn
   obtain rfl := Option.some.inj hfn
   exact h5
 follows := rfl
 none := λ _ => rfl
def opFit (p : Program) (fs gs : FuncId -> Bool) (f : FuncId) : Bool :=
 match p.funcs[f]? with
 | some fn => !(fn.name == "runtime.NumGoroutine") && (match fn.body with | some c => !(fitCode p ⟨fs, gs, false⟩ c) | none => false)
 | none => false
theorem lv_of {p : Program} {ol al gl fl : List Nat} (hz : zerosOk p = true) (h1 : gl.all (fnFit p (inL fl) (inL gl)) = true) (h2 : al.all (λ f => ol.contains f || fnFit p (inL fl) (inL al) f) = true) (h3 : ol.all (opFit p (inL fl) (inL gl)) = true) (h4 : ol.all (opFit p (inL fl) (inL al)) = true) :
   Lv p (inL ol) (inL al) (inL gl) (inL fl) where
 fit := {
   zero := λ K R t i z hi hz' => zeros_ok hz hi hz'
   fn := λ f hf ho => by
     have := List.all_eq_true.1 h2 f (inL_mem hf)
     have ho' : ol.contains f = false := ho
     rw [ho', Bool.false_or] at this
     obtain ⟨fn, c, h1, h2, h3, h4, _⟩ := fnFit_ok this
     exact ⟨fn, c, h1, h1, h2, h3, h4⟩
   opq := λ f _ ho => by
     have := List.all_eq_true.1 h4 f (inL_mem ho)
     unfold opFit at this
     cases hf : p.funcs[f]? with
     | none => rw [hf] at this; cases this
     | some fn =>
       rw [hf] at this
       simp only [Bool.and_eq_true, Bool.not_eq_true'] at this
       cases hb : fn.body with
       | none => rw [hb] at this; cases this.2
       | some c => exact ⟨fn, fn, c, c, rfl, rfl, this.1, this.1, hb, hb⟩
   low := λ f ho => by cases ho
   dyn := λ h => by cases h
   guard := λ t => rfl
   res := λ f hf ho fn hfn => by
     have := List.all_eq_true.1 h2 f (inL_mem hf)
     have ho' : ol.contains f = false := ho
     rw [ho', Bool.false_or] at this
     obtain ⟨fn', c, h1, h2, h3, h4, h5⟩ := fnFit_ok this
     have h1' : (PL p (inL ol) (inL al)).c.funcs[f]? = some fn' := h1
     rw [h1'] at hfn
     obtain rfl := Option.some.inj hfn
     exact h5
   follows := rfl }
 fit₁ := fit3_of hz h1
 nofit := λ f ho => by
   have := List.all_eq_true.1 h3 f (inL_mem ho)
   unfold opFit at this
   cases hf : p.funcs[f]? with
   | none => rw [hf] at this; cases this
   | some fn =>
     rw [hf] at this
     simp only [Bool.and_eq_true, Bool.not_eq_true'] at this
     cases hb : fn.body with
     | none => rw [hb] at this; cases this.2
     | some c => rw [hb] at this; exact ⟨fn, c, rfl, hb, this.1, by simpa using this.2⟩
end Go.Mt
