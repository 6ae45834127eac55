/-
  eachRecord, the whole phase.
-/
import Derived.Test.YtjcpjijihajopaaEachG
set_option linter.unusedSectionVars false
set_option linter.unusedSimpArgs false
set_option linter.unusedVariables false
namespace Go.Proofs.Ytjcpjijihajopaa
open Go.RowKit Go.Mt Go.Conc Go.Tt Go.Conc.Lib Go.ConcR.Gen
set_option linter.unusedVariables false
section
variable {Post : Value → World → Prop} {Shun : Loc → Prop} {W0 : World} {St : Nat → Prop} {n cap : Nat} {rs : List RecD} {K R : Pr} {I : Nat → World → Prop} {cf : Frame} {cs : List Frame} {f : FuncId} {capt : Array Value} {A A' : Option Addr} {vf' : Value} {w W W4 : World} {src : Option Blk}
set_option maxHeartbeats 8000000 in
set_option maxRecDepth 100000 in
theorem each_phase (hw : WRel (SF fsF) K R Try.prog.globals.size St w W) (hsh : Sh W0.heap.size Shun R W) (hk : Kp W0 R St W) (hs : srcOk w A src) (hlo : ∀ b, src = some b → Try.prog.globals.size ≤ b.rb) (hslc : Slc w 0 w.heap.size 7 A n cap (recs rs)) (hn : n ≤ 1048576)
    (hA : OaR R A A') (hvf : VR (SF fsF) K R (.func (.func f) #[] capt) vf') (hst : St4 W W4 (.slice A' n cap)) (E : EachI f capt rs I) (hf : gsF f = true) (hI0 : I 0 (ghostM w src 76))
    (hcont : ∀ (K' R' : Pr) (wn Wn : World), K.le K' → R.le R' → WRel (SF fsF) K' R' Try.prog.globals.size St (thaw wn src) Wn → I n wn → Sh W0.heap.size (shunG Shun (W.heap.size + 3)) R' Wn → Kp W0 R' St Wn → J Try.prog Post (shunG Shun (W.heap.size + 3)) Wn.heap.size (G (cf.finish (.tuple #[])) cs) Wn) :
    J Try.prog Post Shun (W.heap.size + 3) (G ((Conc.base 35).at ⟨#[.slice A' n cap, vf', .pointer (some ⟨W.heap.size, 0, none⟩), undef, .pointer (some ⟨W.heap.size + 2, 0, none⟩), .pointer (some ⟨W.heap.size + 3, 0, none⟩), undef, .chan (some (W.heap.size + 1)), undef, undef, undef, undef, undef, undef, undef, undef, undef, undef], []⟩ [.code rEM3, .code (.seq rEM4 (.seq (.seq rEM5 (.block 0 (.loop loopEM))) rEM9))]) (cf :: cs)) W4 := by
  have hrs : rs.length = n := hslc.recLen
  have hlt : ∀ a b, R a b → b < W.heap.size := fun a b x => (hw.lt a b (.inl x)).2
  have hltK : ∀ a b, (R.or K) a b → b < W.heap.size := fun a b x => (hw.lt a b x).2
  have hsR : ∀ b, src = some b → ∃ b', R b.rb b' := fun b e => by
    subst e
    obtain ⟨rfl, _, _⟩ := hs
    cases hA with
    | some x => cases x with | mk x => exact ⟨_, x⟩
  have hW0 : W0.heap.size ≤ W.heap.size := hk.size
  have hstill : ∀ b, (∃ a, R a b ∧ ¬ StF St src a) → W0.heap.size ≤ b := fun b ⟨a, h1, h2⟩ => by
    rcases Nat.lt_or_ge b W0.heap.size with h | h
    · exact absurd (.inl (hk.old a b h1 h)) h2
    · exact h
  refine J.phase (pipe_ok (W.heap.size + 1) n (recVal rs)) (ty := wgl.tWg) (Wg := W.heap.size + 3) (l := .m0) (τ := tau0 R St src W0 W) ?hb hst.b3 ⟨Nat.le_refl _, by rw [hst.size]; omega⟩ ?bnd rfl (.a .m0 (.inl rfl) rfl fun i hi => by simp [hi])
  case bnd =>
    rintro b ((⟨a, h1, h2⟩ | rfl | rfl | rfl) | (h | ⟨a, h1, h2⟩) | h)
    · have := hlt a b h1
      exact ⟨by rw [hst.size]; omega, by omega, hsh.rel a b h1⟩
    · exact ⟨by rw [hst.size]; omega, by omega, fun l hl => hsh.new l _ hl (by omega)⟩
    · exact ⟨by rw [hst.size]; omega, by omega, fun l hl => hsh.new l _ hl (by omega)⟩
    · exact ⟨by rw [hst.size]; omega, by omega, fun l hl => hsh.new l _ hl (by omega)⟩
    · exact ⟨by rw [hst.size]; omega, by omega, fun l hl => hsh.old l b hl h⟩
    · have := hlt a b h1
      exact ⟨by rw [hst.size]; omega, by omega, hsh.rel a b h1⟩
    · exact h.elim
  case hb =>
    have hF0 : F4 R W0 W (.slice A' n cap) W4 := ⟨fun a b x => hst.keep b (hlt a b x), hst.b0, hst.b1, hst.b2, hst.os, hst.tape, hst.output, fun b hb => (hst.keep b (by omega)).trans (hk.block b hb), by rw [hst.size]; exact Nat.le_refl _⟩
    have kf := f4_keep (R := R) (St := St) (src := src) (v := .slice A' n cap) hlt hW0
    -- behind Add
    have hgo : ∀ W5, F4 R W0 W (.slice A' n cap) W5 → WgLive wgl.tWg (W.heap.size + 3) W5 → BehE Try.prog wgl.tWg (W.heap.size + 3) (pipe (W.heap.size + 1) n (recVal rs)) (finJ Post Shun (W.heap.size + 3)) true (.usr .m1) 0 (tau0 R St src W0 W) (G ((Conc.base 35).at ⟨#[.slice A' n cap, vf', .pointer (some ⟨W.heap.size, 0, none⟩), undef, .pointer (some ⟨W.heap.size + 2, 0, none⟩), .pointer (some ⟨W.heap.size + 3, 0, none⟩), undef, .chan (some (W.heap.size + 1)), .tuple #[], undef, undef, undef, undef, undef, undef, undef, undef, undef], []⟩ [.inRegion ops3 [], .code (.seq rEM4 (.seq (.seq rEM5 (.block 0 (.loop loopEM))) rEM9))]) (cf :: cs)) W5 := by
      intro W5 h5 hl5
      have kp := fun W' W'' (st : Suf wgl.tWg (W.heap.size + 3) (tau0 R St src W0 W) W' W'') (x : F4 R W0 W (.slice A' n cap) W' ∧ WgLive wgl.tWg (W.heap.size + 3) W') => (⟨kf.suf _ _ st x.1, st.live x.2⟩ : F4 R W0 W (.slice A' n cap) W'' ∧ WgLive wgl.tWg (W.heap.size + 3) W'')
      refine beh_silent rfl rfl (fun W₁ s => stepG_region_end) fun W₁ s1 => ?_
      refine beh_silent rfl rfl (fun W₁ s => stepG_seq) fun W₂ s2 => ?_
      refine beh_silent rfl rfl (fun W₁ s => by rw [rEM4_eq]; exact stepG_region) fun W₃ s3 => ?_
      rw [ops4_range]
      have h3 := kp _ _ s3 (kp _ _ s2 (kp _ _ s1 ⟨h5, hl5⟩))
      refine beh_silent rfl rfl (g' := G ((Conc.base 35).at ⟨#[.slice A' n cap, vf', .pointer (some ⟨W.heap.size, 0, none⟩), undef, .pointer (some ⟨W.heap.size + 2, 0, none⟩), .pointer (some ⟨W.heap.size + 3, 0, none⟩), undef, .chan (some (W.heap.size + 1)), .tuple #[], .func (.func 55) #[] #[.pointer (some ⟨W.heap.size + 3, 0, none⟩), .pointer (some ⟨W.heap.size + 2, 0, none⟩), .pointer (some ⟨W.heap.size, 0, none⟩)], undef, undef, undef, undef, undef, undef, undef, undef], []⟩ [.inRegion ops4 [1], .code (.seq (.seq rEM5 (.block 0 (.loop loopEM))) rEM9)]) (cf :: cs)) (fun W₄ s4 => ?_) fun W₄ s4 => ?_
      · have x1 : (execOp (Go.Act.mk #[.slice A' n cap, vf', .pointer (some ⟨W.heap.size, 0, none⟩), undef, .pointer (some ⟨W.heap.size + 2, 0, none⟩), .pointer (some ⟨W.heap.size + 3, 0, none⟩), undef, .chan (some (W.heap.size + 1)), .tuple #[], undef, undef, undef, undef, undef, undef, undef, undef, undef] []).eval oper40).run Try.prog W₄ = .ok (.value (.func (.func 55) #[] #[.pointer (some ⟨W.heap.size + 3, 0, none⟩), .pointer (some ⟨W.heap.size + 2, 0, none⟩), .pointer (some ⟨W.heap.size, 0, none⟩)])) W₄ := by simp [execOp, go_sem, Go.Act.eval]
        have x2 : (execOp (Go.Act.mk #[.slice A' n cap, vf', .pointer (some ⟨W.heap.size, 0, none⟩), undef, .pointer (some ⟨W.heap.size + 2, 0, none⟩), .pointer (some ⟨W.heap.size + 3, 0, none⟩), undef, .chan (some (W.heap.size + 1)), .tuple #[], undef, undef, undef, undef, undef, undef, undef, undef, undef] []).eval oper40).events Try.prog W₄ #[] = #[] := by simp [execOp, go_sem, Go.Act.eval]
        have hstp := stepG_value (main := true) (b := Conc.base 35) (a := ⟨#[.slice A' n cap, vf', .pointer (some ⟨W.heap.size, 0, none⟩), undef, .pointer (some ⟨W.heap.size + 2, 0, none⟩), .pointer (some ⟨W.heap.size + 3, 0, none⟩), undef, .chan (some (W.heap.size + 1)), .tuple #[], undef, undef, undef, undef, undef, undef, undef, undef, undef], []⟩) (rest := [1]) (cs := cf :: cs) (k := [.code (.seq (.seq rEM5 (.block 0 (.loop loopEM))) rEM9)]) ops4_0 rfl (by decide) x1
        rw [hstp]
        unfold listed
        rw [x2, Conc.seen_none]
        rfl
      refine BehE.usr rfl ?_
      unfold AtUsr
      show (_ : Nat) = 0 ∧ _
      refine ⟨rfl, fun W₇ s7 => ?_⟩
      have h7 := kp _ _ s7 (kp _ _ s4 h3)
      have hm := go_main hw hsh hk hs hslc hA hvf E hf hI0 hcont h7.1 h7.2
      have hc := go_child (Fin := finJ Post Shun (W.heap.size + 3)) (St := St) hw hW0 hs hlo hslc hn hA h7.1 h7.2
      refine ⟨_, _, tauM R St src W0 W, tauC R St src W0 W, ?_, rfl, rfl, ?_, ?_, ?_, ?_, ?_, ?_, hm, hc⟩
      · have x1 : (execOp (Go.Act.mk #[.slice A' n cap, vf', .pointer (some ⟨W.heap.size, 0, none⟩), undef, .pointer (some ⟨W.heap.size + 2, 0, none⟩), .pointer (some ⟨W.heap.size + 3, 0, none⟩), undef, .chan (some (W.heap.size + 1)), .tuple #[], .func (.func 55) #[] #[.pointer (some ⟨W.heap.size + 3, 0, none⟩), .pointer (some ⟨W.heap.size + 2, 0, none⟩), .pointer (some ⟨W.heap.size, 0, none⟩)], undef, undef, undef, undef, undef, undef, undef, undef] []).eval oper41).run Try.prog W₇ = .ok (.spawn { target := .fn (.func 55) #[.pointer (some ⟨W.heap.size + 3, 0, none⟩), .pointer (some ⟨W.heap.size + 2, 0, none⟩), .pointer (some ⟨W.heap.size, 0, none⟩)], args := #[] }) W₇ := by simp [execOp, go_sem, Go.Act.eval, resolve, Deferred.ofValue]
        have x2 : (execOp (Go.Act.mk #[.slice A' n cap, vf', .pointer (some ⟨W.heap.size, 0, none⟩), undef, .pointer (some ⟨W.heap.size + 2, 0, none⟩), .pointer (some ⟨W.heap.size + 3, 0, none⟩), undef, .chan (some (W.heap.size + 1)), .tuple #[], .func (.func 55) #[] #[.pointer (some ⟨W.heap.size + 3, 0, none⟩), .pointer (some ⟨W.heap.size + 2, 0, none⟩), .pointer (some ⟨W.heap.size, 0, none⟩)], undef, undef, undef, undef, undef, undef, undef, undef] []).eval oper41).events Try.prog W₇ #[] = #[] := by simp [execOp, go_sem, Go.Act.eval, resolve, Deferred.ofValue]
        have hstp := stepG_spawn (main := true) (b := Conc.base 35) (a := ⟨#[.slice A' n cap, vf', .pointer (some ⟨W.heap.size, 0, none⟩), undef, .pointer (some ⟨W.heap.size + 2, 0, none⟩), .pointer (some ⟨W.heap.size + 3, 0, none⟩), undef, .chan (some (W.heap.size + 1)), .tuple #[], .func (.func 55) #[] #[.pointer (some ⟨W.heap.size + 3, 0, none⟩), .pointer (some ⟨W.heap.size + 2, 0, none⟩), .pointer (some ⟨W.heap.size, 0, none⟩)], undef, undef, undef, undef, undef, undef, undef, undef], []⟩) (rest := []) (cs := cf :: cs) (k := [.code (.seq (.seq rEM5 (.block 0 (.loop loopEM))) rEM9)]) ops4_1 rfl (by decide) x1 rfl
        rw [hstp]
        unfold listed
        rw [x2, Conc.seen_none]
        rfl
      · rintro b (x | x)
        · exact .inl x
        · exact x.elim
      · rintro b ((x | x | x) | (x | x | x | x))
        · exact .inl (.inl x)
        · exact .inl (.inr x)
        · exact .inr (.inr (.inr (.inr x)))
        · exact .inl (.inl x)
        · exact .inl (.inr x)
        · exact .inr (.inr (.inl x))
        · exact .inr (.inr (.inr (.inr x)))
      · rintro b (x | x)
        · exact x.elim
        · exact .inr (.inl (.inr (.inr (.inl x))))
      · rintro b ⟨a, x, y⟩
        have hb := hlt a b x
        have hb2 := hstill b ⟨a, x, y⟩
        refine ⟨id, ?_, ?_⟩
        · rintro (z | ⟨a', x', y'⟩ | z | z)
          · omega
          · obtain rfl := hw.inj' a a' b (.inl x) (.inl x')
            exact y y'
          · omega
          · omega
        · intro z
          have z' : b = W.heap.size + 1 := z
          omega
      · intro b x
        exact x.elim
      · intro a ha
        obtain rfl : a = W.heap.size + 1 := List.mem_singleton.1 ha
        refine ⟨.inr (.inr (.inl rfl)), h7.1.b1, ?_, ?_, id, ?_⟩
        · rintro ⟨a, x, _⟩
          have := hlt a _ x; omega
        · rintro (z | ⟨a, x, _⟩ | z)
          · omega
          · have := hlt a _ x; omega
          · omega
        · rintro (z | ⟨a, x, _⟩ | z | z)
          · omega
          · have := hlt a _ x; omega
          · omega
          · omega
    -- the call of Add
    refine beh_silent rfl rfl (fun W₁ s => by rw [rEM3_eq]; exact stepG_region) fun W₁ s => ?_
    rw [ops3_range]
    refine beh_silent rfl rfl (g' := G ((Conc.base wgl.add).at ⟨#[.pointer (some ⟨W.heap.size + 3, 0, none⟩), .int .i64 1, undef, undef, undef, undef, undef, undef, undef, undef, undef, undef, undef, undef, undef, undef, undef, undef, undef, undef, undef, undef, undef, undef, undef, undef, undef, undef, undef, undef, undef, undef, undef, undef, undef, undef, undef, undef, undef, undef, undef, undef, undef, undef, undef, undef, undef, undef, undef, undef, undef, undef, undef, undef, undef, undef, undef, undef, undef, undef, undef, undef, undef, undef, undef, undef, undef, undef, undef, undef, undef, undef, undef, undef, undef, undef, undef, undef, undef, undef, undef, undef, undef, undef, undef, undef, undef, undef, undef, undef, undef, undef, undef, undef, undef, undef, undef, undef, undef, undef, undef, undef, undef, undef, undef, undef, undef, undef, undef, undef, undef, undef, undef, undef, undef, undef, undef], []⟩ [.code (body_add wgl)]) ((Conc.base 35).at ⟨#[.slice A' n cap, vf', .pointer (some ⟨W.heap.size, 0, none⟩), undef, .pointer (some ⟨W.heap.size + 2, 0, none⟩), .pointer (some ⟨W.heap.size + 3, 0, none⟩), undef, .chan (some (W.heap.size + 1)), undef, undef, undef, undef, undef, undef, undef, undef, undef, undef], []⟩ [.inRegion ops3 [0], .code (.seq rEM4 (.seq (.seq rEM5 (.block 0 (.loop loopEM))) rEM9))] :: cf :: cs)) (fun W₂ s2 => ?_) fun W₂ s2 => ?_
    · obtain ⟨x1, x2⟩ := exec_call (p := Try.prog) (o := oper3) rfl (ρ := (Go.Act.mk #[.slice A' n cap, vf', .pointer (some ⟨W.heap.size, 0, none⟩), undef, .pointer (some ⟨W.heap.size + 2, 0, none⟩), .pointer (some ⟨W.heap.size + 3, 0, none⟩), undef, .chan (some (W.heap.size + 1)), undef, undef, undef, undef, undef, undef, undef, undef, undef, undef] []).eval) (fun g => rfl) wgLib.f_add rfl rfl W₂
      have hargs : (#[.tmp 5, .const (.int .i64 1)] : Array Operand).map (Go.Act.mk #[.slice A' n cap, vf', .pointer (some ⟨W.heap.size, 0, none⟩), undef, .pointer (some ⟨W.heap.size + 2, 0, none⟩), .pointer (some ⟨W.heap.size + 3, 0, none⟩), undef, .chan (some (W.heap.size + 1)), undef, undef, undef, undef, undef, undef, undef, undef, undef, undef] []).eval = #[.pointer (some ⟨W.heap.size + 3, 0, none⟩), .int .i64 1] := by simp [Go.Act.eval]
      rw [hargs] at x1
      have hstp := stepG_enter (main := true) (b := Conc.base 35) (a := ⟨#[.slice A' n cap, vf', .pointer (some ⟨W.heap.size, 0, none⟩), undef, .pointer (some ⟨W.heap.size + 2, 0, none⟩), .pointer (some ⟨W.heap.size + 3, 0, none⟩), undef, .chan (some (W.heap.size + 1)), undef, undef, undef, undef, undef, undef, undef, undef, undef, undef], []⟩) (rest := []) (cs := cf :: cs) (k := [.code (.seq rEM4 (.seq (.seq rEM5 (.block 0 (.loop loopEM))) rEM9))]) ops3_at rfl (by decide) x1
      rw [hstp]
      unfold listed
      rw [x2, Conc.seen_none, ← add_ent]
    · have hput : Go.Act.put ⟨#[.slice A' n cap, vf', .pointer (some ⟨W.heap.size, 0, none⟩), undef, .pointer (some ⟨W.heap.size + 2, 0, none⟩), .pointer (some ⟨W.heap.size + 3, 0, none⟩), undef, .chan (some (W.heap.size + 1)), undef, undef, undef, undef, undef, undef, undef, undef, undef, undef], []⟩ ((ops3[0]?).bind (·.dst)) (.tuple #[]) = ⟨#[.slice A' n cap, vf', .pointer (some ⟨W.heap.size, 0, none⟩), undef, .pointer (some ⟨W.heap.size + 2, 0, none⟩), .pointer (some ⟨W.heap.size + 3, 0, none⟩), undef, .chan (some (W.heap.size + 1)), .tuple #[], undef, undef, undef, undef, undef, undef, undef, undef, undef], []⟩ := by rw [ops3_at]; rfl
      rw [← hput] at hgo
      exact addW (A := pipe (W.heap.size + 1) n (recVal rs)) (b₀ := Conc.base 35) (a₀ := ⟨#[.slice A' n cap, vf', .pointer (some ⟨W.heap.size, 0, none⟩), undef, .pointer (some ⟨W.heap.size + 2, 0, none⟩), .pointer (some ⟨W.heap.size + 3, 0, none⟩), undef, .chan (some (W.heap.size + 1)), undef, undef, undef, undef, undef, undef, undef, undef, undef, undef], []⟩) (ops₀ := ops3) (i₀ := 0) (rest₀ := []) (k₀ := [.code (.seq rEM4 (.seq (.seq rEM5 (.block 0 (.loop loopEM))) rEM9))]) (cs := cf :: cs) (Fin := finJ Post Shun (W.heap.size + 3)) (l := PpL.m0) (nx := PpL.m1) (Wg := W.heap.size + 3) wgLib rfl kf hgo W₂ ⟨kf.suf _ _ s2 (kf.suf _ _ s hF0), s2.live (s.live ⟨0, 0, hst.b3⟩)⟩
end
end Go.Proofs.Ytjcpjijihajopaa
