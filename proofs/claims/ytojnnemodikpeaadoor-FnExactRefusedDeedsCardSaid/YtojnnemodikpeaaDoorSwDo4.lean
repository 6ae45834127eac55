/-
  The switchboard: do, a look; and do whatever the deed.
-/
import Derived.Test.YtojnnemodikpeaaDoorSwDo3
namespace Go.Proofs.YtojnnemodikpeaaDoor
open Go.RowKit Go.Conc
set_option linter.unusedVariables false
set_option maxRecDepth 20000 in
set_option maxHeartbeats 2000000 in
theorem do_look0 {w : World} {base : Nat} {S : Sw} {ls : List Ln} (h : SwOk w base S ls) (hw : base ≤ w.heap.size) {d : DeedD} (h0 : d.a = 0) (ht : d.act.toList = lookA) :
    Calls Tryd.prog 87 #[.pointer (some ⟨S.sp, 0, none⟩), .agg #[.string d.act, .int .i64 d.a, .int .i64 d.b]] w fun e w' => e = .returned (.string ⟨(Lib.itoa 0).toArray⟩) ∧ Below w.heap.size w w' := by
  obtain ⟨s, x, y⟩ := d
  have hx : x = 0 := h0
  subst hx
  have h1 := str_is ht
  unfold lookA at h1
  have ec := blk_cell h.st
  have zs := blk_lt h.st
  have eg := row_cells (j := 0) (v := .chan none) h.lines (by simp [Sw.lines])
  have zg := blk_lt (row_blk h.lines).2.choose_spec.1
  have i1 : (0 : Int) < (S.cs.length : Int) + 1 := by omega
  have e0 : Lib.itoa 0 = Lib.decDigits 0 := Lib.itoa_nonneg 0
  have hI : ∀ W, Calls Tryd.prog 98 #[.int .i64 0] W (fun e w' => e = .returned (.string ⟨(Lib.decDigits 0).toArray⟩) ∧ w' = W) := fun W => Tryd.strconv_Itoa_small 0 (by omega) W
  have HE := Lib.hid e0
  have HI := Lib.hid hI
  clear e0 hI
  have hlen : ∀ W : World, (Builtin.len_ #[81] 3 #[.chan none]).run Tryd.prog W = .ok (.int .i64 0) W := by
    intro W
    simp [Builtin.len_, go_sem, underlying]
  clear h h0 ht
  go_enter Tryd.func87, Tryd.ntmps87
  go_upto_region 1 with fail
  go_region
  go_wp2_with (go_at_call 98; refine (HI.out _).mono ?_; rintro e w1 ⟨rfl, rfl⟩)
  go_ret
  exact ⟨by rw [HE.out]; rfl, below_drew (below_al (Below.refl _ _) _)⟩
set_option maxRecDepth 20000 in
set_option maxHeartbeats 2000000 in
theorem do_look {w : World} {base : Nat} {S : Sw} {ls : List Ln} (h : SwOk w base S ls) (hw : base ≤ w.heap.size) {d : DeedD} {i c : Nat} {l : Ln} (hc : S.cs[i]? = some c) (hl : ls[i + 1]? = some l) (h0 : d.a = (i : Int) + 1) (ht : d.act.toList = lookA) (hsm : l.held.length < 100) :
    Calls Tryd.prog 87 #[.pointer (some ⟨S.sp, 0, none⟩), .agg #[.string d.act, .int .i64 d.a, .int .i64 d.b]] w fun e w' => e = .returned (.string ⟨(Lib.itoa l.held.length).toArray⟩) ∧ Below w.heap.size w w' := by
  obtain ⟨s, x, y⟩ := d
  have hx : x = (i : Int) + 1 := h0
  subst hx
  have h1 := str_is ht
  unfold lookA at h1
  have ec := blk_cell h.st
  have zs := blk_lt h.st
  have eg := row_cells (j := i + 1) (v := .chan (some c)) h.lines (by simp [Sw.lines, hc])
  have zg := blk_lt (row_blk h.lines).2.choose_spec.1
  have hic := (List.getElem?_eq_some_iff.1 hc).1
  have i0 : (0 : Int) ≤ (i : Int) + 1 := by omega
  have i1 : (i : Int) + 1 < (S.cs.length : Int) + 1 := by omega
  obtain ⟨b1, b2, s0, r0, hch⟩ := h.chans i c l hc hl
  have hch2 : ((w.alloc (.cells #[.string s, .int .i64 ((i : Int) + 1), .int .i64 y] 46)).drew).heap[c]? = some (.chan l.room.toNat (ints l.held).toArray l.ended s0 r0 false) := blk_drew (blk_alloc hch _)
  have hln : ((ints l.held).toArray).size = l.held.length := by simp [ints]
  have hlen : ∀ W : World, W.heap[c]? = some (.chan l.room.toNat (ints l.held).toArray l.ended s0 r0 false) → (Builtin.len_ #[81] 3 #[.chan (some c)]).run Tryd.prog W = .ok (.int .i64 (l.held.length : Int)) W := by
    intro W hW
    simp [Builtin.len_, go_sem, underlying, getObj, Sem.run, hW, hln]
  have hq2 := hlen _ hch2
  clear h hl h0 ht hc hch hlen
  go_enter Tryd.func87, Tryd.ntmps87
  go_upto_region 1 with fail
  go_region
  go_wp2_with (go_at_call 98; refine (Tryd.strconv_Itoa_small l.held.length hsm _).mono ?_; rintro e w1 ⟨rfl, rfl⟩)
  go_ret
  exact ⟨by rw [Lib.itoa_nonneg]; rfl, below_drew (below_al (Below.refl _ _) _)⟩
end Go.Proofs.YtojnnemodikpeaaDoor
