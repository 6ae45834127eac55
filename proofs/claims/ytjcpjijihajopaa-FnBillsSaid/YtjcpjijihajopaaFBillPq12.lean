/-
 Part 12 of what stands behind the last text.
-/
import Derived.OwnWalk
import Derived.Maps.AppendAt
import Derived.Deep.AppendLies
import Derived.Deep.CutRange
import Derived.Deep.CutBlock
import Derived.Deep.RegionHeld3
import Derived.Maps.OwnSet
import Derived.Test.YtjcpjijihajopaaFBillPq11
set_option linter.unusedSectionVars false
set_option linter.unusedSimpArgs false
set_option linter.unusedVariables false
namespace Go.Proofs.Ytjcpjijihajopaa
open Go.RowKit
structure RunAt (w0 w : World) (gb : Nat) (o : OffD) (v : RoomV) (r : RoomD) : Prop where
 ok : RoomOk w gb v r
 bel : Below gb w0 w
 ofc : w.heap[gb]? = some (.cells #[.int .i64 o.ln, .int .i64 o.op, .int .i64 o.pt] 91)
 res : w.heap[gb + 1]? = some roomZ
 blk : w.heap[gb + 6]? = some (roomO v r)
 aR : gb + 2 <= v.gR /\ v.gR ≠ gb + 6
 aW : gb + 2 <= v.gW /\ v.gW ≠ gb + 6
 aB : gb + 2 <= v.gB /\ v.gB ≠ gb + 6
 aL : gb + 2 <= v.gL /\ v.gL ≠ gb + 6
 size : gb + 7 <= w.heap.size
section
variable {w0 w w' : World} {gb : Nat} {o : OffD} {v v' : RoomV} {r r' : RoomD}
theorem RunAt.keep (h : RunAt w0 w gb o v r) (b : Below w.heap.size w w') : RunAt w0 w' gb o v r :=
 ⟨h.ok.below b, h.bel.trans (b.mono (by have := h.size; omega)), (b.block _ (blk_lt h.ofc)).trans h.ofc, (b.block _ (blk_lt h.res)).trans h.res, (b.block _ (blk_lt h.blk)).trans h.blk, h.aR, h.aW, h.aB, h.aL, Nat.le_trans h.size b.size⟩
theorem RunAt.alloc (h : RunAt w0 w gb o v r) (ob : Obj) : RunAt w0 (w.alloc ob) gb o v r := h.keep (below_al (Below.refl _ _) ob)
theorem RunAt.drew (h : RunAt w0 w gb o v r) : RunAt w0 w.drew gb o v r := h.keep ⟨rfl, rfl, rfl, Nat.le_refl _, λ _ _ => rfl⟩
theorem RunAt.stepped (h : RunAt w0 w gb o v r) (ok : RoomOk w' gb v' r') (t : Turn v w w') (m : Moved w.heap.size v v') :
   Below gb w0 w' /\ w'.heap[gb]? = w.heap[gb]? /\ w'.heap[gb + 1]? = w.heap[gb + 1]? /\ w'.heap[gb + 6]? = w.heap[gb + 6]? /\ (gb + 2 <= v'.gR /\ v'.gR ≠ gb + 6) /\ (gb + 2 <= v'.gW /\ v'.gW ≠ gb + 6) /\ (gb + 2 <= v'.gB /\ v'.gB ≠ gb + 6) /\ (gb + 2 <= v'.gL /\ v'.gL ≠ gb + 6) /\ w.heap.size <= w'.heap.size := by
 have aR := h.aR; have aW := h.aW; have aB := h.aB; have aL := h.aL
 have mr := m.r; have mw := m.w; have mb := m.b; have ml := m.l
 have sz := h.size
 refine ⟨⟨t.os.trans h.bel.os, t.tape.trans h.bel.tape, t.output.trans h.bel.output, Nat.le_trans h.bel.size t.size, λ b hb => ?_⟩, t.block _ (by omega) (by omega) (by omega), t.block _ (by omega) (by omega) (by omega), t.block _ (by omega) (by omega) (by omega), by omega, by omega, by omega, by omega, t.size⟩
 exact (t.block b (by omega) (by omega) (by omega)).trans (h.bel.block b hb)
theorem RunAt.stored (ok : RoomOk w gb v' r') (bel : Below gb w0 w) (e0 : w.heap[gb]? = some (.cells #[.int .i64 o.ln, .int .i64 o.op, .int .i64 o.pt] 91)) (e1 : w.heap[gb + 1]? = some roomZ) (e6 : w.heap[gb + 6]? = some (roomO v r))
   (a1 : gb + 2 <= v'.gR /\ v'.gR ≠ gb + 6) (a2 : gb + 2 <= v'.gW /\ v'.gW ≠ gb + 6) (a3 : gb + 2 <= v'.gB /\ v'.gB ≠ gb + 6) (a4 : gb + 2 <= v'.gL /\ v'.gL ≠ gb + 6) (sz : gb + 7 <= w.heap.size) :
   RunAt w0 (set8 w (gb + 6) (.int .i64 r'.o.ln) (.int .i64 r'.o.op) (.int .i64 r'.o.pt) (.int .i64 r'.clk) (v'.sR r') (v'.sW r') (v'.sB r') (v'.sL r')) gb o v' r' := by
 refine ⟨ok.set8 (by omega), ?_, (set8_other (by omega)).trans e0, (set8_other (by omega)).trans e1, set8_blk e6, a1, a2, a3, a4, by rw [set8_size]; exact sz⟩
 have c := set8_chg w (gb + 6) (.int .i64 r'.o.ln) (.int .i64 r'.o.op) (.int .i64 r'.o.pt) (.int .i64 r'.clk) (v'.sR r') (v'.sW r') (v'.sB r') (v'.sL r')
 exact bel.trans ⟨c.os, c.tape, c.output, c.size, λ b hb => c.block b (by omega) (by omega)⟩
theorem RunAt.appL {m g c : Nat} {x : List UInt8} (h : RunAt w0 w gb o v r) (hg : w.grownBy w' (some v.gL)) (ho : w'.ownsRow gb 9 1 (.slice (some ⟨g, 0, none⟩) m c) m (txts r.log ++ [.string ⟨x.toArray⟩])) (hm : m = r.log.length + 1) (hw : g = v.gL \/ g = w.heap.size) :
   RunAt w0 (w'.setCell ⟨gb + 6, 7, none⟩ (.slice (some ⟨g, 0, none⟩) m c)) gb o { v with gL := g, cL := c } { r with log := r.log ++ [x] } := by
 have aR := h.aR; have aW := h.aW; have aB := h.aB; have aL := h.aL
 have sz := h.size
 have l := h.ok.lts
 have hk := h.ok.appL hg ho hm (by omega)
 have hs := hg.size
 have kb := (blk_grown6 hg h.blk (by omega)).1
 have k0 := (blk_grown6 hg h.ofc (by omega)).1
 have k1 := (blk_grown6 hg h.res (by omega)).1
 have hne : g ≠ gb + 6 := by omega
 refine ⟨hk.setCell (by refine ⟨?_, ?_, ?_, ?_⟩ <;> (simp only; omega)), ?_, (Below.heap_setCell w' _ _ gb (by show gb ≠ gb + 6; omega)).trans k0, (Below.heap_setCell w' _ _ (gb + 1) (by show gb + 1 ≠ gb + 6; omega)).trans k1, ?_, aR, aW, aB, ⟨by simp only; omega, hne⟩, by rw [World.size_setCell]; omega⟩
 . refine ⟨hg.os.trans h.bel.os, hg.tape.trans h.bel.tape, hg.output.trans h.bel.output, by rw [World.size_setCell]; exact Nat.le_trans h.bel.size hs, λ b hb => ?_⟩
   exact ((Below.heap_setCell w' _ _ b (by show b ≠ gb + 6; omega)).trans (hg.block b (by omega) (by simp; omega))).trans (h.bel.block b hb)
 . rw [blk_setCell kb]
   have e := room_L v r g c (r.log ++ [x])
   rw [hm]
   simp only [List.length_append, List.length_cons, List.length_nil] at e
   exact congrArg (λ a => some (Obj.cells a 121)) e
end
def RunSays6 (o : OffD) (es : List EventD) (w : World) (x : Ending) (w' : World) : Prop :=
 ∃ v, x = .returned (.tuple #[.agg (roomA v (roomF o es)), .bool (officeOk o es)]) /\ RoomOk w' w.heap.size v (roomF o es) /\ Below w.heap.size w w'
theorem RunAt.done {w0 w : World} {gb : Nat} {o : OffD} {v : RoomV} {r : RoomD} {a0 a1 a2 a3 a4 a5 a6 a7 : Value} (h : RunAt w0 w gb o v r) : RoomOk (set8 w (gb + 1) a0 a1 a2 a3 a4 a5 a6 a7) gb v r /\ Below gb w0 (set8 w (gb + 1) a0 a1 a2 a3 a4 a5 a6 a7) := by
 have aR := h.aR; have aW := h.aW; have aB := h.aB; have aL := h.aL
 refine ⟨h.ok.set8 (by omega), ?_⟩
 have c := set8_chg w (gb + 1) a0 a1 a2 a3 a4 a5 a6 a7
 exact h.bel.trans ⟨c.os, c.tape, c.output, c.size, λ b hb => c.block b (by have := h.size; omega) (by omega)⟩
theorem cel4_blk {w w' : World} {b g o1 : Nat} {o2 o3 o4 : Nat} {v1 v2 v3 v4 : Value} (h : w.cell? ⟨b, o1, none⟩ = some v1 /\ w.cell? ⟨b, o2, none⟩ = some v2 /\ w.cell? ⟨b, o3, none⟩ = some v3 /\ w.cell? ⟨g, o4, none⟩ = some v4) (k1 : w'.heap[b]? = w.heap[b]?) (k2 : w'.heap[g]? = w.heap[g]?) :
   w'.cell? ⟨b, o1, none⟩ = some v1 /\ w'.cell? ⟨b, o2, none⟩ = some v2 /\ w'.cell? ⟨b, o3, none⟩ = some v3 /\ w'.cell? ⟨g, o4, none⟩ = some v4 :=
 ⟨(World.cell?_of_block k1).trans h.1, (World.cell?_of_block k1).trans h.2.1, (World.cell?_of_block k1).trans h.2.2.1, (World.cell?_of_block k2).trans h.2.2.2⟩
theorem cel4_drew {w : World} {b g o1 : Nat} {o2 o3 o4 : Nat} {v1 v2 v3 v4 : Value} (h : w.cell? ⟨b, o1, none⟩ = some v1 /\ w.cell? ⟨b, o2, none⟩ = some v2 /\ w.cell? ⟨b, o3, none⟩ = some v3 /\ w.cell? ⟨g, o4, none⟩ = some v4) :
   w.drew.cell? ⟨b, o1, none⟩ = some v1 /\ w.drew.cell? ⟨b, o2, none⟩ = some v2 /\ w.drew.cell? ⟨b, o3, none⟩ = some v3 /\ w.drew.cell? ⟨g, o4, none⟩ = some v4 := h
theorem drew_heap (w : World) (b : Nat) : w.drew.heap[b]? = w.heap[b]? := rfl
theorem info_str6 : (Try.prog.info? 9).map (λ i => (i.zero, i.size, i.bytes)) = some (some (.string ⟨#[]⟩), 1, 16) := by kernel_rfl
theorem roomF_not {o : OffD} {es : List EventD} (h : officeOk o es = false) : roomF o es = room0 o := by unfold roomF; rw [h]; rfl
set_option maxHeartbeats 16000000 in
set_option maxRecDepth 20000 in
theorem l6Run_any (o : OffD) (lo hi n c : Nat) (A : Option Addr) (es : List EventD) (w : World) (h : Slc w lo hi 3 A n c (events es)) (hn : n <= 100000) (hhi : hi <= w.heap.size) :
   Calls Try.prog 84 #[.agg #[.int .i64 o.ln, .int .i64 o.op, .int .i64 o.pt], .slice A n c] w (RunSays6 o es w) := by
 have hel := h.eventsLen
 have HEL := Lib.hid hel
 obtain ⟨gb, hgb⟩ : ∃ g, g = w.heap.size := ⟨_, rfl⟩
 have HGB := Lib.hid hgb
 clear hel
 go_enter Try.func84, Try.ntmps84
 go_upto_region 2 with fail
 obtain ⟨v0, hv0⟩ : ∃ y : RoomV, y = ⟨w.heap.size + 1 + 1, 0, w.heap.size + 1 + 1 + 1, 0, w.heap.size + 1 + 1 + 1 + 1, 0, w.heap.size + 1 + 1 + 1 + 1 + 1, 0⟩ := ⟨_, rfl⟩
 obtain ⟨W1, hW1⟩ : ∃ y, y = (((((((w.alloc (.cells #[.int .i64 o.ln, .int .i64 o.op, .int .i64 o.pt] 91)).alloc roomZ).alloc (.cells #[] 50)).alloc (.cells #[] 140)).alloc (.cells #[] 140)).alloc (.cells #[] 9)).alloc
     (.cells #[.int .i64 o.ln, .int .i64 o.op, .int .i64 o.pt, .int .i64 0, .slice (some ⟨w.heap.size + 1 + 1, 0, none⟩) 0 0, .slice (some ⟨w.heap.size + 1 + 1 + 1, 0, none⟩) 0 0, .slice (some ⟨w.heap.size + 1 + 1 + 1 + 1, 0, none⟩) 0 0, .slice (some ⟨w.heap.size + 1 + 1 + 1 + 1 + 1, 0, none⟩) 0 0] 121)) := ⟨_, rfl⟩
 have HRA := Lib.hid (show RunAt w W1 gb o v0 (room0 o) by
   have hbl : Below w.heap.size w W1 := by rw [hW1]; exact below_al (below_al (below_al (below_al (below_al (below_al (below_al (Below.refl _ _) _) _) _) _) _) _) _
   refine ⟨⟨?_, ?_, ?_, ?_, ?_⟩, by rw [hgb]; exact hbl, ?_, ?_, ?_, ?_, ?_, ?_, ?_, ?_⟩
   . rw [hv0]; exact row_empty (by simp only; omega) (by rw [hW1]; exact blk_alloc (blk_alloc (blk_alloc (blk_alloc (heap_new' _ _ (by simp)) _) _) _) _)
   . rw [hv0]; exact row_empty (by simp only; omega) (by rw [hW1]; exact blk_alloc (blk_alloc (blk_alloc (heap_new' _ _ (by simp)) _) _) _)
   . rw [hv0]; exact row_empty (by simp only; omega) (by rw [hW1]; exact blk_alloc (blk_alloc (heap_new' _ _ (by simp)) _) _)
   . rw [hv0]; exact row_empty (by simp only; omega) (by rw [hW1]; exact blk_alloc (heap_new' _ _ (by simp)) _)
   . rw [hv0]; simp only; omega
   . rw [hW1]; exact blk_alloc (blk_alloc (blk_alloc (blk_alloc (blk_alloc (blk_alloc (heap_new' _ _ hgb) _) _) _) _) _) _
   . rw [hW1]; exact blk_alloc (blk_alloc (blk_alloc (blk_alloc (blk_alloc (heap_new' _ _ (by rw [hgb]; simp)) _) _) _) _) _
   . rw [hW1, hv0]; exact heap_new' _ _ (by rw [hgb]; simp)
   . rw [hv0]; simp only; omega
   . rw [hv0]; simp only; omega
   . rw [hv0]; simp only; omega
   . rw [hv0]; simp only; omega
   . rw [hW1, hgb]; simp)
 rw [<- hW1]
 have e6 : w.heap.size + 1 + 1 + 1 + 1 + 1 + 1 = gb + 6 := by omega
 rw [e6, <- hgb]
 clear hW1 hv0 e6 hgb
 have q0 := blk_cell HRA.out.ofc 0
 have q1 := blk_cell HRA.out.ofc 1
 have q2 := blk_cell HRA.out.ofc 2
 cases hv : offB o
 case false =>
   have HKN := Lib.hid (show officeOk o es = false by unfold officeOk; rw [hv]; rfl)
   go_upto_region 3 with (go_at_call 93; refine (OfficeValid_any o W1).mono ?_; rintro x w2 ⟨rfl, b2⟩; have HB2 := Lib.hid b2; rw [hv]; clear b2)
   have HRB := Lib.hid (HRA.out.keep HB2.out)
   clear q0 q1 q2
   have k := blk_cell HRB.out.blk
   have k0 := k 0
   have k1 := k 1
   have k2 := k 2
   have k3 := k 3
   have k4 := k 4
   have k5 := k 5
   have k6 := k 6
   have k7 := k 7
   clear k
   have z := blk_cell HRB.out.res
   have z0 := z 0
   have z1 := z 1
   have z2 := z 2
   have z3 := z 3
   have z4 := z 4
   have z5 := z 5
   have z6 := z 6
   have z7 := z 7
   clear z
   have r0 := blk_frozen' HRB.out.res
   go_wp2_with fail
   have er := blk_cell (set8_blk (a0 := .int .i64 (room0 o).o.ln) (a1 := .int .i64 (room0 o).o.op) (a2 := .int .i64 (room0 o).o.pt) (a3 := .int .i64 (room0 o).clk) (a4 := (v0).sR (room0 o)) (a5 := (v0).sW (room0 o)) (a6 := (v0).sB (room0 o)) (a7 := (v0).sL (room0 o)) HRB.out.res)
   refine bodyPost_ret (v := .tuple #[.agg (roomA (v0) (room0 o)), .bool false]) ?_ rfl ?_
   . unfold set8 at er
     simp [results, Try.results84, go_sem, er]
   . obtain ⟨d1, d2⟩ := HRB.out.done (a0 := .int .i64 (room0 o).o.ln) (a1 := .int .i64 (room0 o).o.op) (a2 := .int .i64 (room0 o).o.pt) (a3 := .int .i64 (room0 o).clk) (a4 := (v0).sR (room0 o)) (a5 := (v0).sW (room0 o)) (a6 := (v0).sB (room0 o)) (a7 := (v0).sL (room0 o))
     exact ⟨v0, by rw [HKN.out]; rw [roomF_not HKN.out], by rw [roomF_not HKN.out, <- HGB.out]; exact d1, by rw [<- HGB.out]; exact d2⟩
 case true =>
   by_cases h60 : n <= 60
   case neg =>
     have HKN := Lib.hid (show officeOk o es = false by unfold officeOk; rw [hv, HEL.out]; simp; intro h; omega)
     go_upto_region 3 with (go_at_call 93; refine (OfficeValid_any o W1).mono ?_; rintro x w2 ⟨rfl, b2⟩; have HB2 := Lib.hid b2; rw [hv]; clear b2)
     have HRB := Lib.hid (HRA.out.keep HB2.out)
     clear q0 q1 q2
     have k := blk_cell HRB.out.blk
     have k0 := k 0
     have k1 := k 1
     have k2 := k 2
     have k3 := k 3
     have k4 := k 4
     have k5 := k 5
     have k6 := k 6
     have k7 := k 7
     clear k
     have z := blk_cell HRB.out.res
     have z0 := z 0
     have z1 := z 1
     have z2 := z 2
     have z3 := z 3
     have z4 := z 4
     have z5 := z 5
     have z6 := z 6
     have z7 := z 7
     clear z
     have r0 := blk_frozen' HRB.out.res
     go_wp2_with fail
     have er := blk_cell (set8_blk (a0 := .int .i64 (room0 o).o.ln) (a1 := .int .i64 (room0 o).o.op) (a2 := .int .i64 (room0 o).o.pt) (a3 := .int .i64 (room0 o).clk) (a4 := (v0).sR (room0 o)) (a5 := (v0).sW (room0 o)) (a6 := (v0).sB (room0 o)) (a7 := (v0).sL (room0 o)) HRB.out.res)
     refine bodyPost_ret (v := .tuple #[.agg (roomA (v0) (room0 o)), .bool false]) ?_ rfl ?_
     . unfold set8 at er
       simp [results, Try.results84, go_sem, er]
     . obtain ⟨d1, d2⟩ := HRB.out.done (a0 := .int .i64 (room0 o).o.ln) (a1 := .int .i64 (room0 o).o.op) (a2 := .int .i64 (room0 o).o.pt) (a3 := .int .i64 (room0 o).clk) (a4 := (v0).sR (room0 o)) (a5 := (v0).sW (room0 o)) (a6 := (v0).sB (room0 o)) (a7 := (v0).sL (room0 o))
       exact ⟨v0, by rw [HKN.out]; rw [roomF_not HKN.out], by rw [roomF_not HKN.out, <- HGB.out]; exact d1, by rw [<- HGB.out]; exact d2⟩
   case pos =>
     have HV := Lib.hid hv
     go_upto_region 4 with (go_at_call 93; refine (OfficeValid_any o W1).mono ?_; rintro x w2 ⟨rfl, b2⟩; have HB2 := Lib.hid b2; rw [hv]; clear b2)
     have HRB := Lib.hid (HRA.out.keep HB2.out)
     clear q0 q1 q2 hv
     go_wp2_with fail
     go_loopw [7] (λ i wr => ∃ k : Nat, k <= n /\ i = .int .i64 k /\ RunAt w wr gb o v0 (room0 o) /\ ∀ j, j < k -> ∀ e, es[j]? = some e -> eventB o.op e = true) (λ i _ => n - (intOf i).toNat)
     case atStart => exact ⟨0, Nat.zero_le _, rfl, HRB.out, λ j hj => absurd hj (by omega)⟩
     case round =>
       obtain ⟨k, hk, rfl, hra, hcs⟩ := hrel
       have HC := Lib.hid hcs
       have HRR := Lib.hid hra
       clear hcs hra
       by_cases hlt : k < n
       . obtain ⟨b, off, e, hA, hlo, hbh, hbz, hek, e0, e1, e2⟩ := (h.below (HGB.out ▸ HRR.out.bel)).eventsAt hlt
         subst hA
         have HEK := Lib.hid hek
         have hbg : b < gb := by have := HGB.out; omega
         have i0 : (0 : Int) <= (k : Int) := by omega
         have i1 : (k : Int) < (n : Int) := by omega
         have HS0 := Lib.hid (And.intro e0 (And.intro e1 (And.intro e2 (show wr.cell? ⟨gb, 1, none⟩ = some (.int .i64 o.op) from blk_cell HRR.out.ofc 1))))
         have hgz : gb < wr.heap.size := blk_lt HRR.out.ofc
         clear hek e0 e1 e2
         go_wp2_with fail
         go_region_held3 (λ W => W.cell? ⟨b, off + k * 3, none⟩ = some (.string e.k) /\ W.cell? ⟨b, off + k * 3 + 1, none⟩ = some (.int .i64 e.a) /\ W.cell? ⟨b, off + k * 3 + 2, none⟩ = some (.int .i64 e.b) /\ W.cell? ⟨gb, 1, none⟩ = some (.int .i64 o.op))
           (first | exact HS0.out | exact cel4_drew HS0.out | exact S5)
           ((go_at_call 92; refine (l6Event_any e o.op wr.drew).mono ?_; rintro y w5 ⟨rfl, b5⟩; have b5' : Below wr.heap.size wr w5 := ⟨b5.os, b5.tape, b5.output, b5.size, b5.block⟩; have HB5 := Lib.hid b5'; have S5 := cel4_blk HS0.out (b5'.block b (by omega)) (b5'.block gb (by omega)); clear b5 b5'))
         cases hev : eventB o.op e
         . have HKN := Lib.hid (show officeOk o es = false by
             unfold officeOk
             rw [Bool.and_eq_false_iff]
             refine .inr (Bool.eq_false_iff.2 λ hall => ?_)
             rw [List.all_eq_true] at hall
             have := hall e (List.mem_of_getElem? HEK.out)
             rw [hev] at this; cases this)
           have HRB := Lib.hid (HRR.out.keep HB5.out)
           clear hev S5
           have k := blk_cell HRB.out.blk
           have k0 := k 0
           have k1 := k 1
           have k2 := k 2
           have k3 := k 3
           have k4 := k 4
           have k5 := k 5
           have k6 := k 6
           have k7 := k 7
           clear k
           have z := blk_cell HRB.out.res
           have z0 := z 0
           have z1 := z 1
           have z2 := z 2
           have z3 := z 3
           have z4 := z 4
           have z5 := z 5
           have z6 := z 6
           have z7 := z 7
           clear z
           have r0 := blk_frozen' HRB.out.res
           go_wp2_with fail
           have er := blk_cell (set8_blk (a0 := .int .i64 (room0 o).o.ln) (a1 := .int .i64 (room0 o).o.op) (a2 := .int .i64 (room0 o).o.pt) (a3 := .int .i64 (room0 o).clk) (a4 := (v0).sR (room0 o)) (a5 := (v0).sW (room0 o)) (a6 := (v0).sB (room0 o)) (a7 := (v0).sL (room0 o)) HRB.out.res)
           refine bodyPost_ret (v := .tuple #[.agg (roomA (v0) (room0 o)), .bool false]) ?_ rfl ?_
           . unfold set8 at er
             simp [results, Try.results84, go_sem, er]
           . obtain ⟨d1, d2⟩ := HRB.out.done (a0 := .int .i64 (room0 o).o.ln) (a1 := .int .i64 (room0 o).o.op) (a2 := .int .i64 (room0 o).o.pt) (a3 := .int .i64 (room0 o).clk) (a4 := (v0).sR (room0 o)) (a5 := (v0).sW (room0 o)) (a6 := (v0).sB (room0 o)) (a7 := (v0).sL (room0 o))
             exact ⟨v0, by rw [HKN.out]; rw [roomF_not HKN.out], by rw [roomF_not HKN.out, <- HGB.out]; exact d1, by rw [<- HGB.out]; exact d2⟩
         . go_wp2_with fail
           go_roundw
           case rel => exact ⟨k + 1, by omega, by go_num, HRR.out.keep HB5.out, λ j hj e' he' => by
             by_cases e : j = k
             . subst e; rw [HEK.out] at he'; injection he' with he'; exact he' ▸ hev
             . exact HC.out j (by omega) e' he'⟩
           case measure => simp [intOf]; omega
       . have e : k = n := by omega
         subst e
         have hok : officeOk o es = true := by
           unfold officeOk
           rw [HV.out, HEL.out]
           simp only [Bool.true_and, Bool.and_eq_true, decide_eq_true_eq, List.all_eq_true]
           refine ⟨h60, λ e he => ?_⟩
           obtain ⟨j, hj⟩ := List.mem_iff_getElem?.1 he
           have hjl := (List.getElem?_eq_some_iff.1 hj).1
           exact HC.out j (by rw [<- HEL.out]; exact hjl) e hj
         have HKN := Lib.hid hok
         have HTO := Lib.hid (offTo_ok hok)
         clear hok
         go_wp2_with fail
         go_loopw [8] (λ i wr => ∃ (j : Nat) (v1 : RoomV), j <= k /\ i = .int .i64 j /\ RunAt w wr gb o v1 (offTo o es j)) (λ i _ => k - (intOf i).toNat)
         case atStart => exact ⟨0, v0, Nat.zero_le _, rfl, HRR.out⟩
         case round =>
           obtain ⟨j, v1, hj, rfl, hra⟩ := hrel
           obtain ⟨tI, tC, tO⟩ := HTO.out j (by rw [HEL.out]; exact hj)
           obtain ⟨r1, hr1⟩ : ∃ y, y = offTo o es j := ⟨_, rfl⟩
           rw [<- hr1] at hra tI tC tO
           have HR1 := Lib.hid hr1
           have HR2 := Lib.hid hra
           clear hr1 hra
           by_cases hlt : j < k
           . obtain ⟨b, off, e, hA, hlo, hbh, hbz, hek, e0, e1, e2⟩ := (h.below (HGB.out ▸ HR2.out.bel)).eventsAt hlt
             subst hA
             have hbg : b < gb := by have := HGB.out; omega
             have i0 : (0 : Int) <= (j : Int) := by omega
             have i1 : (j : Int) < (k : Int) := by omega
             have HGOOD := Lib.hid (tI.good tC (by omega))
             have HEV := Lib.hid (show eventB r1.o.op e = true by
               rw [tO]
               have := HKN.out
               unfold officeOk at this
               simp only [Bool.and_eq_true, List.all_eq_true] at this
               exact this.2 e (List.mem_of_getElem? hek))
             have HSU := Lib.hid (offTo_succ (o := o) hek)
             have hnl : r1.log.length <= 60 := by have := tC.nl; omega
             have HE0 := Lib.hid (And.intro e0 (And.intro e1 e2))
             have hsz := HR2.out.size
             have hgz : gb <= wr.heap.size := by omega
             have tStep := Lib.hid (RInv.step (e := e) tI tC (by rw [tO]; exact tO ▸ HEV.out) (by omega))
             clear tI tC tO hek e0 e1 e2
             have HSE := Lib.hid (show ∀ W : World, W.heap[b]? = wr.heap[b]? -> W.heap[gb + 6]? = wr.heap[gb + 6]? -> (W.cell? ⟨b, off + j * 3, none⟩ = some (.string e.k) /\ W.cell? ⟨b, off + j * 3 + 1, none⟩ = some (.int .i64 e.a) /\ W.cell? ⟨b, off + j * 3 + 2, none⟩ = some (.int .i64 e.b) /\ W.cell? ⟨gb + 6, 0, none⟩ = some (.int .i64 r1.o.ln) /\ W.cell? ⟨gb + 6, 1, none⟩ = some (.int .i64 r1.o.op) /\ W.cell? ⟨gb + 6, 2, none⟩ = some (.int .i64 r1.o.pt) /\ W.cell? ⟨gb + 6, 3, none⟩ = some (.int .i64 r1.clk) /\ W.cell? ⟨gb + 6, 4, none⟩ = some (v1.sR r1) /\ W.cell? ⟨gb + 6, 5, none⟩ = some (v1.sW r1) /\ W.cell? ⟨gb + 6, 6, none⟩ = some (v1.sB r1) /\ W.cell? ⟨gb + 6, 7, none⟩ = some (v1.sL r1)) from λ W h1 h2 => by
               have k := blk_cell (h2.trans HR2.out.blk)
               exact ⟨(World.cell?_of_block h1).trans HE0.out.1, (World.cell?_of_block h1).trans HE0.out.2.1, (World.cell?_of_block h1).trans HE0.out.2.2, k 0, k 1, k 2, k 3, k 4, k 5, k 6, k 7⟩)
             have HS0 := Lib.hid (HSE.out wr.drew rfl rfl)
             have HS00 := Lib.hid (HSE.out wr rfl rfl)
             have z6 : gb + 6 < wr.heap.size := by omega
             have zb : b < wr.heap.size := by omega
             have aR := HR2.out.aR
             have aB := HR2.out.aB
             go_wp2_with fail
             go_region_held3 (λ W => W.cell? ⟨b, off + j * 3, none⟩ = some (.string e.k) /\ W.cell? ⟨b, off + j * 3 + 1, none⟩ = some (.int .i64 e.a) /\ W.cell? ⟨b, off + j * 3 + 2, none⟩ = some (.int .i64 e.b) /\ W.cell? ⟨gb + 6, 0, none⟩ = some (.int .i64 r1.o.ln) /\ W.cell? ⟨gb + 6, 1, none⟩ = some (.int .i64 r1.o.op) /\ W.cell? ⟨gb + 6, 2, none⟩ = some (.int .i64 r1.o.pt) /\ W.cell? ⟨gb + 6, 3, none⟩ = some (.int .i64 r1.clk) /\ W.cell? ⟨gb + 6, 4, none⟩ = some (v1.sR r1) /\ W.cell? ⟨gb + 6, 5, none⟩ = some (v1.sW r1) /\ W.cell? ⟨gb + 6, 6, none⟩ = some (v1.sB r1) /\ W.cell? ⟨gb + 6, 7, none⟩ = some (v1.sL r1))
               (first | with_reducible exact HS0.out | with_reducible exact HS00.out | with_reducible exact HSE.out _ sb5 s65 | (with_reducible refine HSE.out _ ?_ ?_ <;> (repeat' (first | with_reducible assumption | with_reducible rfl | (refine (drew_heap _ _).trans ?_) | (refine (Below.heap_setCell _ _ _ _ ?_).trans ?_; (first | omega | (simp; omega))) | (refine (Below.heap_alloc _ _ _ ?_).trans ?_; (first | omega | (simp; omega)))))))
               (first | (go_at_call 94; refine (l6Step_any gb v1 r1 e wr.drew HR2.out.drew.ok HGOOD.out hgz HEV.out).mono ?_; rintro y w5 ⟨v5, rfl, hok, htn, hmv⟩; obtain ⟨r5, hr5⟩ : ∃ y : RoomD, y = (offStep r1 e).1 := ⟨_, rfl⟩; obtain ⟨t5, ht5⟩ : ∃ y : List UInt8, y = (offStep r1 e).2 := ⟨_, rfl⟩; rw [<- hr5] at hok ⊢; rw [<- ht5]; have HR5 := Lib.hid hr5; have HT5 := Lib.hid ht5; have HOK := Lib.hid hok; have HTN := Lib.hid htn; have HMV := Lib.hid hmv; have sb5 : w5.heap[b]? = wr.heap[b]? := htn.block b zb (by omega) (by omega); have s65 : w5.heap[gb + 6]? = wr.heap[gb + 6]? := htn.block (gb + 6) z6 (by omega) (by omega); have z5 : wr.heap.size <= w5.heap.size := htn.size; have HRX := Lib.hid HR2.out.drew; clear hr5 ht5 hok htn hmv) | (go_at_call 94; refine (l6Step_any gb v1 r1 e (wr.alloc roomZ).drew (HR2.out.alloc roomZ).drew.ok HGOOD.out (by show gb <= (wr.alloc roomZ).heap.size; simp; omega) HEV.out).mono ?_; rintro y w5 ⟨v5, rfl, hok, htn, hmv⟩; obtain ⟨r5, hr5⟩ : ∃ y : RoomD, y = (offStep r1 e).1 := ⟨_, rfl⟩; obtain ⟨t5, ht5⟩ : ∃ y : List UInt8, y = (offStep r1 e).2 := ⟨_, rfl⟩; rw [<- hr5] at hok ⊢; rw [<- ht5]; have HR5 := Lib.hid hr5; have HT5 := Lib.hid ht5; have HOK := Lib.hid hok; have HTN := Lib.hid htn; have HMV := Lib.hid hmv; have sb5 : w5.heap[b]? = wr.heap[b]? := (htn.block b (by show b < (wr.alloc roomZ).heap.size; simp; omega) (by omega) (by omega)).trans (Below.heap_alloc wr roomZ b zb); have s65 : w5.heap[gb + 6]? = wr.heap[gb + 6]? := (htn.block (gb + 6) (by show gb + 6 < (wr.alloc roomZ).heap.size; simp; omega) (by omega) (by omega)).trans (Below.heap_alloc wr roomZ _ z6); have z5 : wr.heap.size < w5.heap.size := (by have := htn.size; have e : (wr.alloc roomZ).drew.heap.size = wr.heap.size + 1 := (by show (wr.alloc roomZ).heap.size = _; simp); omega); have kr : w5.heap[wr.heap.size]? = some roomZ := (htn.block wr.heap.size (by show wr.heap.size < (wr.alloc roomZ).heap.size; simp) (by have := HR2.out.ok.lts; omega) (by have := HR2.out.ok.lts; omega)).trans (heap_alloc_new wr roomZ); have HKN5 := Lib.hid kr; have z := blk_cell kr; have r0 := blk_frozen' kr; have z0 := z 0; have z1 := z 1; have z2 := z 2; have z3 := z 3; have z4 := z 4; have z5 := z 5; have z7 := z 7; have z66 := z 6; have HRX := Lib.hid (HR2.out.alloc roomZ).drew; clear hr5 ht5 hok htn hmv kr z))
             ·
               obtain ⟨W6, hW6⟩ : ∃ y, y = w5.alloc (roomO v5 r5) := ⟨_, rfl⟩
               obtain ⟨nb, hnb⟩ : ∃ y, y = w5.heap.size := ⟨_, rfl⟩
               rw [<- hW6, <- hnb]
               have hN : W6.heap[nb]? = some (roomO v5 r5) := by rw [hW6]; exact heap_new' _ _ hnb
               have hok6 : RoomOk W6 gb v5 r5 := by rw [hW6]; exact HOK.out.alloc _
               obtain ⟨hbel5, p0, p1, p6, a1, a2, a3, a4, psz⟩ := HRX.out.stepped HOK.out HTN.out HMV.out
               have hbel6 : Below gb w W6 := by rw [hW6]; exact hbel5.alloc (by omega) _
               have q0 : W6.heap[gb]? = some (.cells #[.int .i64 o.ln, .int .i64 o.op, .int .i64 o.pt] 91) := by rw [hW6]; exact (Below.heap_alloc _ _ gb (by omega)).trans (p0.trans HRX.out.ofc)
               have q1 : W6.heap[gb + 1]? = some roomZ := by rw [hW6]; exact (Below.heap_alloc _ _ (gb + 1) (by omega)).trans (p1.trans HRX.out.res)
               have q6 : W6.heap[gb + 6]? = some (roomO v1 r1) := by rw [hW6]; exact (Below.heap_alloc _ _ (gb + 6) (by omega)).trans (p6.trans HRX.out.blk)
               have hsz6 : gb + 7 <= W6.heap.size := by rw [hW6]; simp; omega
               have hnn : nb ≠ gb + 6 := by omega
               clear hW6 hnb hbel5 p0 p1 p6 psz
               have HN6 := Lib.hid hN
               have HOK6 := Lib.hid hok6
               have hlog6 : r5.log = r1.log := by rw [HR5.out]; exact tStep.out.2.2.2
               have hnl5 : r5.log.length <= 60 := by rw [hlog6]; exact hnl
               have HR7 := Lib.hid (RunAt.stored hok6 hbel6 q0 q1 q6 a1 a2 a3 a4 hsz6)
               have k := blk_cell hN
               have k0 := k 0
               have k1 := k 1
               have k2 := k 2
               have k3 := k 3
               have k4 := k 4
               have k5 := k 5
               have k6 := k 6
               have k7 := k 7
               have z := blk_cell q6
               have z0 := z 0
               have z1 := z 1
               have z2 := z 2
               have z3 := z 3
               have z4 := z 4
               have z5 := z 5
               have z66 := z 6
               have z7 := z 7
               have r0 := blk_frozen' q6
               clear k z hN hok6 hbel6 q0 q1 q6 hlog6
               go_upto_region 14 with fail
               obtain ⟨W7, hW7⟩ : ∃ y, y = set8 W6 (gb + 6) (.int .i64 r5.o.ln) (.int .i64 r5.o.op) (.int .i64 r5.o.pt) (.int .i64 r5.clk) (v5.sR r5) (v5.sW r5) (v5.sB r5) (v5.sL r5) := ⟨_, rfl⟩
               rw [<- hW7] at HR7
               unfold set8 at hW7
               rw [<- hW7]
               clear hW7 k0 k1 k2 k3 k4 k5 k6 k7 z0 z1 z2 z3 z4 z5 z66 z7 r0
               have k7 := blk_cell HR7.out.blk 7
               have hz7 := HR7.out.size
               have hL7 := HR7.out.aL
               obtain ⟨ii, hii, hz0, hz1, hz2⟩ := info_parts info_str6
               have HII := Lib.hid hii
               clear hii
               go_wp2_with (at_builtin; refine wpList_app2 _ rfl (.tmp 58) (.tmp 60) 119 rfl gb 9 ii (.string ⟨#[]⟩) 1 16 Try.underlying119 HII.out hz0 hz1 hz2 rfl (by decide) v5.gL v5.cL r5.log.length (txts r5.log) rfl ((HR7.out.alloc _).ok.lg) ⟨_, 0, none⟩ 1 1 [.string ⟨t5.toArray⟩] rfl rfl ?c2 (by intro u hu; simp at hu; subst hu; rfl) ?c5 ?c6 ?c7 ?_; (case c2 => exact World.news_of_block (cs := #[.string ⟨t5.toArray⟩]) (heap_alloc_new _ _)); (case c5 => unfold maxLen; omega); (case c6 => omega); (case c7 => (simp; omega)); intro g9 c9 w9 hown9 hgr9 B9 hat9; have HR9 := Lib.hid ((HR7.out.alloc _).appL hgr9 hown9 rfl hat9); have kx := (blk_grown6 hgr9 (blk_alloc HR7.out.blk _) (Ne.symm hL7.2)).1; have kx7 := blk_cell kx 7; have kxf := blk_frozen' kx; clear hown9 hgr9 B9 hat9 kx)
               go_roundw
               case rel =>
                 refine ⟨j + 1, { v5 with gL := g9, cL := c9 }, by omega, by go_num, ?_⟩
                 rw [HSU.out, <- HR1.out]
                 have e : logF (offStep r1 e) = { r5 with log := r5.log ++ [t5] } := by rw [HR5.out, HT5.out]; rfl
                 rw [e]
                 exact HR9.out
               case measure => simp [intOf]; omega
             ·
               obtain ⟨nb, hnb⟩ : ∃ y, y = wr.heap.size := ⟨_, rfl⟩
               obtain ⟨W6, hW6⟩ : ∃ y, y = set8 w5 nb (.int .i64 r5.o.ln) (.int .i64 r5.o.op) (.int .i64 r5.o.pt) (.int .i64 r5.clk) (v5.sR r5) (v5.sW r5) (v5.sB r5) (v5.sL r5) := ⟨_, rfl⟩
               obtain ⟨hbel5, p0, p1, p6, a1, a2, a3, a4, psz⟩ := HRX.out.stepped HOK.out HTN.out HMV.out
               have l1 := HR2.out.ok.lts
               have mr := HMV.out.r; have mw := HMV.out.w; have mb := HMV.out.b; have ml := HMV.out.l
               have eX : (wr.alloc roomZ).drew.heap.size = nb + 1 := by rw [hnb]; show (wr.alloc roomZ).heap.size = _; simp
               rw [eX] at mr mw mb psz
               have hN : W6.heap[nb]? = some (roomO v5 r5) := by rw [hW6, hnb]; exact set8_blk HKN5.out
               have hok6 : RoomOk W6 gb v5 r5 := by rw [hW6]; exact HOK.out.set8 (by omega)
               have hchg := set8_chg w5 nb (.int .i64 r5.o.ln) (.int .i64 r5.o.op) (.int .i64 r5.o.pt) (.int .i64 r5.clk) (v5.sR r5) (v5.sW r5) (v5.sB r5) (v5.sL r5)
               have hbel6 : Below gb w W6 := by rw [hW6]; exact hbel5.trans ⟨hchg.os, hchg.tape, hchg.output, hchg.size, λ x hx => hchg.block x (by omega) (by omega)⟩
               have q0 : W6.heap[gb]? = some (.cells #[.int .i64 o.ln, .int .i64 o.op, .int .i64 o.pt] 91) := by rw [hW6]; exact (set8_other (by omega)).trans (p0.trans HRX.out.ofc)
               have q1 : W6.heap[gb + 1]? = some roomZ := by rw [hW6]; exact (set8_other (by omega)).trans (p1.trans HRX.out.res)
               have q6 : W6.heap[gb + 6]? = some (roomO v1 r1) := by rw [hW6]; exact (set8_other (by omega)).trans (p6.trans HRX.out.blk)
               have hsz6 : gb + 7 <= W6.heap.size := by rw [hW6, set8_size]; omega
               have hnn : nb ≠ gb + 6 := by omega
               unfold set8 at hW6
               rw [<- hnb, <- hW6]
               clear hW6 hnb hbel5 p0 p1 p6 psz hchg l1 mr mw mb ml eX z0 z1 z2 z3 z4 z5 z66 z7 r0
               have HN6 := Lib.hid hN
               have HOK6 := Lib.hid hok6
               have hlog6 : r5.log = r1.log := by rw [HR5.out]; exact tStep.out.2.2.2
               have hnl5 : r5.log.length <= 60 := by rw [hlog6]; exact hnl
               have HR7 := Lib.hid (RunAt.stored hok6 hbel6 q0 q1 q6 a1 a2 a3 a4 hsz6)
               have k := blk_cell hN
               have k0 := k 0
               have k1 := k 1
               have k2 := k 2
               have k3 := k 3
               have k4 := k 4
               have k5 := k 5
               have k6 := k 6
               have k7 := k 7
               have z := blk_cell q6
               have z0 := z 0
               have z1 := z 1
               have z2 := z 2
               have z3 := z 3
               have z4 := z 4
               have z5 := z 5
               have z66 := z 6
               have z7 := z 7
               have r0 := blk_frozen' q6
               clear k z hN hok6 hbel6 q0 q1 q6 hlog6
               go_upto_region 14 with fail
               obtain ⟨W7, hW7⟩ : ∃ y, y = set8 W6 (gb + 6) (.int .i64 r5.o.ln) (.int .i64 r5.o.op) (.int .i64 r5.o.pt) (.int .i64 r5.clk) (v5.sR r5) (v5.sW r5) (v5.sB r5) (v5.sL r5) := ⟨_, rfl⟩
               rw [<- hW7] at HR7
               unfold set8 at hW7
               rw [<- hW7]
               clear hW7 k0 k1 k2 k3 k4 k5 k6 k7 z0 z1 z2 z3 z4 z5 z66 z7 r0
               have k7 := blk_cell HR7.out.blk 7
               have hz7 := HR7.out.size
               have hL7 := HR7.out.aL
               obtain ⟨ii, hii, hz0, hz1, hz2⟩ := info_parts info_str6
               have HII := Lib.hid hii
               clear hii
               go_wp2_with (at_builtin; refine wpList_app2 _ rfl (.tmp 58) (.tmp 60) 119 rfl gb 9 ii (.string ⟨#[]⟩) 1 16 Try.underlying119 HII.out hz0 hz1 hz2 rfl (by decide) v5.gL v5.cL r5.log.length (txts r5.log) rfl ((HR7.out.alloc _).ok.lg) ⟨_, 0, none⟩ 1 1 [.string ⟨t5.toArray⟩] rfl rfl ?c2 (by intro u hu; simp at hu; subst hu; rfl) ?c5 ?c6 ?c7 ?_; (case c2 => exact World.news_of_block (cs := #[.string ⟨t5.toArray⟩]) (heap_alloc_new _ _)); (case c5 => unfold maxLen; omega); (case c6 => omega); (case c7 => (simp; omega)); intro g9 c9 w9 hown9 hgr9 B9 hat9; have HR9 := Lib.hid ((HR7.out.alloc _).appL hgr9 hown9 rfl hat9); have kx := (blk_grown6 hgr9 (blk_alloc HR7.out.blk _) (Ne.symm hL7.2)).1; have kx7 := blk_cell kx 7; have kxf := blk_frozen' kx; clear hown9 hgr9 B9 hat9 kx)
               go_roundw
               case rel =>
                 refine ⟨j + 1, { v5 with gL := g9, cL := c9 }, by omega, by go_num, ?_⟩
                 rw [HSU.out, <- HR1.out]
                 have e : logF (offStep r1 e) = { r5 with log := r5.log ++ [t5] } := by rw [HR5.out, HT5.out]; rfl
                 rw [e]
                 exact HR9.out
               case measure => simp [intOf]; omega
           . have e : j = k := by omega
             subst e
             have HAL := Lib.hid (show roomF o es = r1 by unfold roomF; rw [HKN.out, <- offTo_all, HEL.out, <- HR1.out]; exact if_pos rfl)
             clear tI tC tO hlt
             have k := blk_cell HR2.out.blk
             have k0 := k 0
             have k1 := k 1
             have k2 := k 2
             have k3 := k 3
             have k4 := k 4
             have k5 := k 5
             have k6 := k 6
             have k7 := k 7
             clear k
             have z := blk_cell HR2.out.res
             have z0 := z 0
             have z1 := z 1
             have z2 := z 2
             have z3 := z 3
             have z4 := z 4
             have z5 := z 5
             have z6 := z 6
             have z7 := z 7
             clear z
             have r0 := blk_frozen' HR2.out.res
             go_wp2_with fail
             have er := blk_cell (set8_blk (a0 := .int .i64 (r1).o.ln) (a1 := .int .i64 (r1).o.op) (a2 := .int .i64 (r1).o.pt) (a3 := .int .i64 (r1).clk) (a4 := (v1).sR (r1)) (a5 := (v1).sW (r1)) (a6 := (v1).sB (r1)) (a7 := (v1).sL (r1)) HR2.out.res)
             refine bodyPost_ret (v := .tuple #[.agg (roomA (v1) (r1)), .bool true]) ?_ rfl ?_
             . unfold set8 at er
               simp [results, Try.results84, go_sem, er]
             . obtain ⟨d1, d2⟩ := HR2.out.done (a0 := .int .i64 (r1).o.ln) (a1 := .int .i64 (r1).o.op) (a2 := .int .i64 (r1).o.pt) (a3 := .int .i64 (r1).clk) (a4 := (v1).sR (r1)) (a5 := (v1).sW (r1)) (a6 := (v1).sB (r1)) (a7 := (v1).sL (r1))
               exact ⟨v1, by rw [HKN.out]; rw [HAL.out], by rw [HAL.out, <- HGB.out]; exact d1, by rw [<- HGB.out]; exact d2⟩
end Go.Proofs.Ytjcpjijihajopaa
namespace Go.Proofs.Ytjcpjijihajopaa
open Go.RowKit
structure DSt (w0 : World) (g : Nat) (A : Option Addr) (n c q : Nat) (E s : Nat) (v : Value) (k : Nat) (xs : List Value) (W : World) : Prop where
 rd : Rd W g A n c q
 own : W.ownsRow w0.heap.size E s v k xs
 gr : w0.grownBy W (some g)
 hg : g < w0.heap.size
section
variable {w0 : World} {g : Nat} {A : Option Addr} {n c q : Nat} {E s : Nat} {v : Value} {k : Nat} {xs : List Value} {W W' : World}
theorem DSt.hb (h : DSt w0 g A n c q E s v k xs W) : w0.heap.size <= W.heap.size := h.gr.size
theorem DSt.notg (h : DSt w0 g A n c q E s v k xs W) : v.ownBlock ≠ some g := λ e => by
 have := (h.own.lt g e).1; have := h.hg; omega
theorem DSt.alloc (h : DSt w0 g A n c q E s v k xs W) (o : Obj) : DSt w0 g A n c q E s v k xs (W.alloc o) :=
 ⟨h.rd.alloc o, h.own.alloc o, gb_al h.gr o, h.hg⟩
theorem DSt.grown {q' : Nat} (h : DSt w0 g A n c q E s v k xs W) (hr : Rd W' g A n c q') (hg : W.grownBy W' (some g)) : DSt w0 g A n c q' E s v k xs W' :=
 ⟨hr, h.own.kept hg (.inr h.notg), gb_trans h.gr hg, h.hg⟩
theorem DSt.below (h : DSt w0 g A n c q E s v k xs W) (hb : Below W.heap.size W W') : DSt w0 g A n c q E s v k xs W' :=
 ⟨h.rd.below hb, h.own.kept (row := none) ⟨hb.os, hb.tape, hb.output, hb.size, λ i hi _ => hb.block i hi⟩ (by cases hv : v.ownBlock <;> simp), gb_trans h.gr (gb_below hb _), h.hg⟩
theorem DSt.wide {q' : Nat} (h : DSt w0 g A n c q E s v k xs W) (hq : q <= q') : DSt w0 g A n c q' E s v k xs W :=
 ⟨h.rd.mono hq, h.own, h.gr, h.hg⟩
theorem DSt.aside {row : Option Nat} (h : DSt w0 g A n c q E s v k xs W) (hg : W.grownBy W' row) (hne : v.ownBlock = none \/ v.ownBlock ≠ row) (hy : ∀ b, row = some b -> w0.heap.size <= b) : DSt w0 g A n c q E s v k xs W' :=
 ⟨h.rd.keep λ b hb => hg.block b (Nat.lt_of_le_of_lt hb h.rd.gblt) (λ e => by have := hy b e.symm; have := h.hg; omega), h.own.kept hg hne,
  ⟨hg.os.trans h.gr.os, hg.tape.trans h.gr.tape, hg.output.trans h.gr.output, Nat.le_trans h.gr.size hg.size, λ i hi hne => (hg.block i (Nat.lt_of_lt_of_le hi h.gr.size) (λ e => by have := hy i e.symm; omega)).trans (h.gr.block i hi hne)⟩, h.hg⟩
theorem DSt.app {v' : Value} {k' : Nat} {xs' : List Value} (h : DSt w0 g A n c q E s v k xs W) (ho : W'.ownsRow w0.heap.size E s v' k' xs') (hg : W.grownBy W' v.ownBlock) : DSt w0 g A n c q E s v' k' xs' W' :=
 ⟨h.rd.keep λ b hb => hg.block b (Nat.lt_of_le_of_lt hb h.rd.gblt) (λ e => by have := (h.own.lt b e.symm).1; have := h.hg; omega), ho,
  ⟨hg.os.trans h.gr.os, hg.tape.trans h.gr.tape, hg.output.trans h.gr.output, Nat.le_trans h.gr.size hg.size, λ i hi hne => (hg.block i (Nat.lt_of_lt_of_le hi h.gr.size) (λ e => by have := (h.own.lt i e.symm).1; omega)).trans (h.gr.block i hi hne)⟩, h.hg⟩
end
theorem DSt.init {W : World} {g : Nat} {A : Option Addr} {n c q : Nat} (E s : Nat) (h : Rd W g A n c q) :
   DSt W g A n c q E s (.slice (some ⟨W.heap.size, 0, none⟩) 0 0) 0 [] (W.alloc (.cells #[] E)) :=
 ⟨h.alloc _, World.ownsRow_made W #[] 0 (Nat.le_refl _) (Nat.zero_le _) (by simp), gb_al (World.grownBy.refl _ _) _, h.gblt⟩
theorem int_pred {j : Nat} (h : 0 < j) : Value.int .i64 ((j : Int) - 1) = .int .i64 ((j - 1 : Nat) : Int) := by congr 1; omega
theorem num_lits {w : World} {l : Nat} {xs : List Int} {T : TypeId} {fz : Nat × Nat} (h : w.heap[l]? = some (.cells (xs.map (Value.int .i64)).toArray T fz)) {k : Nat} (hk : xs.length = k) :
   ∀ j, j < k -> ∃ v : Int, w.cell? ⟨l, 0 + j, none⟩ = some (.int .i64 v) :=
 cells_of_blk h k λ j hj => ⟨xs[j]'(by omega), by simp [hk, hj]⟩
end Go.Proofs.Ytjcpjijihajopaa
namespace Go.Proofs.Ytjcpjijihajopaa
open Go.RowKit
def GotS (w : World) (g : Nat) (A : Option Addr) (n c q : Nat) (e : Ending) (w' : World) : Prop :=
 ∃ s : ByteArray, e = .returned (.string s) /\ Rd w' g A n c q /\ w.grownBy w' (some g)
set_option maxHeartbeats 2000000 in
theorem of_any (g q n c l lo k kc : Nat) (A : Option Addr) (w : World) (h : Rd w g A n c q) (hq : q + 1 < 1000000000) (hk : 0 < k) (hk2 : k <= 1000000) (hl : l < w.heap.size) (hlg : l ≠ g)
   (hc : ∀ j, j < k -> ∃ v : ByteArray, w.cell? ⟨l, lo + j, none⟩ = some (.string v)) :
   Calls Try.prog 85 #[.pointer (some ⟨g, 0, none⟩), .slice (some ⟨l, lo, none⟩) k kc] w (GotS w g A n c (q + 1)) := by
 have H := Lib.hid hc
 clear hc
 go_enter Try.func85, Try.ntmps85
 go_wp2_with fail
 refine (pick_any g q n c A _ _ h hq (by omega) (by omega)).mono ?_
 rintro e w1 ⟨r, rfl, ⟨r0, r1⟩, hr, hg⟩
 obtain ⟨v, hv⟩ := H.out r.toNat (by omega)
 have hv1 := (gb_cell hg hl hlg).trans hv
 clear hv
 go_wp2
 go_ret
 exact ⟨v, rfl, hr, hg⟩
theorem of_lits {w : World} {l : Nat} {xs : List ByteArray} {T : TypeId} {fz : Nat × Nat} (h : w.heap[l]? = some (.cells (xs.map Value.string).toArray T fz)) {k : Nat} (hk : xs.length = k) :
   ∀ j, j < k -> ∃ v : ByteArray, w.cell? ⟨l, 0 + j, none⟩ = some (.string v) := λ j hj => ⟨xs[j]'(by omega), by rw [Nat.zero_add, blk_cell h]; simp [hk, hj]⟩
end Go.Proofs.Ytjcpjijihajopaa
namespace Go.Proofs.Ytjcpjijihajopaa
open Go.RowKit
structure RsSt (w0 : World) (g : Nat) (A : Option Addr) (n c q rb : Nat) (T : TypeId) (zs : Array Value) (W : World) : Prop where
 rd : Rd W g A n c q
 gr : w0.grownBy W (some g)
 hg : g < w0.heap.size
 res : W.heap[rb]? = some (.cells zs T)
 rlo : w0.heap.size <= rb
structure BxSt (w0 : World) (g : Nat) (A : Option Addr) (n c q rb b : Nat) (T : TypeId) (zs cs : Array Value) (W : World) : Prop where
 rs : RsSt w0 g A n c q rb T zs W
 blk : W.heap[b]? = some (.cells cs T)
 lo : w0.heap.size <= b /\ b ≠ rb
section
variable {w0 : World} {g : Nat} {A : Option Addr} {n c q rb b : Nat} {T : TypeId} {zs cs : Array Value} {W W' : World}
theorem RsSt.alloc (h : RsSt w0 g A n c q rb T zs W) (o : Obj) : RsSt w0 g A n c q rb T zs (W.alloc o) := ⟨h.rd.alloc o, gb_al h.gr o, h.hg, blk_alloc h.res o, h.rlo⟩
theorem RsSt.grown {q' : Nat} (h : RsSt w0 g A n c q rb T zs W) (hr : Rd W' g A n c q') (hg : W.grownBy W' (some g)) : RsSt w0 g A n c q' rb T zs W' :=
 ⟨hr, gb_trans h.gr hg, h.hg, (blk_grown hg h.res (by have := h.hg; have := h.rlo; omega)).1, h.rlo⟩
theorem RsSt.wide {q' : Nat} (h : RsSt w0 g A n c q rb T zs W) (hq : q <= q') : RsSt w0 g A n c q' rb T zs W := ⟨h.rd.mono hq, h.gr, h.hg, h.res, h.rlo⟩
theorem RsSt.box (h : RsSt w0 g A n c q rb T zs W) (cs : Array Value) {b : Nat} (hb : b = W.heap.size) : BxSt w0 g A n c q rb b T zs cs (W.alloc (.cells cs T)) := ⟨h.alloc _, heap_new' _ _ hb, by have := blk_lt h.res; have := h.gr.size; omega⟩
theorem RsSt.set {i : Nat} {u : Value} {b : Nat} (h : RsSt w0 g A n c q rb T zs W) (hb : w0.heap.size <= b /\ b ≠ rb) : RsSt w0 g A n c q rb T zs (W.setCell ⟨b, i, none⟩ u) :=
 ⟨h.rd.setCell (by have := h.hg; have := h.rlo; simp; omega) u, gb_set h.gr (by have := h.rlo; simp; omega) u, h.hg, (Below.heap_setCell W ⟨b, i, none⟩ u _ (by show rb ≠ b; omega)).trans h.res, h.rlo⟩
theorem BxSt.alloc (h : BxSt w0 g A n c q rb b T zs cs W) (o : Obj) : BxSt w0 g A n c q rb b T zs cs (W.alloc o) := ⟨h.rs.alloc o, blk_alloc h.blk o, h.lo⟩
theorem BxSt.grown {q' : Nat} (h : BxSt w0 g A n c q rb b T zs cs W) (hr : Rd W' g A n c q') (hg : W.grownBy W' (some g)) : BxSt w0 g A n c q' rb b T zs cs W' :=
 ⟨h.rs.grown hr hg, (blk_grown hg h.blk (by have := h.rs.hg; have := h.rs.rlo; have := h.lo; omega)).1, h.lo⟩
theorem BxSt.wide {q' : Nat} (h : BxSt w0 g A n c q rb b T zs cs W) (hq : q <= q') : BxSt w0 g A n c q' rb b T zs cs W := ⟨h.rs.wide hq, h.blk, h.lo⟩
theorem BxSt.set {i : Nat} {u : Value} {cs' : Array Value} (h : BxSt w0 g A n c q rb b T zs cs W) (e : cs.setIfInBounds i u = cs') : BxSt w0 g A n c q rb b T zs cs' (W.setCell ⟨b, i, none⟩ u) :=
 ⟨h.rs.set h.lo, by rw [blk_setCell h.blk, e], h.lo⟩
theorem BxSt.zb (h : BxSt w0 g A n c q rb b T zs cs W) : b < W.heap.size := blk_lt h.blk
theorem RsSt.end1 {i : Nat} {u : Value} (hr : Rd W g A n c q /\ w0.grownBy W (some g)) (hg : g < w0.heap.size) (hb : w0.heap.size <= rb) : Rd (W.setCell ⟨rb, i, none⟩ u) g A n c q /\ w0.grownBy (W.setCell ⟨rb, i, none⟩ u) (some g) :=
 ⟨hr.1.setCell (by show g < rb; omega) u, gb_set hr.2 hb u⟩
theorem RsSt.end0 {q' : Nat} (h : RsSt w0 g A n c q rb T zs W) (hq : q <= q') : Rd W g A n c q' /\ w0.grownBy W (some g) := ⟨h.rd.mono hq, h.gr⟩
end
def Got3 (w : World) (g : Nat) (A : Option Addr) (n c q : Nat) (e : Ending) (w' : World) : Prop :=
 ∃ (x y z : Int), e = .returned (.agg #[.int .i64 x, .int .i64 y, .int .i64 z]) /\ Rd w' g A n c q /\ w.grownBy w' (some g)
def Got3S (w : World) (g : Nat) (A : Option Addr) (n c q : Nat) (e : Ending) (w' : World) : Prop :=
 ∃ (s : ByteArray) (x y : Int), e = .returned (.agg #[.string s, .int .i64 x, .int .i64 y]) /\ Rd w' g A n c q /\ w.grownBy w' (some g)
set_option maxRecDepth 20000 in
set_option maxHeartbeats 4000000 in
theorem l6Office_any (g q n c : Nat) (A : Option Addr) (w : World) (h : Rd w g A n c q) (hq : q < 900000000) :
   Calls Try.prog 82 #[.pointer (some ⟨g, 0, none⟩)] w (Got3 w g A n c (q + 10)) := by
 have hgl := h.gblt
 obtain ⟨rb, hrb⟩ : ∃ y, y = w.heap.size := ⟨_, rfl⟩
 have HRB := Lib.hid hrb
 have HR0 := Lib.hid (show RsSt w g A n c q rb 91 #[.int .i64 0, .int .i64 0, .int .i64 0] (w.alloc (.cells #[.int .i64 0, .int .i64 0, .int .i64 0] 91)) from ⟨h.alloc _, gb_al (World.grownBy.refl _ _) _, hgl, heap_new' _ _ hrb, by omega⟩)
 clear h
 go_enter Try.func82, Try.ntmps82
 go_upto_region 1 with fail
 rw [<- hrb]
 clear hrb
 obtain ⟨W1, hW1⟩ : ∃ y, y = w.alloc (.cells #[.int .i64 0, .int .i64 0, .int .i64 0] 91) := ⟨_, rfl⟩
 rw [<- hW1] at HR0 ⊢
 clear hW1
 have once : True := trivial
 go_upto_region 2 with (first
   | (clear once; go_at_call 61; refine (pick_any g q n c A _ W1 HR0.out.rd (by omega) (by omega) (by omega)).mono ?_; rintro e w2 ⟨r1, rfl, ⟨r10, r11⟩, hr2, hg2⟩; have HR1 := Lib.hid (HR0.out.grown hr2 hg2); clear hr2 hg2)
   | (go_at_call 61; refine (pick_any g (q + 1) n c A _ w2 HR1.out.rd (by omega) (by omega) (by omega)).mono ?_; rintro e w3 ⟨r2, rfl, ⟨r20, r21⟩, hr3, hg3⟩; have HR2 := Lib.hid (HR1.out.grown hr3 hg3); have z3 := blk_lt HR2.out.res; have hlo3 := HR2.out.rlo; clear hr3 hg3)
   | (go_at_call 51; refine (num_any g (q + 2) n c _ 0 5 5 A _ (HR2.out.alloc _).rd (by omega) (by omega) (by omega) (by simp) (by omega) (num_lits (xs := [5, 3, 10, 1, 60]) (heap_alloc_new _ _) rfl)).mono ?_; rintro e w4 ⟨r3, rfl, _, hr4, hg4⟩; have HR3 := Lib.hid ((HR2.out.alloc _).grown hr4 hg4); clear hr4 hg4))
 obtain ⟨b, hb⟩ : ∃ y, y = w4.heap.size := ⟨_, rfl⟩
 rw [<- hb]
 have HB4 := Lib.hid (HR3.out.box #[.int .i64 (1 + r1), .int .i64 (1 + r2), .int .i64 r3] hb)
 obtain ⟨W4, hW4⟩ : ∃ y, y = w4.alloc (.cells #[.int .i64 (1 + r1), .int .i64 (1 + r2), .int .i64 r3] 91) := ⟨_, rfl⟩
 rw [<- hW4] at HB4 ⊢
 obtain ⟨x1, hx1⟩ : ∃ y, y = 1 + r1 := ⟨_, rfl⟩
 obtain ⟨x2, hx2⟩ : ∃ y, y = 1 + r2 := ⟨_, rfl⟩
 rw [<- hx1, <- hx2] at HB4
 clear hW4 hb hx1 hx2
 go_upto_region 3 with (go_at_call 61; refine (pick_any g (q + 3) n c A _ W4 HB4.out.rs.rd (by omega) (by omega) (by omega)).mono ?_; rintro e w5 ⟨r, rfl, ⟨r0, r9⟩, hr5, hg5⟩; have HB5 := Lib.hid (HB4.out.grown hr5 hg5); clear hr5 hg5)
 by_cases e0 : r = 0
 . subst e0
   have zb0 := HB5.out.zb
   have zlo := HB5.out.lo
   have hrg := HB5.out.rs.rlo
   have hne : ¬ b = rb := by omega
   have hne2 : ¬ rb = b := by omega
   go_wp2_with (go_at_call 51; refine (num_any g _ n c _ 0 3 3 A _ ((HB5.out.alloc _).rs.rd) (by omega) (by omega) (by omega) (by simp) (by omega) (num_lits (xs := [0, 7, -1]) (heap_alloc_new _ _) rfl)).mono ?_; rintro e w6 ⟨p, rfl, _, hr6, hg6⟩; have HB6 := Lib.hid ((HB5.out.alloc _).grown hr6 hg6); have ec := blk_cell HB6.out.blk; have fc := blk_frozen HB6.out.blk; have er := blk_cell HB6.out.rs.res; have fr := blk_frozen HB6.out.rs.res; have zb := HB6.out.zb; have zr := blk_lt HB6.out.rs.res; clear hr6 hg6)
   refine bodyPost_ret (v := .agg #[.int .i64 p, .int .i64 x2, .int .i64 r3]) ?_ rfl ⟨_, _, _, rfl, RsSt.end1 (RsSt.end1 (RsSt.end1 (RsSt.end0 (HB6.out.set (i := 0) (u := .int .i64 p) rfl).rs (by omega)) hgl hrg) hgl hrg) hgl hrg⟩
   simp [results, Try.results82, go_sem, er]
 by_cases e1 : r = 1
 . subst e1
   have zb0 := HB5.out.zb
   have zlo := HB5.out.lo
   have hrg := HB5.out.rs.rlo
   have hne : ¬ b = rb := by omega
   have hne2 : ¬ rb = b := by omega
   go_wp2_with (go_at_call 51; refine (num_any g _ n c _ 0 3 3 A _ ((HB5.out.alloc _).rs.rd) (by omega) (by omega) (by omega) (by simp) (by omega) (num_lits (xs := [0, 5, 9223372036854775807]) (heap_alloc_new _ _) rfl)).mono ?_; rintro e w6 ⟨p, rfl, _, hr6, hg6⟩; have HB6 := Lib.hid ((HB5.out.alloc _).grown hr6 hg6); have ec := blk_cell HB6.out.blk; have fc := blk_frozen HB6.out.blk; have er := blk_cell HB6.out.rs.res; have fr := blk_frozen HB6.out.rs.res; have zb := HB6.out.zb; have zr := blk_lt HB6.out.rs.res; clear hr6 hg6)
   refine bodyPost_ret (v := .agg #[.int .i64 x1, .int .i64 p, .int .i64 r3]) ?_ rfl ⟨_, _, _, rfl, RsSt.end1 (RsSt.end1 (RsSt.end1 (RsSt.end0 (HB6.out.set (i := 1) (u := .int .i64 p) rfl).rs (by omega)) hgl hrg) hgl hrg) hgl hrg⟩
   simp [results, Try.results82, go_sem, er]
 by_cases e2 : r = 2
 . subst e2
   have zb0 := HB5.out.zb
   have zlo := HB5.out.lo
   have hrg := HB5.out.rs.rlo
   have hne : ¬ b = rb := by omega
   have hne2 : ¬ rb = b := by omega
   go_wp2_with (go_at_call 51; refine (num_any g _ n c _ 0 3 3 A _ ((HB5.out.alloc _).rs.rd) (by omega) (by omega) (by omega) (by simp) (by omega) (num_lits (xs := [0, 61, -1]) (heap_alloc_new _ _) rfl)).mono ?_; rintro e w6 ⟨p, rfl, _, hr6, hg6⟩; have HB6 := Lib.hid ((HB5.out.alloc _).grown hr6 hg6); have ec := blk_cell HB6.out.blk; have fc := blk_frozen HB6.out.blk; have er := blk_cell HB6.out.rs.res; have fr := blk_frozen HB6.out.rs.res; have zb := HB6.out.zb; have zr := blk_lt HB6.out.rs.res; clear hr6 hg6)
   refine bodyPost_ret (v := .agg #[.int .i64 x1, .int .i64 x2, .int .i64 p]) ?_ rfl ⟨_, _, _, rfl, RsSt.end1 (RsSt.end1 (RsSt.end1 (RsSt.end0 (HB6.out.set (i := 2) (u := .int .i64 p) rfl).rs (by omega)) hgl hrg) hgl hrg) hgl hrg⟩
   simp [results, Try.results82, go_sem, er]
 have e0' : (r == 0) = false := by simpa using e0
 have e1' : (r == 1) = false := by simpa using e1
 have e2' : (r == 2) = false := by simpa using e2
 clear e0 e1 e2
 have ec := blk_cell HB5.out.blk
 have fc := blk_frozen HB5.out.blk
 have er := blk_cell HB5.out.rs.res
 have fr := blk_frozen HB5.out.rs.res
 have zb := HB5.out.zb
 have zr := blk_lt HB5.out.rs.res
 have zlo := HB5.out.lo
 have hne : ¬ b = rb := by omega
 have hne2 : ¬ rb = b := by omega
 have hrg := HB5.out.rs.rlo
 go_wp2
 refine bodyPost_ret (v := .agg #[.int .i64 x1, .int .i64 x2, .int .i64 r3]) ?_ rfl ⟨_, _, _, rfl, RsSt.end1 (RsSt.end1 (RsSt.end1 (RsSt.end0 HB5.out.rs (by omega)) hgl hrg) hgl hrg) hgl hrg⟩
 simp [results, Try.results82, go_sem, er]
set_option maxRecDepth 20000 in
set_option maxHeartbeats 4000000 in
theorem l6One_any (g q n c : Nat) (A : Option Addr) (w : World) (h : Rd w g A n c q) (hq : q < 900000000) :
   Calls Try.prog 91 #[.pointer (some ⟨g, 0, none⟩)] w (Got3S w g A n c (q + 10)) := by
 have hgl := h.gblt
 obtain ⟨rb, hrb⟩ : ∃ y, y = w.heap.size := ⟨_, rfl⟩
 have HRB := Lib.hid hrb
 have HR0 := Lib.hid (show RsSt w g A n c q rb 132 #[.string ⟨#[]⟩, .int .i64 0, .int .i64 0] (w.alloc (.cells #[.string ⟨#[]⟩, .int .i64 0, .int .i64 0] 132)) from ⟨h.alloc _, gb_al (World.grownBy.refl _ _) _, hgl, heap_new' _ _ hrb, by omega⟩)
 clear h
 go_enter Try.func91, Try.ntmps91
 go_upto_region 1 with fail
 rw [<- hrb]
 clear hrb
 obtain ⟨W1, hW1⟩ : ∃ y, y = w.alloc (.cells #[.string ⟨#[]⟩, .int .i64 0, .int .i64 0] 132) := ⟨_, rfl⟩
 rw [<- hW1] at HR0 ⊢
 clear hW1
 have zr0 := blk_lt HR0.out.res
 have hrg0 := HR0.out.rlo
 go_upto_region 2 with (go_at_call 85; refine (of_any g q n c _ 0 8 8 A _ (HR0.out.alloc _).rd (by omega) (by omega) (by omega) (by simp) (by omega) (of_lits (xs := [⟨#[114, 105, 110, 103]⟩, ⟨#[114, 105, 110, 103]⟩, ⟨#[114, 105, 110, 103]⟩, ⟨#[97, 110, 115, 119, 101, 114]⟩, ⟨#[97, 110, 115, 119, 101, 114]⟩, ⟨#[104, 97, 110, 103]⟩, ⟨#[119, 97, 105, 116]⟩, ⟨#[114, 101, 116, 117, 114, 110]⟩]) (heap_alloc_new _ _) rfl)).mono ?_; rintro e w2 ⟨s, rfl, hr2, hg2⟩; have HR1 := Lib.hid ((HR0.out.alloc _).grown hr2 hg2); clear hr2 hg2)
 obtain ⟨b, hb⟩ : ∃ y, y = w2.heap.size := ⟨_, rfl⟩
 rw [<- hb]
 have HB1 := Lib.hid (HR1.out.box #[.string s, .int .i64 0, .int .i64 0] hb)
 obtain ⟨W2, hW2⟩ : ∃ y, y = w2.alloc (.cells #[.string s, .int .i64 0, .int .i64 0] 132) := ⟨_, rfl⟩
 rw [<- hW2] at HB1 ⊢
 clear hW2 hb
 have ec := blk_cell HB1.out.blk
 have fc := blk_frozen HB1.out.blk
 have zb := HB1.out.zb
 have zlo := HB1.out.lo
 have hrg := HB1.out.rs.rlo
 go_upto_block 0 with fail
 go_cut [] from 10 to 34 (λ wx => ∃ x y : Int, BxSt w g A n c (q + 5) rb b 132 #[.string ⟨#[]⟩, .int .i64 0, .int .i64 0] #[.string s, .int .i64 x, .int .i64 y] wx)
 case first =>
   have once : True := trivial
   cases t0 : (s.toList == [114, 105, 110, 103])
   . cases t1 : (s.toList == [104, 97, 110, 103])
     . cases t2 : (s.toList == [119, 97, 105, 116])
       . go_wp2_with (go_at_call 61; refine (pick_any g _ n c A _ W2 HB1.out.rs.rd (by omega) (by omega) (by omega)).mono ?_; rintro e w3 ⟨r, rfl, ⟨r0, r1⟩, hr6, hg6⟩; have HB2 := Lib.hid (HB1.out.grown hr6 hg6); have ec := blk_cell HB2.out.blk; have fc := blk_frozen HB2.out.blk; have zb := HB2.out.zb; clear hr6 hg6)
         go_meet
         exact ⟨_, _, (HB2.out.set (i := 1) (u := .int .i64 (1 + r)) rfl).wide (by omega)⟩
       . go_wp2_with (go_at_call 51; refine (num_any g _ n c _ 0 5 5 A _ ((HB1.out.alloc _).rs.rd) (by omega) (by omega) (by omega) (by simp) (by omega) (num_lits (xs := [1, 2, 5, 3, 60]) (heap_alloc_new _ _) rfl)).mono ?_; rintro e w3 ⟨p, rfl, _, hr6, hg6⟩; have HB2 := Lib.hid ((HB1.out.alloc _).grown hr6 hg6); have ec := blk_cell HB2.out.blk; have fc := blk_frozen HB2.out.blk; have zb := HB2.out.zb; clear hr6 hg6)
         go_meet
         exact ⟨_, _, (HB2.out.set (i := 1) (u := .int .i64 p) rfl).wide (by omega)⟩
     . go_wp2_with (go_at_call 61; refine (pick_any g _ n c A _ W2 HB1.out.rs.rd (by omega) (by omega) (by omega)).mono ?_; rintro e w3 ⟨r, rfl, ⟨r0, r1⟩, hr6, hg6⟩; have HB2 := Lib.hid (HB1.out.grown hr6 hg6); have ec := blk_cell HB2.out.blk; have fc := blk_frozen HB2.out.blk; have zb := HB2.out.zb; clear hr6 hg6)
       go_meet
       exact ⟨_, _, (HB2.out.set (i := 1) (u := .int .i64 (1 + r)) rfl).wide (by omega)⟩
   . go_wp2_with (first
       | (clear once; go_at_call 61; refine (pick_any g _ n c A _ W2 HB1.out.rs.rd (by omega) (by omega) (by omega)).mono ?_; rintro e w3 ⟨r, rfl, ⟨r0, r1⟩, hr6, hg6⟩; have HB2 := Lib.hid (HB1.out.grown hr6 hg6); have ec := blk_cell HB2.out.blk; have fc := blk_frozen HB2.out.blk; have zb := HB2.out.zb; clear hr6 hg6; clear ec fc; have HB3 := Lib.hid (HB2.out.set (i := 1) (u := .int .i64 (1 + r)) rfl); have ec := blk_cell HB2.out.blk; have fc := blk_frozen HB2.out.blk)
       | (go_at_call 61; refine (pick_any g _ n c A _ (w3.setCell ⟨b, 1, none⟩ (.int .i64 (1 + r))) HB3.out.rs.rd (by omega) (by omega) (by omega)).mono ?_; rintro e w4 ⟨r2, rfl, ⟨r20, r21⟩, hr6, hg6⟩; have HB4 := Lib.hid (HB3.out.grown hr6 hg6); have ec := blk_cell HB4.out.blk; have fc := blk_frozen HB4.out.blk; have zb := HB4.out.zb; clear hr6 hg6))
     go_meet
     exact ⟨_, _, (HB4.out.set (i := 2) (u := .int .i64 r2) rfl).wide (by omega)⟩
 case rest =>
   obtain ⟨x, y, hst⟩ := hcut
   have HB5 := Lib.hid hst
   clear hst ec fc zb
   obtain ⟨W5, hW5⟩ : ∃ y, y = wc := ⟨_, rfl⟩
   rw [<- hW5] at HB5 ⊢
   clear hW5
   go_upto_block 1 with (go_at_call 61; refine (pick_any g _ n c A _ W5 HB5.out.rs.rd (by omega) (by omega) (by omega)).mono ?_; rintro e w6 ⟨r, rfl, ⟨r0, r1⟩, hr6, hg6⟩; have HB6 := Lib.hid (HB5.out.grown hr6 hg6); have ec := blk_cell HB6.out.blk; have fc := blk_frozen HB6.out.blk; have zb := HB6.out.zb; clear hr6 hg6)
   go_cut [] from 37 to 54 (λ wx => ∃ (s : ByteArray) (x y : Int), BxSt w g A n c (q + 7) rb b 132 #[.string ⟨#[]⟩, .int .i64 0, .int .i64 0] #[.string s, .int .i64 x, .int .i64 y] wx)
   case first =>
     by_cases e0 : r = 0
     . subst e0
       go_wp2_with (go_at_call 51; refine (num_any g _ n c _ 0 5 5 A _ ((HB6.out.alloc _).rs.rd) (by omega) (by omega) (by omega) (by simp) (by omega) (num_lits (xs := [0, 100, -1, 61, 5]) (heap_alloc_new _ _) rfl)).mono ?_; rintro e w7 ⟨p, rfl, _, hr6, hg6⟩; have HB7 := Lib.hid ((HB6.out.alloc _).grown hr6 hg6); have ec := blk_cell HB7.out.blk; have fc := blk_frozen HB7.out.blk; have zb := HB7.out.zb; clear hr6 hg6)
       go_meet
       exact ⟨_, _, _, (HB7.out.set (i := 1) (u := .int .i64 p) rfl).wide (by omega)⟩
     by_cases e1 : r = 1
     . subst e1
       go_wp2_with (go_at_call 51; refine (num_any g _ n c _ 0 3 3 A _ ((HB6.out.alloc _).rs.rd) (by omega) (by omega) (by omega) (by simp) (by omega) (num_lits (xs := [1, 10, -1]) (heap_alloc_new _ _) rfl)).mono ?_; rintro e w7 ⟨p, rfl, _, hr6, hg6⟩; have HB7 := Lib.hid ((HB6.out.alloc _).grown hr6 hg6); have ec := blk_cell HB7.out.blk; have fc := blk_frozen HB7.out.blk; have zb := HB7.out.zb; clear hr6 hg6)
       go_meet
       exact ⟨_, _, _, (HB7.out.set (i := 2) (u := .int .i64 p) rfl).wide (by omega)⟩
     by_cases e2 : r = 2
     . subst e2
       go_wp2_with (go_at_call 85; refine (of_any g _ n c _ 0 3 3 A _ (HB6.out.alloc _).rs.rd (by omega) (by omega) (by omega) (by simp) (by omega) (of_lits (xs := [⟨#[]⟩, ⟨#[114, 105, 110, 103, 115]⟩, ⟨#[112, 117, 116]⟩]) (heap_alloc_new _ _) rfl)).mono ?_; rintro e w7 ⟨s', rfl, hr2, hg2⟩; have HB7 := Lib.hid ((HB6.out.alloc _).grown hr2 hg2); have ec := blk_cell HB7.out.blk; have fc := blk_frozen HB7.out.blk; have zb := HB7.out.zb; clear hr2 hg2)
       go_meet
       exact ⟨_, _, _, (HB7.out.set (i := 0) (u := .string s') rfl).wide (by omega)⟩
     have e0' : (r == 0) = false := by simpa using e0
     have e1' : (r == 1) = false := by simpa using e1
     have e2' : (r == 2) = false := by simpa using e2
     clear e0 e1 e2
     go_wp2
     go_meet
     exact ⟨_, _, _, HB6.out.wide (by omega)⟩
   case rest =>
     obtain ⟨s8, x8, y8, hst⟩ := hcut
     clear ec fc zb
     obtain ⟨W8, hW8⟩ : ∃ y, y = wc := ⟨_, rfl⟩
     rw [<- hW8] at hst ⊢
     clear hW8
     have HB8 := Lib.hid hst
     clear hst
     have ec := blk_cell HB8.out.blk
     have fc := blk_frozen HB8.out.blk
     have er := blk_cell HB8.out.rs.res
     have fr := blk_frozen HB8.out.rs.res
     have zb := HB8.out.zb
     have zr := blk_lt HB8.out.rs.res
     have zlo := HB8.out.lo
     have hne : ¬ b = rb := by omega
     have hne2 : ¬ rb = b := by omega
     have hrg := HB8.out.rs.rlo
     go_wp2
     refine bodyPost_ret (v := .agg #[.string s8, .int .i64 x8, .int .i64 y8]) ?_ rfl ⟨_, _, _, rfl, RsSt.end1 (RsSt.end1 (RsSt.end1 (RsSt.end0 HB8.out.rs (by omega)) hgl hrg) hgl hrg) hgl hrg⟩
     simp [results, Try.results91, go_sem, er]
theorem info_event : (Try.prog.info? 132).map (λ i => (i.zero, i.size, i.bytes)) = some (some (.agg #[.string ⟨#[]⟩, .int .i64 0, .int .i64 0]), 3, 32) := by kernel_rfl
structure ESt (w0 : World) (g : Nat) (A : Option Addr) (n c q : Nat) (v : Value) (k : Nat) (xs : List Value) (b : Nat) (s : ByteArray) (x y : Int) (W : World) : Prop where
 st : DSt w0 g A n c q 132 3 v k xs W
 blk : W.heap[b]? = some (.cells #[.string s, .int .i64 x, .int .i64 y] 132)
 lt : ∀ b', v.ownBlock = some b' -> b' < b
 lo : w0.heap.size <= b
section
variable {w0 : World} {g : Nat} {A : Option Addr} {n c q : Nat} {v : Value} {k : Nat} {xs : List Value} {b : Nat} {s : ByteArray} {x y : Int} {W W' : World}
theorem ESt.below (h : ESt w0 g A n c q v k xs b s x y W) (hb : Below W.heap.size W W') : ESt w0 g A n c q v k xs b s x y W' := ⟨h.st.below hb, (blk_below hb h.blk).1, h.lt, h.lo⟩
theorem ESt.grown {q' : Nat} (h : ESt w0 g A n c q v k xs b s x y W) (hr : Rd W' g A n c q') (hg : W.grownBy W' (some g)) : ESt w0 g A n c q' v k xs b s x y W' :=
 ⟨h.st.grown hr hg, (blk_grown hg h.blk (by have := h.st.hg; have := h.lo; omega)).1, h.lt, h.lo⟩
theorem ESt.wide {q' : Nat} (h : ESt w0 g A n c q v k xs b s x y W) (hq : q <= q') : ESt w0 g A n c q' v k xs b s x y W := ⟨h.st.wide hq, h.blk, h.lt, h.lo⟩
theorem ESt.set {i : Nat} {u : Value} {s' : ByteArray} {x' y' : Int} (h : ESt w0 g A n c q v k xs b s x y W) (e : (#[Value.string s, .int .i64 x, .int .i64 y] : Array Value).setIfInBounds i u = #[.string s', .int .i64 x', .int .i64 y']) : ESt w0 g A n c q v k xs b s' x' y' (W.setCell ⟨b, i, none⟩ u) :=
 ⟨h.st.aside (gb_setCell ⟨b, i, none⟩ u) (by
     cases e2 : v.ownBlock with
     | none => exact .inl rfl
     | some b' => right; intro e3; injection e3 with e3; have := h.lt b' e2; simp at e3; omega) (λ b' e2 => by injection e2 with e2; simp at e2; have := h.lo; omega),
  by rw [blk_setCell h.blk, e], h.lt, h.lo⟩
theorem ESt.zb (h : ESt w0 g A n c q v k xs b s x y W) : b < W.heap.size := blk_lt h.blk
theorem ESt.make (h : DSt w0 g A n c q 132 3 v k xs W) (s : ByteArray) (x y : Int) : ESt w0 g A n c q v k xs W.heap.size s x y (W.alloc (.cells #[.string s, .int .i64 x, .int .i64 y] 132)) :=
 ⟨h.alloc _, heap_alloc_new _ _, λ b' e => (h.own.lt b' e).2, h.hb⟩
end
theorem events_snoc (es : List EventD) (s : ByteArray) (x y : Int) : events (es ++ [⟨s, x, y⟩]) = events es ++ [.string s, .int .i64 x, .int .i64 y] := by simp [events, EventD.cells]
def GotEvents (w : World) (g : Nat) (A : Option Addr) (n c q : Nat) (e : Ending) (w' : World) : Prop :=
 ∃ (A' : Option Addr) (n' c' : Nat) (es : List EventD), e = .returned (.slice A' n' c') /\ OwnV 132 3 w' w.heap.size w'.heap.size A' n' c' (events es) /\ n' <= 20 /\ Rd w' g A n c q /\ w.grownBy w' (some g)
theorem gotEvents_of {w : World} {g : Nat} {A : Option Addr} {n c q q' k : Nat} {v : Value} {es : List EventD} {W : World} (h : DSt w g A n c q 132 3 v k (events es) W) (hk : k <= 20) (hq : q <= q') : GotEvents w g A n c q' (.returned v) W := by
 obtain ⟨A1, c1, rfl, ho⟩ := ownV_of_row h.own (by decide)
 exact ⟨A1, k, c1, es, rfl, ho, hk, h.rd.mono hq, h.gr⟩
set_option maxRecDepth 20000 in
set_option maxHeartbeats 4000000 in
theorem l6List_any (g q n c : Nat) (A : Option Addr) (w : World) (h : Rd w g A n c q) (hq : q < 800000000) :
   Calls Try.prog 83 #[.pointer (some ⟨g, 0, none⟩)] w (GotEvents w g A n c (q + 200)) := by
 obtain ⟨i0, hi, hz0, hz1, hz2⟩ := info_parts info_event
 have HI := Lib.hid (And.intro hi (And.intro hz0 (And.intro hz1 hz2)))
 clear hi hz0 hz1 hz2
 have D1 := DSt.init 132 3 h
 have gb := D1.hg
 clear h
 go_enter Try.func83, Try.ntmps83
 go_wp2_with fail
 refine (pick_any g _ n c A _ _ D1.rd (by omega) (by omega) (by omega)).mono ?_
 rintro e w2 ⟨r, rfl, ⟨r0, r5⟩, hr, hg⟩
 have D2 := (D1.grown hr hg).wide (q' := q + 194 - 12 * r.toNat) (by omega)
 clear D1 hr hg
 obtain ⟨R, rfl⟩ := Int.eq_ofNat_of_zero_le r0
 have HD2 := Lib.hid D2
 clear D2
 go_wp2
 go_loopw [3, 4] (λ v i wr => ∃ (m k : Nat) (es : List EventD), i = .int .i64 m /\ m + k <= 15 /\ es.length = k /\ DSt w g A n c (q + 194 - 12 * m) 132 3 v k (events es) wr) (λ _ i _ => (intOf i).toNat)
 case atStart => exact ⟨R, 0, [], rfl, by omega, rfl, HD2.out⟩
 case round =>
   obtain ⟨m, k, es, rfl, hmk, hxk, D⟩ := hrel
   have HX := Lib.hid hxk
   clear hxk
   obtain ⟨V, hV⟩ : ∃ V, V = u3 := ⟨_, rfl⟩
   by_cases hlt : 0 < m
   . have z4 := D.hb
     have HD := Lib.hid D
     clear D
     go_upto_region 6 with (go_at_call 91; refine (l6One_any g (q + 194 - 12 * m) n c A _ HD.out.rd (by omega)).mono ?_; rintro e w3 ⟨s, x, y, rfl, hr, hg⟩; have HD3 := Lib.hid (ESt.make (HD.out.grown hr hg) s x y); have zb3 := HD3.out.zb; have ec := blk_cell HD3.out.blk; clear hr hg)
     go_cut [22] from 9 to 30 (λ v wx => ∃ t : Bool, v = .bool t /\ ESt w g A n c (q + 194 - 12 * m + 11) u3 k (events es) w3.heap.size s x y wx)
     case first =>
       obtain ⟨t, ht⟩ : ∃ t, t = eventB 2 ⟨s, x, y⟩ := ⟨_, rfl⟩
       have HT := Lib.hid ht
       clear ht
       cases t
       . go_wp2_with (first
           | (go_at_call 92; refine (l6Event_any ⟨s, x, y⟩ 2 _).mono ?_; rintro e w4 ⟨rfl, b4⟩; rw [<- HT.out]; have HD4 := Lib.hid (HD3.out.below b4); clear b4)
           | (go_at_call 61; refine (pick_any g (q + 194 - 12 * m + 10) n c A _ _ HD4.out.st.rd (by omega) (by omega) (by omega)).mono ?_; rintro e w5 ⟨r2, rfl, ⟨r20, r21⟩, hr2, hg2⟩; have HD5 := Lib.hid (HD4.out.grown hr2 hg2); clear hr2 hg2))
         all_goals
           go_meet
           exact ⟨_, rfl, HD5.out⟩
       . go_wp2_with (go_at_call 92; refine (l6Event_any ⟨s, x, y⟩ 2 _).mono ?_; rintro e w4 ⟨rfl, b4⟩; rw [<- HT.out]; have HD4 := Lib.hid (HD3.out.below b4); clear b4)
         go_meet
         exact ⟨_, rfl, HD4.out.wide (by omega)⟩
     case rest =>
       obtain ⟨t, rfl, D6⟩ := hcut
       have HD6 := Lib.hid D6
       clear D6
       go_upto_if 22 with fail
       go_cut [] from 23 to 30 (λ wx => ∃ (s' : ByteArray) (x' y' : Int), ESt w g A n c (q + 194 - 12 * m + 12) u3 k (events es) w3.heap.size s' x' y' wx)
       case first =>
         have ec := blk_cell HD6.out.blk
         have fc := blk_frozen HD6.out.blk
         have zb := HD6.out.zb
         cases t
         . go_wp2
           go_meet
           exact ⟨s, x, y, HD6.out.wide (by omega)⟩
         . go_wp2_with (go_at_call 61; refine (pick_any g (q + 194 - 12 * m + 11) n c A _ _ HD6.out.st.rd (by omega) (by omega) (by omega)).mono ?_; rintro e w5 ⟨r2, rfl, ⟨r20, r21⟩, hr2, hg2⟩; have HD7 := Lib.hid (HD6.out.grown hr2 hg2); have ec := blk_cell HD7.out.blk; have fc := blk_frozen HD7.out.blk; have zb := HD7.out.zb; clear hr2 hg2)
           go_meet
           exact ⟨_, _, _, ((HD7.out.set (i := 0) (u := .string ⟨#[114, 105, 110, 103]⟩) (s' := ⟨#[114, 105, 110, 103]⟩) (x' := x) (y' := y) rfl).set (i := 1) (u := .int .i64 (1 + r2)) (s' := ⟨#[114, 105, 110, 103]⟩) (x' := 1 + r2) (y' := y) rfl).set (i := 2) (u := .int .i64 0) (s' := ⟨#[114, 105, 110, 103]⟩) (x' := 1 + r2) (y' := 0) rfl⟩
       case rest =>
         obtain ⟨s', x', y', D7⟩ := hcut
         have ec := blk_cell D7.blk
         have zb := D7.zb
         have zw := D7.st.hb
         have HD7 := Lib.hid D7
         obtain ⟨hi, hz0, hz1, hz2⟩ := HI.out
         have HH := Lib.hid hi
         clear hi D7
         go_wp2_with (at_builtin; refine wpList_append_own_at _ rfl _ _ 92 rfl w.heap.size 132 i0 (.agg #[.string ⟨#[]⟩, .int .i64 0, .int .i64 0]) 3 32 Try.underlying92 HH.out hz0 hz1 hz2 rfl (by decide) _ _ _ rfl ((HD7.out.st.alloc _).own) ⟨wc.heap.size, 0, none⟩ 1 1 [.string s', .int .i64 x', .int .i64 y'] rfl rfl (World.news_of_block (cs := #[.string s', .int .i64 x', .int .i64 y']) (heap_alloc_new _ _)) (by simp [Value.oneCell']) (by unfold maxLen; omega) (by omega) (by simp; omega) ?_; intro v' w6 hown6 hgr _ _)
         have D8 := ((HD7.out.st.alloc _).app hown6 hgr).wide (q' := q + 194 - 12 * (m - 1)) (by omega)
         have HD8 := Lib.hid D8
         clear D8 hown6 hgr hz0 hz1 hz2
         go_wp2
         go_roundw
         case rel => exact ⟨m - 1, k + 1, es ++ [⟨s', x', y'⟩], int_pred hlt, by omega, by simp [HX.out], by rw [events_snoc]; exact HD8.out⟩
         case measure => simp [intOf]; omega
   . have em : m = 0 := by omega
     subst em
     have HD := Lib.hid D
     clear D
     go_wp2
     go_ret
     exact gotEvents_of HD.out (by omega) (by omega)
end Go.Proofs.Ytjcpjijihajopaa
namespace Go.Proofs.Ytjcpjijihajopaa
open Go.RowKit
theorem below_al' {B : Nat} {w W : World} (h : Below B w W) (o : Obj) (hB : B <= W.heap.size) : Below B w (W.alloc o) := h.trans ((below_al (Below.refl W.heap.size W) o).mono hB)
set_option maxHeartbeats 4000000 in
set_option maxRecDepth 20000 in
theorem RecordsOf_any (o : OffD) (lo hi n c : Nat) (A : Option Addr) (es : List EventD) (w : World) (h : Slc w lo hi 3 A n c (events es)) (hn : n <= 100000) (hhi : hi <= w.heap.size) :
   Calls Try.prog 60 #[.agg #[.int .i64 o.ln, .int .i64 o.op, .int .i64 o.pt], .slice A n c] w λ x w' => ∃ g c', x = .returned (.tuple #[.slice (some ⟨g, 0, none⟩) (roomF o es).recs.length c', .bool (officeOk o es)]) /\
     w'.ownsRow w.heap.size 50 7 (.slice (some ⟨g, 0, none⟩) (roomF o es).recs.length c') (roomF o es).recs.length (recs (roomF o es).recs) /\ Below w.heap.size w w' := by
 obtain ⟨O, hO⟩ : ∃ O : Obj, O = .cells #[.int .i64 o.ln, .int .i64 o.op, .int .i64 o.pt] 91 := ⟨_, rfl⟩
 have HB1 := Lib.hid (below_al (Below.refl w.heap.size w) O)
 have HS1 := Lib.hid (h.below HB1.out)
 have HO := Lib.hid hO
 have hz : (w.alloc O).heap.size = w.heap.size + 1 := by simp
 have HZ := Lib.hid hz
 clear h hz hO
 go_enter Try.func60, Try.ntmps60
 go_upto_region 1 with fail
 rw [<- HO.out]
 obtain ⟨W1, hW1⟩ : ∃ y, y = w.alloc O := ⟨_, rfl⟩
 have hk := heap_alloc_new w O
 rw [<- hW1] at HB1 HS1 HZ hk ⊢
 rw [HO.out] at hk
 have q := blk_cell hk
 have q0 := q 0
 have q1 := q 1
 have q2 := q 2
 clear hW1 hk q
 go_upto_region 2 with (go_at_call 84; refine (l6Run_any o lo hi n c A es W1 HS1.out hn (by have := HZ.out; omega)).mono ?_; rintro x w2 ⟨v, rfl, hok, hb2⟩; obtain ⟨r5, hr5⟩ : ∃ y : RoomD, y = roomF o es := ⟨_, rfl⟩; obtain ⟨t5, ht5⟩ : ∃ y : Bool, y = officeOk o es := ⟨_, rfl⟩; rw [<- hr5] at hok ⊢; rw [<- ht5]; have HR5 := Lib.hid hr5; have HT5 := Lib.hid ht5; have HOK := Lib.hid hok; have HB2 := Lib.hid hb2; clear hr5 ht5 hok hb2)
 go_wp2
 go_ret2
 have hz := HZ.out
 refine ⟨v.gR, v.cR, ?_, ?_, ?_⟩
 . rw [<- HR5.out, <- HT5.out]; rfl
 . rw [<- HR5.out]
   exact row_mono ((HOK.out.alloc _).rc) (by omega)
 . exact HB1.out.trans (below_al' (HB2.out.mono (by omega)) _ (by have := HB2.out.size; omega))
def Got7 (w : World) (g : Nat) (A : Option Addr) (n c q : Nat) (e : Ending) (w' : World) : Prop :=
 ∃ d : RecD, e = .returned (.agg #[.int .i64 d.c, .int .i64 d.l, .int .i64 d.o, .int .i64 d.f, .int .i64 d.h, .int .i64 d.t, .string d.e]) /\ Rd w' g A n c q /\ w.grownBy w' (some g)
set_option maxRecDepth 20000 in
set_option maxHeartbeats 4000000 in
theorem l8Bad_any (g q n c : Nat) (A : Option Addr) (d : RecD) (w : World) (h : Rd w g A n c q) (hq : q < 900000000) :
   Calls Try.prog 62 #[.pointer (some ⟨g, 0, none⟩), .agg #[.int .i64 d.c, .int .i64 d.l, .int .i64 d.o, .int .i64 d.f, .int .i64 d.h, .int .i64 d.t, .string d.e]] w (Got7 w g A n c (q + 5)) := by
 have hgl := h.gblt
 obtain ⟨gb, hgb⟩ : ∃ y, y = w.heap.size := ⟨_, rfl⟩
 have HGB := Lib.hid hgb
 have HB0 := Lib.hid (show BxSt w g A n c q (gb + 1) gb 50 #[.int .i64 0, .int .i64 0, .int .i64 0, .int .i64 0, .int .i64 0, .int .i64 0, .string ⟨#[]⟩] #[.int .i64 d.c, .int .i64 d.l, .int .i64 d.o, .int .i64 d.f, .int .i64 d.h, .int .i64 d.t, .string d.e] ((w.alloc (.cells #[.int .i64 d.c, .int .i64 d.l, .int .i64 d.o, .int .i64 d.f, .int .i64 d.h, .int .i64 d.t, .string d.e] 50)).alloc (.cells #[.int .i64 0, .int .i64 0, .int .i64 0, .int .i64 0, .int .i64 0, .int .i64 0, .string ⟨#[]⟩] 50)) from
   ⟨⟨(h.alloc _).alloc _, gb_al (gb_al (World.grownBy.refl _ _) _) _, hgl, heap_new' _ _ (by rw [hgb]; simp), by omega⟩, blk_alloc (heap_new' _ _ hgb) _, by omega⟩)
 clear h
 go_enter Try.func62, Try.ntmps62
 go_upto_region 1 with fail
 rw [<- hgb]
 clear hgb
 obtain ⟨W1, hW1⟩ : ∃ y, y = (w.alloc (.cells #[.int .i64 d.c, .int .i64 d.l, .int .i64 d.o, .int .i64 d.f, .int .i64 d.h, .int .i64 d.t, .string d.e] 50)).alloc (.cells #[.int .i64 0, .int .i64 0, .int .i64 0, .int .i64 0, .int .i64 0, .int .i64 0, .string ⟨#[]⟩] 50) := ⟨_, rfl⟩
 rw [<- hW1] at HB0 ⊢
 clear hW1
 go_upto_region 3 with (go_at_call 61; refine (pick_any g q n c A _ W1 HB0.out.rs.rd (by omega) (by omega) (by omega)).mono ?_; rintro e w2 ⟨r, rfl, ⟨r0, r1⟩, hr2, hg2⟩; have HB1 := Lib.hid (HB0.out.grown hr2 hg2); clear hr2 hg2)
 have zb0 := HB1.out.zb
 have zlo0 := HB1.out.lo
 have hrg := HB1.out.rs.rlo
 by_cases e0 : r = 0
 . subst e0
   go_wp2_with (go_at_call 51; refine (num_any g _ n c _ 0 3 3 A _ ((HB1.out.alloc _).rs.rd) (by omega) (by omega) (by omega) (by simp) (by omega) (num_lits (xs := [0, 100, -1]) (heap_alloc_new _ _) rfl)).mono ?_; rintro e w3 ⟨p, rfl, _, hr6, hg6⟩; have HB2 := Lib.hid ((HB1.out.alloc _).grown hr6 hg6); clear hr6 hg6; have ec := blk_cell HB2.out.blk; have fc := blk_frozen HB2.out.blk; have er := blk_cell HB2.out.rs.res; have fr := blk_frozen HB2.out.rs.res; have zb := HB2.out.zb; have zr := blk_lt HB2.out.rs.res; have hne : ¬ gb = gb + 1 := (by omega); have hne2 : ¬ gb + 1 = gb := (by omega))
   refine bodyPost_ret (v := .agg #[.int .i64 p, .int .i64 d.l, .int .i64 d.o, .int .i64 d.f, .int .i64 d.h, .int .i64 d.t, .string d.e]) ?_ rfl ⟨{ d with c := p }, rfl, (RsSt.end1 (RsSt.end1 (RsSt.end1 (RsSt.end1 (RsSt.end1 (RsSt.end1 (RsSt.end1 (RsSt.end0 (HB2.out.set (i := 0) (u := .int .i64 p) rfl).rs (by omega)) hgl hrg) hgl hrg) hgl hrg) hgl hrg) hgl hrg) hgl hrg) hgl hrg)⟩
   simp [results, Try.results62, go_sem, er]
 by_cases e1 : r = 1
 . subst e1
   go_wp2_with (go_at_call 51; refine (num_any g _ n c _ 0 2 2 A _ ((HB1.out.alloc _).rs.rd) (by omega) (by omega) (by omega) (by simp) (by omega) (num_lits (xs := [0, 7]) (heap_alloc_new _ _) rfl)).mono ?_; rintro e w3 ⟨p, rfl, _, hr6, hg6⟩; have HB2 := Lib.hid ((HB1.out.alloc _).grown hr6 hg6); clear hr6 hg6; have ec := blk_cell HB2.out.blk; have fc := blk_frozen HB2.out.blk; have er := blk_cell HB2.out.rs.res; have fr := blk_frozen HB2.out.rs.res; have zb := HB2.out.zb; have zr := blk_lt HB2.out.rs.res; have hne : ¬ gb = gb + 1 := (by omega); have hne2 : ¬ gb + 1 = gb := (by omega))
   refine bodyPost_ret (v := .agg #[.int .i64 d.c, .int .i64 p, .int .i64 d.o, .int .i64 d.f, .int .i64 d.h, .int .i64 d.t, .string d.e]) ?_ rfl ⟨{ d with l := p }, rfl, (RsSt.end1 (RsSt.end1 (RsSt.end1 (RsSt.end1 (RsSt.end1 (RsSt.end1 (RsSt.end1 (RsSt.end0 (HB2.out.set (i := 1) (u := .int .i64 p) rfl).rs (by omega)) hgl hrg) hgl hrg) hgl hrg) hgl hrg) hgl hrg) hgl hrg) hgl hrg)⟩
   simp [results, Try.results62, go_sem, er]
 by_cases e2 : r = 2
 . subst e2
   go_wp2_with (go_at_call 51; refine (num_any g _ n c _ 0 4 4 A _ ((HB1.out.alloc _).rs.rd) (by omega) (by omega) (by omega) (by simp) (by omega) (num_lits (xs := [-1, 5, 1, 0]) (heap_alloc_new _ _) rfl)).mono ?_; rintro e w3 ⟨p, rfl, _, hr6, hg6⟩; have HB2 := Lib.hid ((HB1.out.alloc _).grown hr6 hg6); clear hr6 hg6; have ec := blk_cell HB2.out.blk; have fc := blk_frozen HB2.out.blk; have er := blk_cell HB2.out.rs.res; have fr := blk_frozen HB2.out.rs.res; have zb := HB2.out.zb; have zr := blk_lt HB2.out.rs.res; have hne : ¬ gb = gb + 1 := (by omega); have hne2 : ¬ gb + 1 = gb := (by omega))
   refine bodyPost_ret (v := .agg #[.int .i64 d.c, .int .i64 d.l, .int .i64 p, .int .i64 d.f, .int .i64 d.h, .int .i64 d.t, .string d.e]) ?_ rfl ⟨{ d with o := p }, rfl, (RsSt.end1 (RsSt.end1 (RsSt.end1 (RsSt.end1 (RsSt.end1 (RsSt.end1 (RsSt.end1 (RsSt.end0 (HB2.out.set (i := 2) (u := .int .i64 p) rfl).rs (by omega)) hgl hrg) hgl hrg) hgl hrg) hgl hrg) hgl hrg) hgl hrg) hgl hrg)⟩
   simp [results, Try.results62, go_sem, er]
 by_cases e3 : r = 3
 . subst e3
   go_wp2_with (go_at_call 51; refine (num_any g _ n c _ 0 3 3 A _ ((HB1.out.alloc _).rs.rd) (by omega) (by omega) (by omega) (by simp) (by omega) (num_lits (xs := [-1, 3601, 9223372036854775807]) (heap_alloc_new _ _) rfl)).mono ?_; rintro e w3 ⟨p, rfl, _, hr6, hg6⟩; have HB2 := Lib.hid ((HB1.out.alloc _).grown hr6 hg6); clear hr6 hg6; have ec := blk_cell HB2.out.blk; have fc := blk_frozen HB2.out.blk; have er := blk_cell HB2.out.rs.res; have fr := blk_frozen HB2.out.rs.res; have zb := HB2.out.zb; have zr := blk_lt HB2.out.rs.res; have hne : ¬ gb = gb + 1 := (by omega); have hne2 : ¬ gb + 1 = gb := (by omega))
   refine bodyPost_ret (v := .agg #[.int .i64 d.c, .int .i64 d.l, .int .i64 d.o, .int .i64 p, .int .i64 d.h, .int .i64 d.t, .string d.e]) ?_ rfl ⟨{ d with f := p }, rfl, (RsSt.end1 (RsSt.end1 (RsSt.end1 (RsSt.end1 (RsSt.end1 (RsSt.end1 (RsSt.end1 (RsSt.end0 (HB2.out.set (i := 3) (u := .int .i64 p) rfl).rs (by omega)) hgl hrg) hgl hrg) hgl hrg) hgl hrg) hgl hrg) hgl hrg) hgl hrg)⟩
   simp [results, Try.results62, go_sem, er]
 by_cases e4 : r = 4
 . subst e4
   go_wp2_with (go_at_call 51; refine (num_any g _ n c _ 0 4 4 A _ ((HB1.out.alloc _).rs.rd) (by omega) (by omega) (by omega) (by simp) (by omega) (num_lits (xs := [-2, 3601, 0, -1]) (heap_alloc_new _ _) rfl)).mono ?_; rintro e w3 ⟨p, rfl, _, hr6, hg6⟩; have HB2 := Lib.hid ((HB1.out.alloc _).grown hr6 hg6); clear hr6 hg6; have ec := blk_cell HB2.out.blk; have fc := blk_frozen HB2.out.blk; have er := blk_cell HB2.out.rs.res; have fr := blk_frozen HB2.out.rs.res; have zb := HB2.out.zb; have zr := blk_lt HB2.out.rs.res; have hne : ¬ gb = gb + 1 := (by omega); have hne2 : ¬ gb + 1 = gb := (by omega))
   refine bodyPost_ret (v := .agg #[.int .i64 d.c, .int .i64 d.l, .int .i64 d.o, .int .i64 d.f, .int .i64 p, .int .i64 d.t, .string d.e]) ?_ rfl ⟨{ d with h := p }, rfl, (RsSt.end1 (RsSt.end1 (RsSt.end1 (RsSt.end1 (RsSt.end1 (RsSt.end1 (RsSt.end1 (RsSt.end0 (HB2.out.set (i := 4) (u := .int .i64 p) rfl).rs (by omega)) hgl hrg) hgl hrg) hgl hrg) hgl hrg) hgl hrg) hgl hrg) hgl hrg)⟩
   simp [results, Try.results62, go_sem, er]
 by_cases e5 : r = 5
 . subst e5
   go_wp2_with (go_at_call 51; refine (num_any g _ n c _ 0 4 4 A _ ((HB1.out.alloc _).rs.rd) (by omega) (by omega) (by omega) (by simp) (by omega) (num_lits (xs := [-2, 3601, 0, -1]) (heap_alloc_new _ _) rfl)).mono ?_; rintro e w3 ⟨p, rfl, _, hr6, hg6⟩; have HB2 := Lib.hid ((HB1.out.alloc _).grown hr6 hg6); clear hr6 hg6; have ec := blk_cell HB2.out.blk; have fc := blk_frozen HB2.out.blk; have er := blk_cell HB2.out.rs.res; have fr := blk_frozen HB2.out.rs.res; have zb := HB2.out.zb; have zr := blk_lt HB2.out.rs.res; have hne : ¬ gb = gb + 1 := (by omega); have hne2 : ¬ gb + 1 = gb := (by omega))
   refine bodyPost_ret (v := .agg #[.int .i64 d.c, .int .i64 d.l, .int .i64 d.o, .int .i64 d.f, .int .i64 d.h, .int .i64 p, .string d.e]) ?_ rfl ⟨{ d with t := p }, rfl, (RsSt.end1 (RsSt.end1 (RsSt.end1 (RsSt.end1 (RsSt.end1 (RsSt.end1 (RsSt.end1 (RsSt.end0 (HB2.out.set (i := 5) (u := .int .i64 p) rfl).rs (by omega)) hgl hrg) hgl hrg) hgl hrg) hgl hrg) hgl hrg) hgl hrg) hgl hrg)⟩
   simp [results, Try.results62, go_sem, er]
 have e0' : (r == 0) = false := by simpa using e0
 have e1' : (r == 1) = false := by simpa using e1
 have e2' : (r == 2) = false := by simpa using e2
 have e3' : (r == 3) = false := by simpa using e3
 have e4' : (r == 4) = false := by simpa using e4
 have e5' : (r == 5) = false := by simpa using e5
 clear e0 e1 e2 e3 e4 e5
 go_wp2_with (go_at_call 85; refine (of_any g _ n c _ 0 4 4 A _ (HB1.out.alloc _).rs.rd (by omega) (by omega) (by omega) (by simp) (by omega) (of_lits (xs := [⟨#[]⟩, ⟨#[111, 112, 101, 110]⟩, ⟨#[100, 111, 110, 101]⟩, ⟨#[116, 105, 114, 101, 100]⟩]) (heap_alloc_new _ _) rfl)).mono ?_; rintro e w3 ⟨s, rfl, hr6, hg6⟩; have HB2 := Lib.hid ((HB1.out.alloc _).grown hr6 hg6); clear hr6 hg6; have ec := blk_cell HB2.out.blk; have fc := blk_frozen HB2.out.blk; have er := blk_cell HB2.out.rs.res; have fr := blk_frozen HB2.out.rs.res; have zb := HB2.out.zb; have zr := blk_lt HB2.out.rs.res; have hne : ¬ gb = gb + 1 := (by omega); have hne2 : ¬ gb + 1 = gb := (by omega))
 refine bodyPost_ret (v := .agg #[.int .i64 d.c, .int .i64 d.l, .int .i64 d.o, .int .i64 d.f, .int .i64 d.h, .int .i64 d.t, .string s]) ?_ rfl ⟨{ d with e := s }, rfl, (RsSt.end1 (RsSt.end1 (RsSt.end1 (RsSt.end1 (RsSt.end1 (RsSt.end1 (RsSt.end1 (RsSt.end0 (HB2.out.set (i := 6) (u := .string s) rfl).rs (by omega)) hgl hrg) hgl hrg) hgl hrg) hgl hrg) hgl hrg) hgl hrg) hgl hrg)⟩
 simp [results, Try.results62, go_sem, er]
end Go.Proofs.Ytjcpjijihajopaa
namespace Go.Proofs.Ytjcpjijihajopaa
open Go.RowKit
set_option maxHeartbeats 2000000 in
theorem l8Tariff_any (g q n c : Nat) (A : Option Addr) (w : World) (h : Rd w g A n c q) (hq : q < 999000000) :
   Calls Try.prog 52 #[.pointer (some ⟨g, 0, none⟩)] w λ e w' => ∃ f s p : Int, e = .returned (.agg #[.int .i64 f, .int .i64 s, .int .i64 p]) /\ Rd w' g A n c (q + 6) /\ w.grownBy w' (some g) := by
 have hgl := h.gblt
 go_enter Try.func52, Try.ntmps52
 go_wp2_with fail
 refine (pick_any g q n c A _ _ (h.alloc _) (by omega) (by omega) (by omega)).mono ?_
 rintro e w1 ⟨r1, rfl, ⟨a1, b1⟩, h1, hg1⟩
 have s1 := hg1.size
 try simp only [World.size_alloc] at s1
 obtain ⟨kr_1, zr_1⟩ := blk_grown hg1 (by first | exact heap_alloc_new _ _ | exact blk_alloc (heap_alloc_new _ _) _ | exact blk_alloc (blk_alloc (heap_alloc_new _ _) _) _) (by first | omega | (simp; omega))
 have cr_1 := blk_cell kr_1
 have fr_1 := blk_frozen kr_1
 have B1 := gb_trans (a := w) (by first | exact World.grownBy.refl _ _ | exact gb_al (World.grownBy.refl _ _) _ | exact gb_al (gb_al (World.grownBy.refl _ _) _) _ | exact gb_al (gb_al (gb_al (World.grownBy.refl _ _) _) _) _ | exact gb_al (gb_al (gb_al (gb_al (World.grownBy.refl _ _) _) _) _) _ | exact gb_al (gb_al (gb_al (gb_al (gb_al (World.grownBy.refl _ _) _) _) _) _) _) hg1
 clear hg1
 go_wp2_with fail
 refine (pick_any g (q + 1) n c A _ _ h1 (by omega) (by omega) (by omega)).mono ?_
 rintro e w2 ⟨r2, rfl, ⟨a2, b2⟩, h2, hg2⟩
 have s2 := hg2.size
 try simp only [World.size_alloc] at s2
 obtain ⟨kr_2, zr_2⟩ := blk_grown hg2 (by first | exact kr_1 | exact blk_alloc (kr_1) _ | exact blk_alloc (blk_alloc (kr_1) _) _ | exact blk_alloc (blk_alloc (blk_alloc (kr_1) _) _) _ | exact blk_alloc (blk_alloc (blk_alloc (blk_alloc (kr_1) _) _) _) _) (by first | omega | (simp; omega))
 have cr_2 := blk_cell kr_2
 have fr_2 := blk_frozen kr_2
 have B2 := gb_trans (a := w) (by first | exact B1 | exact gb_al (B1) _ | exact gb_al (gb_al (B1) _) _ | exact gb_al (gb_al (gb_al (B1) _) _) _ | exact gb_al (gb_al (gb_al (gb_al (B1) _) _) _) _ | exact gb_al (gb_al (gb_al (gb_al (gb_al (B1) _) _) _) _) _) hg2
 clear hg2 B1 kr_1 cr_1 zr_1 fr_1
 go_wp2_with fail
 refine (pick_any g (q + 2) n c A _ _ h2 (by omega) (by omega) (by omega)).mono ?_
 rintro e w3 ⟨r3, rfl, ⟨a3, b3⟩, h3, hg3⟩
 have s3 := hg3.size
 try simp only [World.size_alloc] at s3
 obtain ⟨kr_3, zr_3⟩ := blk_grown hg3 (by first | exact kr_2 | exact blk_alloc (kr_2) _ | exact blk_alloc (blk_alloc (kr_2) _) _ | exact blk_alloc (blk_alloc (blk_alloc (kr_2) _) _) _ | exact blk_alloc (blk_alloc (blk_alloc (blk_alloc (kr_2) _) _) _) _) (by first | omega | (simp; omega))
 have cr_3 := blk_cell kr_3
 have fr_3 := blk_frozen kr_3
 have B3 := gb_trans (a := w) (by first | exact B2 | exact gb_al (B2) _ | exact gb_al (gb_al (B2) _) _ | exact gb_al (gb_al (gb_al (B2) _) _) _ | exact gb_al (gb_al (gb_al (gb_al (B2) _) _) _) _ | exact gb_al (gb_al (gb_al (gb_al (gb_al (B2) _) _) _) _) _) hg3
 clear hg3 B2 kr_2 cr_2 zr_2 fr_2
 go_wp2_with fail
 refine (num_any g (q + 3) n c _ 0 4 4 A _ (h3.alloc _) (by omega) (by omega) (by omega) (by simp) (by omega) (cells_of_blk (heap_alloc_new _ _) 4 (λ j hj => by rcases j with _ | _ | _ | _ | j <;> first | exact ⟨_, rfl⟩ | omega))).mono ?_
 rintro e w4 ⟨r4, rfl, _, h4, hg4⟩
 have s4 := hg4.size
 try simp only [World.size_alloc] at s4
 obtain ⟨kr_4, zr_4⟩ := blk_grown hg4 (by first | exact kr_3 | exact blk_alloc (kr_3) _ | exact blk_alloc (blk_alloc (kr_3) _) _ | exact blk_alloc (blk_alloc (blk_alloc (kr_3) _) _) _ | exact blk_alloc (blk_alloc (blk_alloc (blk_alloc (kr_3) _) _) _) _) (by first | omega | (simp; omega))
 have cr_4 := blk_cell kr_4
 have fr_4 := blk_frozen kr_4
 have B4 := gb_trans (a := w) (by first | exact B3 | exact gb_al (B3) _ | exact gb_al (gb_al (B3) _) _ | exact gb_al (gb_al (gb_al (B3) _) _) _ | exact gb_al (gb_al (gb_al (gb_al (B3) _) _) _) _ | exact gb_al (gb_al (gb_al (gb_al (gb_al (B3) _) _) _) _) _) hg4
 clear hg4 B3 kr_3 cr_3 zr_3 fr_3
 go_wp2_with fail
 refine (pick_any g (q + 4) n c A _ _ (h4.alloc _) (by omega) (by omega) (by omega)).mono ?_
 rintro e w5 ⟨r5, rfl, ⟨a5, b5⟩, h5, hg5⟩
 have s5 := hg5.size
 try simp only [World.size_alloc] at s5
 obtain ⟨kr_5, zr_5⟩ := blk_grown hg5 (by first | exact kr_4 | exact blk_alloc (kr_4) _ | exact blk_alloc (blk_alloc (kr_4) _) _ | exact blk_alloc (blk_alloc (blk_alloc (kr_4) _) _) _ | exact blk_alloc (blk_alloc (blk_alloc (blk_alloc (kr_4) _) _) _) _) (by first | omega | (simp; omega))
 have cr_5 := blk_cell kr_5
 have fr_5 := blk_frozen kr_5
 obtain ⟨kt_5, zt_5⟩ := blk_grown hg5 (by first | exact heap_alloc_new _ _ | exact blk_alloc (heap_alloc_new _ _) _ | exact blk_alloc (blk_alloc (heap_alloc_new _ _) _) _) (by first | omega | (simp; omega))
 have ct_5 := blk_cell kt_5
 have ft_5 := blk_frozen kt_5
 have B5 := gb_trans (a := w) (by first | exact B4 | exact gb_al (B4) _ | exact gb_al (gb_al (B4) _) _ | exact gb_al (gb_al (gb_al (B4) _) _) _ | exact gb_al (gb_al (gb_al (gb_al (B4) _) _) _) _ | exact gb_al (gb_al (gb_al (gb_al (gb_al (B4) _) _) _) _) _) hg5
 clear hg5 B4 kr_4 cr_4 zr_4 fr_4
 by_cases e0 : r5 = 0
 . subst e0
   go_wp2_with fail
   refine (num_any g (q + 5) n c _ 0 3 3 A _ (h5.alloc _) (by omega) (by omega) (by omega) (by simp) (by omega) (cells_of_blk (heap_alloc_new _ _) 3 (λ j hj => by rcases j with _ | _ | _ | j <;> first | exact ⟨_, rfl⟩ | omega))).mono ?_
   rintro e w6 ⟨r6, rfl, _, h6, hg6⟩
   have s6 := hg6.size
   try simp only [World.size_alloc] at s6
   obtain ⟨kr_6, zr_6⟩ := blk_grown hg6 (by first | exact kr_5 | exact blk_alloc (kr_5) _ | exact blk_alloc (blk_alloc (kr_5) _) _ | exact blk_alloc (blk_alloc (blk_alloc (kr_5) _) _) _ | exact blk_alloc (blk_alloc (blk_alloc (blk_alloc (kr_5) _) _) _) _) (by first | omega | (simp; omega))
   have cr_6 := blk_cell kr_6
   have fr_6 := blk_frozen kr_6
   obtain ⟨kt_6, zt_6⟩ := blk_grown hg6 (by first | exact kt_5 | exact blk_alloc (kt_5) _ | exact blk_alloc (blk_alloc (kt_5) _) _ | exact blk_alloc (blk_alloc (blk_alloc (kt_5) _) _) _ | exact blk_alloc (blk_alloc (blk_alloc (blk_alloc (kt_5) _) _) _) _) (by first | omega | (simp; omega))
   have ct_6 := blk_cell kt_6
   have ft_6 := blk_frozen kt_6
   have B6 := gb_trans (a := w) (by first | exact B5 | exact gb_al (B5) _ | exact gb_al (gb_al (B5) _) _ | exact gb_al (gb_al (gb_al (B5) _) _) _ | exact gb_al (gb_al (gb_al (gb_al (B5) _) _) _) _ | exact gb_al (gb_al (gb_al (gb_al (gb_al (B5) _) _) _) _) _) hg6
   clear hg6 B5 kr_5 cr_5 zr_5 fr_5 kt_5 ct_5 zt_5 ft_5
   go_wp2
   refine bodyPost_ret (v := .agg #[.int .i64 r6, .int .i64 (1 + r2), .int .i64 r4]) (by simp [results, Try.results52, go_sem, cr_6]) rfl ⟨_, _, _, rfl, ?_, ?_⟩
   . exact (((h6.setCell (by first | omega | (simp; done) | (simp; omega)) _).setCell (by first | omega | (simp; done) | (simp; omega)) _).setCell (by first | omega | (simp; done) | (simp; omega)) _).setCell (by first | omega | (simp; done) | (simp; omega)) _
   . exact gb_set (gb_set (gb_set (gb_set B6 (by first | omega | (simp; done) | (simp; omega)) _) (by first | omega | (simp; done) | (simp; omega)) _) (by first | omega | (simp; done) | (simp; omega)) _) (by first | omega | (simp; done) | (simp; omega)) _
 by_cases e1 : r5 = 1
 . subst e1
   go_wp2_with fail
   refine (num_any g (q + 5) n c _ 0 3 3 A _ (h5.alloc _) (by omega) (by omega) (by omega) (by simp) (by omega) (cells_of_blk (heap_alloc_new _ _) 3 (λ j hj => by rcases j with _ | _ | _ | j <;> first | exact ⟨_, rfl⟩ | omega))).mono ?_
   rintro e w6 ⟨r6, rfl, _, h6, hg6⟩
   have s6 := hg6.size
   try simp only [World.size_alloc] at s6
   obtain ⟨kr_6, zr_6⟩ := blk_grown hg6 (by first | exact kr_5 | exact blk_alloc (kr_5) _ | exact blk_alloc (blk_alloc (kr_5) _) _ | exact blk_alloc (blk_alloc (blk_alloc (kr_5) _) _) _ | exact blk_alloc (blk_alloc (blk_alloc (blk_alloc (kr_5) _) _) _) _) (by first | omega | (simp; omega))
   have cr_6 := blk_cell kr_6
   have fr_6 := blk_frozen kr_6
   obtain ⟨kt_6, zt_6⟩ := blk_grown hg6 (by first | exact kt_5 | exact blk_alloc (kt_5) _ | exact blk_alloc (blk_alloc (kt_5) _) _ | exact blk_alloc (blk_alloc (blk_alloc (kt_5) _) _) _ | exact blk_alloc (blk_alloc (blk_alloc (blk_alloc (kt_5) _) _) _) _) (by first | omega | (simp; omega))
   have ct_6 := blk_cell kt_6
   have ft_6 := blk_frozen kt_6
   have B6 := gb_trans (a := w) (by first | exact B5 | exact gb_al (B5) _ | exact gb_al (gb_al (B5) _) _ | exact gb_al (gb_al (gb_al (B5) _) _) _ | exact gb_al (gb_al (gb_al (gb_al (B5) _) _) _) _ | exact gb_al (gb_al (gb_al (gb_al (gb_al (B5) _) _) _) _) _) hg6
   clear hg6 B5 kr_5 cr_5 zr_5 fr_5 kt_5 ct_5 zt_5 ft_5
   go_wp2
   refine bodyPost_ret (v := .agg #[.int .i64 r1, .int .i64 r6, .int .i64 r4]) (by simp [results, Try.results52, go_sem, cr_6]) rfl ⟨_, _, _, rfl, ?_, ?_⟩
   . exact (((h6.setCell (by first | omega | (simp; done) | (simp; omega)) _).setCell (by first | omega | (simp; done) | (simp; omega)) _).setCell (by first | omega | (simp; done) | (simp; omega)) _).setCell (by first | omega | (simp; done) | (simp; omega)) _
   . exact gb_set (gb_set (gb_set (gb_set B6 (by first | omega | (simp; done) | (simp; omega)) _) (by first | omega | (simp; done) | (simp; omega)) _) (by first | omega | (simp; done) | (simp; omega)) _) (by first | omega | (simp; done) | (simp; omega)) _
 by_cases e2 : r5 = 2
 . subst e2
   go_wp2_with fail
   refine (num_any g (q + 5) n c _ 0 2 2 A _ (h5.alloc _) (by omega) (by omega) (by omega) (by simp) (by omega) (cells_of_blk (heap_alloc_new _ _) 2 (λ j hj => by rcases j with _ | _ | _ | j <;> first | exact ⟨_, rfl⟩ | omega))).mono ?_
   rintro e w6 ⟨r6, rfl, _, h6, hg6⟩
   have s6 := hg6.size
   try simp only [World.size_alloc] at s6
   obtain ⟨kr_6, zr_6⟩ := blk_grown hg6 (by first | exact kr_5 | exact blk_alloc (kr_5) _ | exact blk_alloc (blk_alloc (kr_5) _) _ | exact blk_alloc (blk_alloc (blk_alloc (kr_5) _) _) _ | exact blk_alloc (blk_alloc (blk_alloc (blk_alloc (kr_5) _) _) _) _) (by first | omega | (simp; omega))
   have cr_6 := blk_cell kr_6
   have fr_6 := blk_frozen kr_6
   obtain ⟨kt_6, zt_6⟩ := blk_grown hg6 (by first | exact kt_5 | exact blk_alloc (kt_5) _ | exact blk_alloc (blk_alloc (kt_5) _) _ | exact blk_alloc (blk_alloc (blk_alloc (kt_5) _) _) _ | exact blk_alloc (blk_alloc (blk_alloc (blk_alloc (kt_5) _) _) _) _) (by first | omega | (simp; omega))
   have ct_6 := blk_cell kt_6
   have ft_6 := blk_frozen kt_6
   have B6 := gb_trans (a := w) (by first | exact B5 | exact gb_al (B5) _ | exact gb_al (gb_al (B5) _) _ | exact gb_al (gb_al (gb_al (B5) _) _) _ | exact gb_al (gb_al (gb_al (gb_al (B5) _) _) _) _ | exact gb_al (gb_al (gb_al (gb_al (gb_al (B5) _) _) _) _) _) hg6
   clear hg6 B5 kr_5 cr_5 zr_5 fr_5 kt_5 ct_5 zt_5 ft_5
   go_wp2
   refine bodyPost_ret (v := .agg #[.int .i64 r1, .int .i64 (1 + r2), .int .i64 r6]) (by simp [results, Try.results52, go_sem, cr_6]) rfl ⟨_, _, _, rfl, ?_, ?_⟩
   . exact (((h6.setCell (by first | omega | (simp; done) | (simp; omega)) _).setCell (by first | omega | (simp; done) | (simp; omega)) _).setCell (by first | omega | (simp; done) | (simp; omega)) _).setCell (by first | omega | (simp; done) | (simp; omega)) _
   . exact gb_set (gb_set (gb_set (gb_set B6 (by first | omega | (simp; done) | (simp; omega)) _) (by first | omega | (simp; done) | (simp; omega)) _) (by first | omega | (simp; done) | (simp; omega)) _) (by first | omega | (simp; done) | (simp; omega)) _
 . have n0 : (r5 == 0) = false := by simp; exact e0
   have n1 : (r5 == 1) = false := by simp; exact e1
   have n2 : (r5 == 2) = false := by simp; exact e2
   clear e0 e1 e2
   go_wp2
   refine bodyPost_ret (v := .agg #[.int .i64 r1, .int .i64 (1 + r2), .int .i64 r4]) (by simp [results, Try.results52, go_sem, cr_5]) rfl ⟨_, _, _, rfl, ?_, ?_⟩
   . exact (((h5.setCell (by first | omega | (simp; done) | (simp; omega)) _).setCell (by first | omega | (simp; done) | (simp; omega)) _).setCell (by first | omega | (simp; done) | (simp; omega)) _).mono (by omega)
   . exact gb_set (gb_set (gb_set B5 (by first | omega | (simp; done) | (simp; omega)) _) (by first | omega | (simp; done) | (simp; omega)) _) (by first | omega | (simp; done) | (simp; omega)) _
end Go.Proofs.Ytjcpjijihajopaa
namespace Go.Proofs.Ytjcpjijihajopaa
open Go.RowKit
theorem ownV_set {E s : Nat} {W : World} {lo hi n c rb i : Nat} {A : Option Addr} {xs : List Value} {u : Value} (h : OwnV E s W lo hi A n c xs) (hb : rb < lo) : OwnV E s (W.setCell ⟨rb, i, none⟩ u) lo hi A n c xs :=
 h.keep (by rw [World.size_setCell]; exact Nat.le_refl _) (λ x h1 _ _ => Below.heap_setCell W _ _ x (by show x ≠ rb; omega))
theorem ownV_gb {E s : Nat} {w w' : World} {lo hi n c g : Nat} {A : Option Addr} {xs : List Value} (h : OwnV E s w lo hi A n c xs) (hg : w.grownBy w' (some g)) (hlo : g < lo) : OwnV E s w' lo hi A n c xs :=
 h.keep hg.size λ b h1 _ h3 => hg.block b h3 (by simp; omega)
def GotBoth6 (w : World) (g : Nat) (A : Option Addr) (n c q : Nat) (e : Ending) (w' : World) : Prop :=
 ∃ (x y z : Int) (A2 : Option Addr) (n2 c2 : Nat) (es : List EventD), e = .returned (.tuple #[.agg #[.int .i64 x, .int .i64 y, .int .i64 z], .slice A2 n2 c2]) /\ OwnV 132 3 w' w.heap.size w'.heap.size A2 n2 c2 (events es) /\ n2 <= 20 /\ Rd w' g A n c q /\ w.grownBy w' (some g)
set_option maxRecDepth 20000 in
set_option maxHeartbeats 4000000 in
theorem l6Both_any (g q n c : Nat) (A : Option Addr) (w : World) (h : Rd w g A n c q) (hq : q < 700000000) :
   Calls Try.prog 59 #[.pointer (some ⟨g, 0, none⟩)] w (GotBoth6 w g A n c (q + 230)) := by
 have hgl := h.gblt
 obtain ⟨rb, hrb⟩ : ∃ y, y = w.heap.size := ⟨_, rfl⟩
 have HRB := Lib.hid hrb
 have HR0 := Lib.hid (show RsSt w g A n c q rb 91 #[.int .i64 0, .int .i64 0, .int .i64 0] (w.alloc (.cells #[.int .i64 0, .int .i64 0, .int .i64 0] 91)) from ⟨h.alloc _, gb_al (World.grownBy.refl _ _) _, hgl, heap_new' _ _ hrb, by omega⟩)
 clear h
 go_enter Try.func59, Try.ntmps59
 go_upto_region 1 with fail
 rw [<- hrb]
 clear hrb
 obtain ⟨W1, hW1⟩ : ∃ y, y = w.alloc (.cells #[.int .i64 0, .int .i64 0, .int .i64 0] 91) := ⟨_, rfl⟩
 rw [<- hW1] at HR0 ⊢
 clear hW1
 go_upto_region 2 with (go_at_call 82; refine (l6Office_any g q n c A W1 HR0.out.rd (by omega)).mono ?_; rintro e w2 ⟨x, y, z, rfl, hr2, hg2⟩; have HR1 := Lib.hid (HR0.out.grown hr2 hg2); clear hr2 hg2)
 obtain ⟨b, hb⟩ : ∃ y, y = w2.heap.size := ⟨_, rfl⟩
 rw [<- hb]
 have HB1 := Lib.hid (HR1.out.box #[.int .i64 x, .int .i64 y, .int .i64 z] hb)
 obtain ⟨W2, hW2⟩ : ∃ Y, Y = w2.alloc (.cells #[.int .i64 x, .int .i64 y, .int .i64 z] 91) := ⟨_, rfl⟩
 rw [<- hW2] at HB1 ⊢
 have hrb2 : rb < W2.heap.size := blk_lt HB1.out.rs.res
 have hbW : b < W2.heap.size := HB1.out.zb
 have hgW : g < W2.heap.size := by have := HB1.out.rs.gr.size; omega
 clear hW2 hb
 go_upto_region 3 with (go_at_call 83; refine (l6List_any g (q + 10) n c A W2 HB1.out.rs.rd (by omega)).mono ?_; rintro e w3 ⟨A2, n2, c2, es, rfl, ho3, hn3, hr3, hg3⟩; have HB3 := Lib.hid (HB1.out.grown hr3 hg3); have HO3 := Lib.hid ho3; have hz3 := hg3.size; clear ho3 hr3 hg3)
 have ec := blk_cell HB3.out.blk
 have fc := blk_frozen HB3.out.blk
 have er := blk_cell HB3.out.rs.res
 have fr := blk_frozen HB3.out.rs.res
 have zb := HB3.out.zb
 have zr := blk_lt HB3.out.rs.res
 have zlo := HB3.out.lo
 have hne : ¬ b = rb := by omega
 have hne2 : ¬ rb = b := by omega
 have hrg := HB3.out.rs.rlo
 cases hy : (y == 1)
 . go_wp2
   refine bodyPost_ret (v := .tuple #[.agg #[.int .i64 x, .int .i64 y, .int .i64 z], .slice A2 n2 c2]) ?_ rfl ?_
   . simp [results, Try.results59, go_sem, er]
   . exact ⟨x, y, z, A2, n2, c2, es, rfl, (ownV_set (ownV_set (ownV_set HO3.out hrb2) hrb2) hrb2).wide (by have := HB1.out.rs.gr.size; omega) (by simp; try omega), hn3, (RsSt.end1 (RsSt.end1 (RsSt.end1 (RsSt.end0 (q' := q + 230) HB3.out.rs (by omega)) hgl hrg) hgl hrg) hgl hrg).1, (RsSt.end1 (RsSt.end1 (RsSt.end1 (RsSt.end0 (q' := q + 230) HB3.out.rs (by omega)) hgl hrg) hgl hrg) hgl hrg).2⟩
 . go_wp2_with (go_at_call 61; refine (pick_any g _ n c A _ w3 HB3.out.rs.rd (by omega) (by omega) (by omega)).mono ?_; rintro e w4 ⟨r, rfl, ⟨r0, r1⟩, hr4, hg4⟩; have HB4 := Lib.hid (HB3.out.grown hr4 hg4); have HO4 := Lib.hid (ownV_gb HO3.out hg4 hgW); have hz4 := hg4.size; have ec := blk_cell HB4.out.blk; have fc := blk_frozen HB4.out.blk; have er := blk_cell HB4.out.rs.res; have fr := blk_frozen HB4.out.rs.res; have zb := HB4.out.zb; have zr := blk_lt HB4.out.rs.res; clear hr4 hg4)
   ·
     refine bodyPost_ret (v := .tuple #[.agg #[.int .i64 x, .int .i64 2, .int .i64 z], .slice A2 n2 c2]) ?_ rfl ?_
     . simp [results, Try.results59, go_sem, er]
     . exact ⟨x, 2, z, A2, n2, c2, es, rfl, (ownV_set (ownV_set (ownV_set (ownV_set (i := 1) (u := .int .i64 2) HO4.out hbW) hrb2) hrb2) hrb2).wide (by have := HB1.out.rs.gr.size; omega) (by simp; try omega), hn3, (RsSt.end1 (RsSt.end1 (RsSt.end1 (RsSt.end0 (q' := q + 230) (HB4.out.set (i := 1) (u := .int .i64 2) rfl).rs (by omega)) hgl hrg) hgl hrg) hgl hrg).1, (RsSt.end1 (RsSt.end1 (RsSt.end1 (RsSt.end0 (q' := q + 230) (HB4.out.set (i := 1) (u := .int .i64 2) rfl).rs (by omega)) hgl hrg) hgl hrg) hgl hrg).2⟩
   ·
     refine bodyPost_ret (v := .tuple #[.agg #[.int .i64 x, .int .i64 y, .int .i64 z], .slice A2 n2 c2]) ?_ rfl ?_
     . simp [results, Try.results59, go_sem, er]
     . exact ⟨x, y, z, A2, n2, c2, es, rfl, (ownV_set (ownV_set (ownV_set HO4.out hrb2) hrb2) hrb2).wide (by have := HB1.out.rs.gr.size; omega) (by simp; try omega), hn3, (RsSt.end1 (RsSt.end1 (RsSt.end1 (RsSt.end0 (q' := q + 230) HB4.out.rs (by omega)) hgl hrg) hgl hrg) hgl hrg).1, (RsSt.end1 (RsSt.end1 (RsSt.end1 (RsSt.end0 (q' := q + 230) HB4.out.rs (by omega)) hgl hrg) hgl hrg) hgl hrg).2⟩
theorem recs_set7 {rs : List RecD} {k : Nat} {d x : RecD} (hd : rs[k]? = some d) :
   ((((((((recs rs).set (k * 7) (.int .i64 x.c)).set (k * 7 + 1) (.int .i64 x.l)).set (k * 7 + 2) (.int .i64 x.o)).set (k * 7 + 3) (.int .i64 x.f)).set (k * 7 + 4) (.int .i64 x.h)).set (k * 7 + 5) (.int .i64 x.t)).set (k * 7 + 6) (.string x.e)) = recs (rs.set k x) := by
 apply List.ext_getElem?
 intro q
 obtain ⟨a, b, rfl, hb⟩ : ∃ a b, q = a * 7 + b /\ b < 7 := ⟨q / 7, q % 7, by omega, by omega⟩
 have g : ∀ (l : List RecD), (recs l)[a * 7 + b]? = (l[a]?).bind λ x => x.cells[b]? := λ l => flat_get RecD.cells (s := 7) (λ _ => rfl) l a b hb
 have hi := (List.getElem?_eq_some_iff.1 hd).1
 have hlen : (recs rs).length = rs.length * 7 := recs_len rs
 simp only [List.getElem?_set, List.length_set, hlen, g]
 by_cases e : k = a
 . subst e
   have hk : ∀ i, i < 7 -> k * 7 + i < rs.length * 7 := λ i hi7 => by omega
   have h0 := hk 0 (by decide)
   have hb' : b = 0 \/ b = 1 \/ b = 2 \/ b = 3 \/ b = 4 \/ b = 5 \/ b = 6 := by omega
   rcases hb' with rfl | rfl | rfl | rfl | rfl | rfl | rfl <;> simp [hi, hk, RecD.cells] <;> omega
 . have n0 : ∀ i, i < 7 -> ¬ k * 7 + i = a * 7 + b := λ i hi7 => by omega
   have n0' : ¬ k * 7 = a * 7 + b := by omega
   simp [n0', n0 1, n0 2, n0 3, n0 4, n0 5, n0 6, e]
def GotRecs (w : World) (g : Nat) (A : Option Addr) (n c q : Nat) (e : Ending) (w' : World) : Prop :=
 ∃ (gR n2 c2 : Nat) (rs : List RecD), e = .returned (.slice (some ⟨gR, 0, none⟩) n2 c2) /\ w'.ownsRow w.heap.size 50 7 (.slice (some ⟨gR, 0, none⟩) n2 c2) n2 (recs rs) /\ n2 <= 60 /\ Rd w' g A n c q /\ w.grownBy w' (some g)
theorem roomF_len (o : OffD) (es : List EventD) : (roomF o es).recs.length <= 60 := by
 unfold roomF
 split
 . rename_i h
   have hl : es.length <= 60 := by unfold officeOk at h; simp at h; exact h.1.2
   have := (offTo_ok h es.length (Nat.le_refl _)).2.1.nrec
   rw [offTo_all] at this
   omega
 . exact Nat.zero_le _
theorem got_recs {w W : World} {g n c q q' gR cR m : Nat} {A : Option Addr} {rs : List RecD} {B : Nat} (ho : W.ownsRow B 50 7 (.slice (some ⟨gR, 0, none⟩) m cR) m (recs rs)) (hB : w.heap.size <= B) (hm : m <= 60) (hr : Rd W g A n c q) (hq : q <= q') (hg : w.grownBy W (some g)) :
   GotRecs w g A n c q' (.returned (.slice (some ⟨gR, 0, none⟩) m cR)) W :=
 ⟨gR, m, cR, rs, rfl, row_mono ho hB, hm, hr.mono hq, hg⟩
set_option maxRecDepth 20000 in
set_option maxHeartbeats 4000000 in
theorem l8Records_any (g q n c : Nat) (A : Option Addr) (w : World) (h : Rd w g A n c q) (hq : q < 600000000) :
   Calls Try.prog 50 #[.pointer (some ⟨g, 0, none⟩)] w (GotRecs w g A n c (q + 240)) := by
 have hgl := h.gblt
 go_enter Try.func50, Try.ntmps50
 go_wp2_with fail
 refine (l6Both_any g q n c A w h (by omega)).mono ?_
 rintro e w1 ⟨x, y, z, A2, n2, c2, es, rfl, ho1, hn1, hr1, hg1⟩
 have HO1 := Lib.hid ho1
 have HR1 := Lib.hid hr1
 have HG1 := Lib.hid hg1
 have hz1 := hg1.size
 clear h ho1 hr1 hg1
 go_upto_region 2 with fail
 obtain ⟨b, hb⟩ : ∃ Y, Y = w1.heap.size := ⟨_, rfl⟩
 rw [<- hb]
 obtain ⟨W2, hW2⟩ : ∃ Y, Y = w1.alloc (.cells #[.int .i64 x, .int .i64 y, .int .i64 z] 91) := ⟨_, rfl⟩
 have hk := heap_new' w1 (.cells #[.int .i64 x, .int .i64 y, .int .i64 z] 91) hb
 have HE := Lib.hid (show Slc W2 w.heap.size w1.heap.size 3 A2 n2 c2 (events es) by rw [hW2]; exact HO1.out.slc.below (below_al (Below.refl _ _) _))
 have HR2 := Lib.hid (show Rd W2 g A n c (q + 230) by rw [hW2]; exact HR1.out.alloc _)
 have HG2 := Lib.hid (show w.grownBy W2 (some g) by rw [hW2]; exact gb_al HG1.out _)
 have hz2 : w1.heap.size <= W2.heap.size := by rw [hW2]; simp
 rw [<- hW2] at hk ⊢
 have k := blk_cell hk
 have k0 := k 0
 have k1 := k 1
 have k2 := k 2
 clear hW2 hb hk k
 go_upto_region 3 with (go_at_call 60; refine (RecordsOf_any ⟨x, y, z⟩ w.heap.size w1.heap.size n2 c2 A2 es W2 HE.out (by omega) hz2).mono ?_; rintro e w3 ⟨gR, cR, rfl, hrow, hb3⟩; obtain ⟨rs, hrs⟩ : ∃ Y, Y = (roomF ⟨x, y, z⟩ es).recs := ⟨_, rfl⟩; obtain ⟨ok, hok⟩ : ∃ Y, Y = officeOk ⟨x, y, z⟩ es := ⟨_, rfl⟩; have hrl := roomF_len ⟨x, y, z⟩ es; rw [<- hrs] at hrow hrl ⊢; rw [<- hok]; have HROW := Lib.hid hrow; have HB3 := Lib.hid hb3; clear hrow hb3 hrs hok)
 have HR3 := Lib.hid (HR2.out.below HB3.out)
 have HG3 := Lib.hid (gb_trans HG2.out (gb_below HB3.out _))
 have hlr := (HROW.out.lt gR rfl)
 have HLR := Lib.hid hlr
 obtain ⟨m, hm⟩ : ∃ m, m = rs.length := ⟨_, rfl⟩
 rw [<- hm] at HROW hrl ⊢
 have hwB : w.heap.size <= W2.heap.size := by omega
 clear hlr k0 k1 k2
 by_cases h0 : m = 0
 . subst h0
   go_wp2
   go_ret
   exact got_recs HROW.out hwB hrl HR3.out (by omega) HG3.out
 . have hmp : (0 : Int) < (m : Int) := by omega
   have hm1 : (1 : Int) <= (m : Int) := by omega
   have HM := Lib.hid hm
   clear h0 hm
   go_upto_if 26 with (go_at_call 61; refine (pick_any g (q + 230) n c A _ w3 HR3.out (by omega) (by omega) (by omega)).mono ?_; rintro e w4 ⟨r, rfl, ⟨r0, r1⟩, hr4, hg4⟩; have HR4 := Lib.hid hr4; have HG4 := Lib.hid hg4; clear hr4 hg4)
   have HROW4 := Lib.hid (HROW.out.kept HG4.out (.inr (by simp [Value.ownBlock]; have := HLR.out; omega)))
   have HGG4 := Lib.hid (gb_trans HG3.out HG4.out)
   cases hr : (r == 0)
   . go_wp2
     go_ret
     exact got_recs HROW4.out hwB hrl HR4.out (by omega) HGG4.out
   . have once : True := trivial
     go_upto_region 5 with (go_at_call 61; refine (pick_any g (q + 231) n c A _ w4 HR4.out (by omega) (by omega) (by omega)).mono ?_; rintro e w5 ⟨i, rfl, ⟨i0, i1⟩, hr5, hg5⟩; have HR5 := Lib.hid hr5; have HG5 := Lib.hid hg5; clear hr5 hg5)
     have HROW5 := Lib.hid (HROW4.out.kept HG5.out (.inr (by simp [Value.ownBlock]; have := HLR.out; omega)))
     have HGG5 := Lib.hid (gb_trans HGG4.out HG5.out)
     obtain ⟨k, rfl⟩ := Int.eq_ofNat_of_zero_le i0
     have hkm : k < m := by omega
     obtain ⟨b7, off, d, hA, _, _, hz5, hxk, hv0, hv1, hv2, hv3, hv4, hv5, hv6⟩ := (row_slc HROW5.out (by decide)).rec7 hkm
     injection hA with hA
     injection hA with hA1 hA2
     subst hA1 hA2
     simp only [Nat.zero_add] at hv0 hv1 hv2 hv3 hv4 hv5 hv6
     have HX := Lib.hid hxk
     clear hxk
     go_upto_region 6 with (go_at_call 62; refine (l8Bad_any g (q + 232) n c A d w5 HR5.out (by omega)).mono ?_; rintro e w6 ⟨x7, rfl, hr6, hg6⟩; have HR6 := Lib.hid hr6; have HG6 := Lib.hid hg6; have hown6 := HROW5.out.kept hg6 (.inr (by simp [Value.ownBlock]; have := HLR.out; omega)); have HROW6 := Lib.hid hown6; have hfz := λ j => hown6.frozenAt j; obtain ⟨b7, off, d7, hA, _, _, hz6, hxk, u0, u1, u2, u3, u4, u5, u6⟩ := (row_slc hown6 (by decide)).rec7 hkm; injection hA with hA; injection hA with hA1 hA2; subst hA1 hA2; simp only [Nat.zero_add] at u0 u1 u2 u3 u4 u5 u6; clear hr6 hg6 hown6 hxk)
     go_wp2
     go_ret
     have hl := HLR.out
     have hgR : g < gR := by omega
     have hwR : w.heap.size <= gR := by omega
     obtain ⟨s0, -⟩ := HROW6.out.stored (k * 7) (.int .i64 x7.c)
     obtain ⟨s1, -⟩ := s0.stored (k * 7 + 1) (.int .i64 x7.l)
     obtain ⟨s2, -⟩ := s1.stored (k * 7 + 2) (.int .i64 x7.o)
     obtain ⟨s3, -⟩ := s2.stored (k * 7 + 3) (.int .i64 x7.f)
     obtain ⟨s4, -⟩ := s3.stored (k * 7 + 4) (.int .i64 x7.h)
     obtain ⟨s5, -⟩ := s4.stored (k * 7 + 5) (.int .i64 x7.t)
     obtain ⟨s6, -⟩ := s5.stored (k * 7 + 6) (.string x7.e)
     have e := recs_set7 (x := x7) HX.out
     rw [e] at s6
     exact got_recs s6 hwB hrl (Rd.setCell (Rd.setCell (Rd.setCell (Rd.setCell (Rd.setCell (Rd.setCell (Rd.setCell HR6.out hgR _) hgR _) hgR _) hgR _) hgR _) hgR _) hgR _) (by omega) (gb_set (gb_set (gb_set (gb_set (gb_set (gb_set (gb_set (gb_trans HGG5.out HG6.out) hwR _) hwR _) hwR _) hwR _) hwR _) hwR _) hwR _)
def DrewTarRecs (w : World) (e : Ending) (w' : World) : Prop :=
 ∃ (gR n2 c2 : Nat) (rs : List RecD) (x y z : Int), e = .returned (.tuple #[.agg #[.int .i64 x, .int .i64 y, .int .i64 z], .slice (some ⟨gR, 0, none⟩) n2 c2]) /\ w'.ownsRow w.heap.size 50 7 (.slice (some ⟨gR, 0, none⟩) n2 c2) n2 (recs rs) /\ n2 <= 60 /\ Below w.heap.size w w'
set_option maxHeartbeats 4000000 in
theorem DrawBills_any (A : Option Addr) (n c : Nat) (w : World) (h : Code w A n c) : Calls Try.prog 26 #[.slice A n c] w (DrewTarRecs w) := by
 obtain ⟨rb, hrb⟩ : ∃ Y, Y = w.heap.size := ⟨_, rfl⟩
 have HRB := Lib.hid hrb
 have HK0 := Lib.hid (heap_new' w (.cells #[.int .i64 0, .int .i64 0, .int .i64 0] 32) hrb)
 have HB0 := Lib.hid (below_al (Below.refl w.heap.size w) (.cells #[.int .i64 0, .int .i64 0, .int .i64 0] 32))
 have hz0 : (w.alloc (.cells #[.int .i64 0, .int .i64 0, .int .i64 0] 32)).heap.size = rb + 1 := by rw [hrb]; simp
 have HC0 := Lib.hid (h.alloc (.cells #[.int .i64 0, .int .i64 0, .int .i64 0] 32))
 obtain ⟨W0, hW0⟩ : ∃ Y, Y = w.alloc (.cells #[.int .i64 0, .int .i64 0, .int .i64 0] 32) := ⟨_, rfl⟩
 have HW0 := Lib.hid hW0
 rw [<- hW0] at HK0 HB0 hz0 HC0
 have HZ0 := Lib.hid hz0
 clear h hW0 hz0
 go_enter Try.func26, Try.ntmps26
 go_upto_region 1 with fail
 rw [<- hrb, <- HW0.out]
 clear hrb
 go_upto_region 2 with (go_at_call 49; refine (open_any _ _ _ W0 HC0.out).mono ?_; rintro e w1 ⟨g, A1, n1, c1, rfl, r1, b1, g0⟩; have HR1 := Lib.hid r1; have HB1 := Lib.hid b1; clear r1 b1)
 have HK1 := Lib.hid (blk_below HB1.out HK0.out).1
 have hz1 : rb + 1 <= w1.heap.size := by have := HB1.out.size; have := HZ0.out; omega
 have hg0 : rb + 1 <= g := by have := HZ0.out; omega
 have hg1 := HR1.out.gblt
 go_upto_region 3 with (go_at_call 52; refine (l8Tariff_any g 0 n1 c1 A1 w1 HR1.out (by omega)).mono ?_; rintro e w2 ⟨x, y, z, rfl, r2, g2⟩; have HR2 := Lib.hid r2; have HG2 := Lib.hid g2; clear r2 g2)
 have HK2 := Lib.hid (blk_grown HG2.out HK1.out (by omega)).1
 have hz2 := HG2.out.size
 obtain ⟨b, hb⟩ : ∃ Y, Y = w2.heap.size := ⟨_, rfl⟩
 rw [<- hb]
 obtain ⟨W3, hW3⟩ : ∃ Y, Y = w2.alloc (.cells #[.int .i64 x, .int .i64 y, .int .i64 z] 32) := ⟨_, rfl⟩
 have HK3 := Lib.hid (show W3.heap[rb]? = some (.cells #[.int .i64 0, .int .i64 0, .int .i64 0] 32) by rw [hW3]; exact blk_alloc HK2.out _)
 have HT3 := Lib.hid (show W3.heap[b]? = some (.cells #[.int .i64 x, .int .i64 y, .int .i64 z] 32) by rw [hW3]; exact heap_new' _ _ hb)
 have HR3 := Lib.hid (show Rd W3 g A1 n1 c1 (0 + 6) by rw [hW3]; exact HR2.out.alloc _)
 have HG3 := Lib.hid (show w1.grownBy W3 (some g) by rw [hW3]; exact gb_al HG2.out _)
 have hb3 : b < W3.heap.size := blk_lt HT3.out
 have hbb : w2.heap.size <= b := by omega
 rw [<- hW3]
 clear hW3 hb
 have hz3 := HG3.out.size
 have t := blk_cell HT3.out
 have HS0 := Lib.hid (show W3.cell? ⟨b, 0, none⟩ = some (.int .i64 x) /\ W3.cell? ⟨b, 1, none⟩ = some (.int .i64 y) /\ W3.cell? ⟨b, 2, none⟩ = some (.int .i64 z) from ⟨t 0, t 1, t 2⟩)
 clear t
 have hrbb : rb ≠ b := by omega
 go_region_held3 (λ W => W.cell? ⟨b, 0, none⟩ = some (.int .i64 x) /\ W.cell? ⟨b, 1, none⟩ = some (.int .i64 y) /\ W.cell? ⟨b, 2, none⟩ = some (.int .i64 z))
   (first | with_reducible exact HS0.out | exact cel3_drew HS0.out | with_reducible exact S5 | exact cel3_set (cel3_set (cel3_set S5 (by simp [hrbb]) (by simp [hrbb]) (by simp [hrbb])) (by simp [hrbb]) (by simp [hrbb]) (by simp [hrbb])) (by simp [hrbb]) (by simp [hrbb]) (by simp [hrbb]))
   ((go_at_call 50; refine (l8Records_any g (0 + 6) n1 c1 A1 W3.drew HR3.out.drew (by omega)).mono ?_; rintro e w4 ⟨gR, n2, c2, rs, rfl, o4, hn4, r4, g4⟩; have HO4 := Lib.hid o4; have HG4 := Lib.hid (gb_trans (gb_drew HG3.out) g4); have k4 := (blk_grown g4 (show W3.drew.heap[rb]? = _ from HK3.out) (by omega)).1; have t4 := (blk_grown g4 (show W3.drew.heap[b]? = _ from HT3.out) (by omega)).1; have HK4 := Lib.hid k4; have S5 := cel3_blk HS0.out (t4.trans HT3.out.symm) (t4.trans HT3.out.symm) (t4.trans HT3.out.symm); have er := blk_cell k4; have fr := blk_frozen k4; have zr := blk_lt k4; clear o4 r4 g4 k4 t4))
 all_goals
   go_wp2_with fail
   refine bodyPost_ret (v := .tuple #[.agg #[.int .i64 x, .int .i64 y, .int .i64 z], .slice (some ⟨gR, 0, none⟩) n2 c2]) ?_ rfl ?_
   . simp [results, Try.results26, go_sem, er]
   . have hw := HRB.out
     have s4 := HG4.out.size
     have hW3 : w.heap.size <= W3.heap.size := by omega
     refine ⟨gR, n2, c2, rs, x, y, z, rfl, ?_, hn4, ?_⟩
     . have hgR := (HO4.out.lt gR rfl).1
       have hgR : W3.heap.size <= gR := hgR
       exact row_mono (row_keep' HO4.out ((Below.heap_setCell _ _ _ gR (by show gR ≠ rb; omega)).trans ((Below.heap_setCell _ _ _ gR (by show gR ≠ rb; omega)).trans (Below.heap_setCell _ _ _ gR (by show gR ≠ rb; omega))))) hW3
     . have h1 := HB0.out.trans (HB1.out.mono (by have := HZ0.out; omega))
       have h2 := h1.trans (below_of_gb HG4.out (by omega) (by omega))
       have h3 : Chg rb (rb + 1) w4 _ := ((((Chg.refl rb (rb + 1) w4).setCell (p := ⟨rb, 0, none⟩) (Nat.le_refl _) (Nat.lt_succ_self _) (.int .i64 x)).setCell (p := ⟨rb, 1, none⟩) (Nat.le_refl _) (Nat.lt_succ_self _) (.int .i64 y)).setCell (p := ⟨rb, 2, none⟩) (Nat.le_refl _) (Nat.lt_succ_self _) (.int .i64 z))
       exact h2.trans ⟨h3.os, h3.tape, h3.output, h3.size, λ B hB => h3.block B (by omega) (by omega)⟩
end Go.Proofs.Ytjcpjijihajopaa
namespace Go.Proofs.Ytjcpjijihajopaa
open Go.RowKit Go.Mt Go.Conc Go.Tt Go.Maps
structure LstAt (w : World) (g : Nat) (cs : Array Value) (n cap : Nat) (rs : List RecD) : Prop where
 blk : w.heap[g]? = some (.cells cs 50 (0, 0))
 uni : ∀ u ∈ cs, Uni u
 cell : ∀ (j : Nat) (v : Value), (recs rs)[j]? = some v -> cs[j]? = some v
 len : rs.length = n
 le : n <= cap
 cap : cap <= maxLen
section
variable {w w' : World} {g n cap : Nat} {cs : Array Value} {rs : List RecD}
theorem LstAt.bl (h : LstAt w g cs n cap rs) (k : Bl w.heap.size w w') : LstAt w' g cs n cap rs := ⟨(k.block g (blk_lt h.blk)).trans h.blk, h.uni, h.cell, h.len, h.le, h.cap⟩
theorem LstAt.tp (h : LstAt w g cs n cap rs) (T : Tape) (e : Nat) : LstAt (Tt.tp w T e) g cs n cap rs := ⟨h.blk, h.uni, h.cell, h.len, h.le, h.cap⟩
theorem LstAt.slc (h : LstAt w g cs n cap rs) : Slc w 0 w.heap.size 7 (some ⟨g, 0, none⟩) n cap (recs rs) :=
 ⟨by rw [recs_len, h.len], h.le, h.cap, λ _ => ⟨g, 0, rfl, Nat.zero_le _, blk_lt h.blk, blk_lt h.blk, λ j v hv => by rw [Nat.zero_add, blk_cell h.blk]; exact h.cell j v hv⟩⟩
theorem LstAt.slcT (h : LstAt w g cs n cap rs) {k : Nat} (hk : k <= n) : Slc w 0 w.heap.size 7 (some ⟨g, 0, none⟩) k cap (recs (rs.take k)) := recs_take rs k ▸ h.slc.takeS hk
theorem LstAt.slcD (h : LstAt w g cs n cap rs) {k : Nat} (hk : k <= n) : Slc w 0 w.heap.size 7 (if cap = k then some ⟨g, 0, none⟩ else some ⟨g, k * 7, none⟩) (n - k) (cap - k) (recs (rs.drop k)) := recs_drop rs k ▸ h.slc.dropI hk
theorem LstAt.src (h : LstAt w g cs n cap rs) (off : Nat) : srcOk w (some ⟨g, off, none⟩) (some ⟨g, off, cs, 50, (0, 0)⟩) := ⟨rfl, h.blk, h.uni⟩
theorem LstAt.srcD (h : LstAt w g cs n cap rs) (k : Nat) : srcOk w (if cap = k then some ⟨g, 0, none⟩ else some ⟨g, k * 7, none⟩) (some ⟨g, if cap = k then 0 else k * 7, cs, 50, (0, 0)⟩) := by
 refine ⟨?_, h.blk, h.uni⟩
 show _ = some (⟨g, if cap = k then 0 else k * 7, none⟩ : Addr)
 split <;> rfl
end
theorem lst_of_row {w : World} {lo g n c : Nat} {rs : List RecD} (h : w.ownsRow lo 50 7 (.slice (some ⟨g, 0, none⟩) n c) n (recs rs)) : ∃ cur, w.heap[g]? = some (.cells cur 50 (0, 0)) /\ (∀ (j : Nat) (v : Value), (recs rs)[j]? = some v -> cur[j]? = some v) /\ rs.length = n /\ n <= c /\ c <= maxLen /\ lo <= g := by
 obtain ⟨hl, h | ⟨b, cap, cur, e, h1, h2, h3, h4, h5, h6⟩⟩ := h
 . cases h.1
 . injection e with e _ e3
   injection e with e
   injection e with e
   subst e e3
   refine ⟨cur, h2, λ j v hv => ?_, by have := recs_len rs; omega, h3, h4, h1⟩
   rw [<- h6] at hv
   have hj : j < n * 7 := by
     rcases Nat.lt_or_ge j (n * 7) with h | h
     . exact h
     . rw [List.getElem?_eq_none (by rw [List.length_take]; omega)] at hv; cases hv
   rw [List.getElem?_take_of_lt hj] at hv
   simpa using hv
theorem exec_sliceHi {ρ : Operand -> Value} {o : Oper} {g n c k : Nat} {x hi : Operand} {w : World} (ho : o.op = .slice 25 x none (some hi) none) (hx : ρ x = .slice (some ⟨g, 0, none⟩) n c) (hh : ρ hi = .int .i64 k) (hk : k <= n) (hc : n <= c) :
   (execOp ρ o).run Try.prog w = .ok (.value (.slice (some ⟨g, 0, none⟩) k c)) w := by
 have h1 : (k : Int) <= (c : Int) := by omega
 have h0 : (0 : Int) <= (k : Int) := by omega
 unfold execOp
 rw [ho]
 simp [go_sem, hx, hh, Try.underlying25, h1, h0]
theorem exec_sliceLo {ρ : Operand -> Value} {o : Oper} {g n c k : Nat} {x lo : Operand} {w : World} (ho : o.op = .slice 25 x (some lo) none none) (hx : ρ x = .slice (some ⟨g, 0, none⟩) n c) (hh : ρ lo = .int .i64 k) (hk : k <= n) (hc : n <= c) :
   (execOp ρ o).run Try.prog w = .ok (.value (.slice (if c = k then some ⟨g, 0, none⟩ else some ⟨g, k * 7, none⟩) (n - k) (c - k))) w := by
 have h1 : (k : Int) <= (n : Int) := by omega
 have h0 : (0 : Int) <= (k : Int) := by omega
 obtain ⟨i, hi, hz, hs, hb⟩ := info_parts info_rec
 unfold execOp
 rw [ho]
 simp [go_sem, hx, hh, Try.underlying25, h1, h0, hi, hs, Addr.add]
 split
 . rfl
 . split
   . next e => rw [e]
   . rfl
theorem wrap_id {a : Int} (h0 : -9223372036854775808 <= a) (h1 : a <= 9223372036854775807) : IntKind.i64.wrap a = a :=
 (IntWalk.i64_left _).trans (IntWalk.wrap64_in a (by omega))
end Go.Proofs.Ytjcpjijihajopaa
namespace Go.Proofs.Ytjcpjijihajopaa
open Go.RowKit
def EsI (es : List MapEntry) (ps : List (Int × Value)) : Prop := es.map (λ e => (e.key, e.val)) = ps.map (λ p => (Value.int .i64 p.1, p.2))
def IntMap (w : World) (b : Nat) (ps : List (Int × Value)) : Prop := ∃ es clock, w.heap[b]? = some (.map es clock) /\ EsI es.toList ps
def lookI (c : Int) : List (Int × Value) -> Option Value
 | [] => none
 | p :: ps => if c = p.1 then some p.2 else lookI c ps
def putI (c : Int) (v : Value) : List (Int × Value) -> List (Int × Value)
 | [] => [(c, v)]
 | p :: ps => if c = p.1 then (p.1, v) :: ps else p :: putI c v ps
def findI (c : Int) : List (Int × Value) -> Nat -> Option (Nat × Value)
 | [], _ => none
 | p :: ps, i => if c = p.1 then some (i, p.2) else findI c ps (i + 1)
theorem EsI.cons_inv {e : MapEntry} {es : List MapEntry} {ps : List (Int × Value)} (h : EsI (e :: es) ps) : ∃ p qs, ps = p :: qs /\ e.key = .int .i64 p.1 /\ e.val = p.2 /\ EsI es qs := by
 unfold EsI at h
 cases ps with
 | nil => cases h
 | cons p qs =>
   rw [List.map_cons, List.map_cons] at h
   injection h with h1 h2
   injection h1 with h3 h4
   exact ⟨p, qs, rfl, h3, h4, h2⟩
theorem EsI.nil_inv {ps : List (Int × Value)} (h : EsI [] ps) : ps = [] := by
 unfold EsI at h; cases ps with
 | nil => rfl
 | cons p qs => cases h
section
variable {P : Program} {k : TypeId}
theorem findNow_im (c : Int) : ∀ (es : List MapEntry) (ps : List (Int × Value)) (i : Nat), EsI es ps -> Instr.findNow (.int .i64) (.int .i64 c) es i = some (findI c ps i)
 | [], ps, i, h => by rw [h.nil_inv]; rfl
 | e :: es, ps, i, h => by
   obtain ⟨p, qs, rfl, h1, h2, h3⟩ := h.cons_inv
   have ih := findNow_im c es qs (i + 1) h3
   unfold Instr.findNow
   simp only [h1, Instr.sameNow, if_true]
   by_cases hc : c = p.1
   . subst hc; simp [findI, h2]
   . have : (c == p.1) = false := by rw [beq_eq_false_iff_ne]; exact hc
     rw [this]
     simp only [findI, if_neg hc]
     exact ih
theorem run_findKey_im (hk : P.underlying k = some (.int .i64)) (c : Int) (w : World) (es : List MapEntry) (ps : List (Int × Value)) (h : EsI es ps) : (Instr.findKey k (.int .i64 c) es).run P w = .ok (findI c ps 0) w := by
 unfold Instr.findKey
 simp only [Sem.run_bind, run_underlying hk, Result.andThen_ok, findNow_im c es ps 0 h, Sem.run_pure]
theorem findI_look (c : Int) : ∀ (ps : List (Int × Value)) (i : Nat), (findI c ps i).map Prod.snd = lookI c ps
 | [], _ => rfl
 | p :: ps, i => by
   unfold findI lookI
   by_cases h : c = p.1
   . rw [if_pos h, if_pos h]; rfl
   . rw [if_neg h, if_neg h]; exact findI_look c ps (i + 1)
theorem run_checkKey_im (hk : P.underlying k = some (.int .i64)) (b : Bool) (c : Int) (w : World) : (Instr.checkKey b 10000 k (.int .i64 c)).run P w = .ok () w := by
 rw [show (10000 : Nat) = 9999 + 1 by decide]
 unfold Instr.checkKey
 simp [run_underlying hk]
theorem run_lookup_im {t e : TypeId} (ht : P.underlying t = some (.map k e)) (hk : P.underlying k = some (.int .i64)) {z : Value} {w : World} (hz : (zeroValue e).run P w = .ok z w) {b : Nat} {c : Int} {ps : List (Int × Value)} (h : IntMap w b ps) (ok : Bool) :
   (Instr.lookup t (.map (some b)) (.int .i64 c) ok).run P w = .ok (if ok then .tuple #[(lookI c ps).getD z, .bool (lookI c ps).isSome] else (lookI c ps).getD z) w := by
 obtain ⟨es, clock, hb, he⟩ := h
 unfold Instr.lookup
 have hf := findI_look c ps 0
 have hg : (getObj b).run P w = .ok (.map es clock) w := by first | exact run_getObj hb | (show Sem.run P (Sem.getObj b Sem.pure) w = _; unfold Sem.run; rw [hb]; rfl) | (simp [getObj, Sem.run, hb])
 simp only [Sem.run_bind, run_underlying ht, Result.andThen_ok, hg, Sem.run_pure, run_checkKey_im hk, run_findKey_im hk c w _ _ he]
 cases hq : findI c ps 0 with
 | none =>
   rw [hq] at hf
   have hf' : lookI c ps = none := by simpa using hf.symm
   simp [hz, hf']
 | some q =>
   rw [hq] at hf
   have hf' : lookI c ps = some q.2 := by simpa using hf.symm
   simp [hf']
end
theorem putI_none {c : Int} {v : Value} : ∀ {ps : List (Int × Value)} {i : Nat}, findI c ps i = none -> putI c v ps = ps ++ [(c, v)]
 | [], _, _ => rfl
 | p :: ps, i, h => by
   unfold findI at h
   by_cases hc : c = p.1
   . rw [if_pos hc] at h; cases h
   . rw [if_neg hc] at h
     unfold putI
     rw [if_neg hc, putI_none h]; rfl
theorem findI_some {c : Int} {v : Value} : ∀ {es : List MapEntry} {ps : List (Int × Value)} {i : Nat} {q : Nat × Value}, EsI es ps -> findI c ps i = some q ->
   ∃ j e0, q.1 = i + j /\ es[j]? = some e0 /\ e0.key = .int .i64 c /\ EsI (es.set j { e0 with key := .int .i64 c, val := v }) (putI c v ps)
 | [], ps, i, q, h, hq => by rw [h.nil_inv] at hq; cases hq
 | e :: es, ps, i, q, h, hq => by
   obtain ⟨p, qs, rfl, h1, h2, h3⟩ := h.cons_inv
   unfold findI at hq
   by_cases hc : c = p.1
   . rw [if_pos hc] at hq
     injection hq with hq
     refine ⟨0, e, by rw [<- hq]; rfl, rfl, by rw [h1, hc], ?_⟩
     unfold putI
     rw [if_pos hc]
     unfold EsI at h3 ⊢
     rw [List.set_cons_zero, List.map_cons, List.map_cons, h3, hc]
   . rw [if_neg hc] at hq
     obtain ⟨j, e0, e1, e2, e3, e4⟩ := findI_some (v := v) h3 hq
     refine ⟨j + 1, e0, by rw [e1]; omega, e2, e3, ?_⟩
     unfold putI
     rw [if_neg hc]
     unfold EsI at e4 ⊢
     rw [List.set_cons_succ, List.map_cons, List.map_cons, e4, h1, h2]
theorem run_stays_im {P : Program} (c : Int) (w : World) : (Instr.keyThatStays (.int .i64 c) (.int .i64 c)).run P w = .ok (.int .i64 c) w := by
 unfold Instr.keyThatStays
 rw [if_pos (by simp [Instr.sameBits])]
 rfl
section
variable {P : Program} {k : TypeId}
open Go.ChangeMaps in
theorem run_update_im {t e : TypeId} (ht : P.underlying t = some (.map k e)) (hk : P.underlying k = some (.int .i64)) {w : World} {b : Nat} {c : Int} {ps : List (Int × Value)} (h : IntMap w b ps) (v : Value) :
   ∃ es' clock', (Instr.mapUpdate t (.map (some b)) (.int .i64 c) v).run P w = .ok () { w with heap := w.heap.setIfInBounds b (.map es' clock') } /\ IntMap { w with heap := w.heap.setIfInBounds b (.map es' clock') } b (putI c v ps) := by
 obtain ⟨es, clock, hb, he⟩ := h
 have hz := (Array.getElem?_eq_some_iff.1 hb).1
 cases hq : findI c ps 0 with
 | none =>
   refine ⟨es.push ⟨.int .i64 c, v, clock⟩, clock + 1, ?_, es.push ⟨.int .i64 c, v, clock⟩, clock + 1, by simp [hz], ?_⟩
   . simp [Instr.mapUpdate, run_underlying ht, MapKept.run_getObj_map hb, run_checkKey_im hk, run_findKey_im hk c w _ _ he, hq, MapKept.run_setObj_map _ hb, Result.andThen]
   . rw [putI_none hq]
     unfold EsI at he ⊢
     rw [Array.toList_push, List.map_append, List.map_append, he]; rfl
 | some q =>
   obtain ⟨j, x, e1, e2, e3, e4⟩ := findI_some (v := v) he hq
   have e1' : q.1 = j := by omega
   have hj : es[j]? = some x := by simpa using e2
   refine ⟨es.modify j (λ e' => { e' with key := .int .i64 c, val := v }), clock, ?_, es.modify j (λ e' => { e' with key := .int .i64 c, val := v }), clock, by simp [hz], ?_⟩
   . simp [Instr.mapUpdate, run_underlying ht, MapKept.run_getObj_map hb, run_checkKey_im hk, run_findKey_im hk c w _ _ he, hq, e1', hj, e3, run_stays_im, MapKept.run_setObj_map _ hb, Result.andThen]
   . have : (es.modify j (λ e' => { e' with key := .int .i64 c, val := v })).toList = es.toList.set j { x with key := .int .i64 c, val := v } := by
       rw [Array.toList_modify, modify_eq_set _ _ _ _ e2]
     rw [this]; exact e4
open Go.ChangeMaps in
end
end Go.Proofs.Ytjcpjijihajopaa
namespace Go.Proofs.Ytjcpjijihajopaa
open Go.RowKit
def talkD (d : RecD) : Int := talkF d.c d.l d.o d.f d.h d.t d.e.toList
def isDone (d : RecD) : Bool := d.e.toList == [100, 111, 110, 101]
structure BillD where
 c : Int
 t : Int
 m : Int
 g : Int
deriving DecidableEq
structure Trf where
 f : Int
 s : Int
 p : Int
def Trf.ok (T : Trf) : Bool := tariffB T.f T.s T.p
def BillD.cells (b : BillD) : List Value := [.int .i64 b.c, .int .i64 b.t, .int .i64 b.m, .int .i64 b.g]
def BillD.val (b : BillD) : Value := .agg #[.int .i64 b.c, .int .i64 b.t, .int .i64 b.m, .int .i64 b.g]
def bills (bs : List BillD) : List Value := bs.flatMap BillD.cells
def pickT (c : Int) (d : RecD) : Int := if d.c = c /\ isDone d = true then 1 else 0
def pickM (c : Int) (d : RecD) : Int := if d.c = c /\ isDone d = true then talkD d else 0
def pickG (T : Trf) (c : Int) (d : RecD) : Int := if d.c = c /\ isDone d = true then chargeF T.f T.s T.p (talkD d) else 0
def billFor (T : Trf) (rs : List RecD) (c : Int) : BillD := ⟨c, sumR (pickT c) rs, sumR (pickM c) rs, sumR (pickG T c) rs⟩
def billAt (T : Trf) (rs : List RecD) (i : Nat) : Option BillD := if 0 < (billFor T rs ((i : Int) + 1)).t then some (billFor T rs ((i : Int) + 1)) else none
def billsTo (T : Trf) (rs : List RecD) (n : Nat) : List BillD := (List.range n).filterMap (billAt T rs)
def billOk (T : Trf) (rs : List RecD) : Bool := T.ok && validR rs
def billsM (T : Trf) (rs : List RecD) : List BillD := if billOk T rs then billsTo T rs 99 else []
def totalM (T : Trf) (rs : List RecD) : Int := if billOk T rs then ((billsTo T rs 99).map (·.g)).sum else -1
theorem billsTo_succ (T : Trf) (rs : List RecD) (n : Nat) : billsTo T rs (n + 1) = billsTo T rs n ++ (billAt T rs n).toList := by
 unfold billsTo
 rw [List.range_succ, List.filterMap_append]
 congr 1
theorem billAt_some {T : Trf} {rs : List RecD} {n : Nat} (h : 0 < (billFor T rs ((n : Int) + 1)).t) : billAt T rs n = some (billFor T rs ((n : Int) + 1)) := if_pos h
theorem billAt_none {T : Trf} {rs : List RecD} {n : Nat} (h : ¬ 0 < (billFor T rs ((n : Int) + 1)).t) : billAt T rs n = none := if_neg h
theorem billsTo_some {T : Trf} {rs : List RecD} {n : Nat} (h : 0 < (billFor T rs ((n : Int) + 1)).t) : billsTo T rs (n + 1) = billsTo T rs n ++ [billFor T rs ((n : Int) + 1)] := by rw [billsTo_succ, billAt_some h]; rfl
theorem billsTo_none {T : Trf} {rs : List RecD} {n : Nat} (h : ¬ 0 < (billFor T rs ((n : Int) + 1)).t) : billsTo T rs (n + 1) = billsTo T rs n := by rw [billsTo_succ, billAt_none h]; simp
theorem billsTo_len (T : Trf) (rs : List RecD) (n : Nat) : (billsTo T rs n).length <= n := by
 unfold billsTo
 exact Nat.le_trans (List.length_filterMap_le _ _) (by simp)
theorem talk_bound {d : RecD} (h : recOk d = true) : talkD d <= 3600 /\ (isDone d = true -> 0 <= talkD d) := by
 have h' : recP d.c d.l d.o d.f d.h d.t d.e.toList := of_decide_eq_true h
 unfold talkD talkF
 by_cases hd : d.e.toList = [100, 111, 110, 101]
 . have : 0 <= d.t - d.h /\ d.t - d.h <= 3600 := by
     simp only [recP, hd] at h'
     simp at h'
     omega
   rw [if_pos ⟨h, hd⟩]
   omega
 . rw [if_neg (λ x => hd x.2)]
   refine ⟨by omega, λ x => ?_⟩
   simp [isDone] at x
   exact absurd x hd
theorem pick_bounds {T : Trf} {d : RecD} {c : Int} (hT : T.ok = true) (h : recOk d = true) : 0 <= pickT c d /\ pickT c d <= 1 /\ 0 <= pickM c d /\ pickM c d <= 3600 /\ 0 <= pickG T c d /\ pickG T c d <= 3660000 := by
 have ht := talk_bound h
 unfold pickT pickM pickG
 by_cases hc : d.c = c /\ isDone d = true
 . rw [if_pos hc, if_pos hc, if_pos hc]
   have := chargeF_bounds (m := talkD d) hT (ht.2 hc.2) ht.1
   have := ht.2 hc.2
   omega
 . rw [if_neg hc, if_neg hc, if_neg hc]
   omega
theorem sumR_le {f : RecD -> Int} {B : Int} {ds : List RecD} (hB : 0 <= B) (h : ∀ d ∈ ds, 0 <= f d /\ f d <= B) (k : Nat) : 0 <= sumR f (ds.take k) /\ sumR f (ds.take k) <= B * k := by
 induction k with
 | zero => simp [sumR]
 | succ k ih =>
   have e : B * ((k + 1 : Nat) : Int) = B * k + B := by push_cast; rw [Int.mul_add, Int.mul_one]
   rw [e]
   by_cases hk : k < ds.length
   . rw [sumR_succ (List.getElem?_eq_getElem hk)]
     have := h ds[k] (List.getElem_mem hk)
     omega
   . rw [List.take_of_length_le (by omega)]
     rw [List.take_of_length_le (by omega)] at ih
     omega
theorem validR_parts {ds : List RecD} (h : validR ds = true) : ds.length <= 60 /\ ∀ d ∈ ds, recOk d = true := by
 simp only [validR, Bool.and_eq_true, decide_eq_true_eq, List.all_eq_true] at h
 exact h
theorem billFor_bounds {T : Trf} {rs : List RecD} (h : billOk T rs = true) (k : Nat) (c : Int) : 0 <= (billFor T (rs.take k) c).t /\ (billFor T (rs.take k) c).t <= 60 /\ 0 <= (billFor T (rs.take k) c).m /\ (billFor T (rs.take k) c).m <= 216000 /\ 0 <= (billFor T (rs.take k) c).g /\ (billFor T (rs.take k) c).g <= 219600000 := by
 simp only [billOk, Bool.and_eq_true] at h
 obtain ⟨h60, hall⟩ := validR_parts h.2
 have hp : ∀ d ∈ rs, _ := λ d hd => pick_bounds (c := c) h.1 (hall d hd)
 have e : ∃ j, j <= 60 /\ rs.take k = rs.take j := by
   rcases Nat.lt_or_ge k 60 with x | x
   . exact ⟨k, by omega, rfl⟩
   . exact ⟨60, Nat.le_refl _, by rw [List.take_of_length_le (by omega), List.take_of_length_le h60]⟩
 obtain ⟨j, hj, e⟩ := e
 rw [e]
 have h1 := sumR_le (B := 1) (by omega) (λ d hd => ⟨(hp d hd).1, (hp d hd).2.1⟩) j
 have h2 := sumR_le (B := 3600) (by omega) (λ d hd => ⟨(hp d hd).2.2.1, (hp d hd).2.2.2.1⟩) j
 have h3 := sumR_le (B := 3660000) (by omega) (λ d hd => ⟨(hp d hd).2.2.2.2.1, (hp d hd).2.2.2.2.2⟩) j
 simp only [billFor]
 omega
theorem billFor_zero {T : Trf} {rs : List RecD} {c : Int} : (billFor T rs c).t <= 0 -> (billFor T rs c).m = 0 /\ (billFor T rs c).g = 0 /\ (billFor T rs c).t = 0 := by
 simp only [billFor]
 induction rs with
 | nil => intro _; simp [sumR]
 | cons d rs ih =>
   intro h
   have hs : ∀ f : RecD -> Int, sumR f (d :: rs) = f d + sumR f rs := λ f => by simp [sumR]
   have ht : ∀ rs : List RecD, 0 <= sumR (pickT c) rs := by
     intro rs
     induction rs with
     | nil => simp [sumR]
     | cons x xs ihx =>
       have : sumR (pickT c) (x :: xs) = pickT c x + sumR (pickT c) xs := by simp [sumR]
       rw [this]
       have : 0 <= pickT c x := by unfold pickT; split <;> omega
       omega
   rw [hs, hs, hs]
   rw [hs] at h
   have h0 := ht rs
   by_cases hc : d.c = c /\ isDone d = true
   . have : pickT c d = 1 := if_pos hc
     omega
   . have e1 : pickT c d = 0 := if_neg hc
     have e2 : pickM c d = 0 := if_neg hc
     have e3 : pickG T c d = 0 := if_neg hc
     have := ih (by omega)
     omega
theorem billFor_succ {T : Trf} {rs : List RecD} {k : Nat} {d : RecD} (h : rs[k]? = some d) (c : Int) : billFor T (rs.take (k + 1)) c = ⟨c, (billFor T (rs.take k) c).t + pickT c d, (billFor T (rs.take k) c).m + pickM c d, (billFor T (rs.take k) c).g + pickG T c d⟩ := by
 unfold billFor
 rw [sumR_succ h, sumR_succ h, sumR_succ h]
theorem lookI_putI_same (c : Int) (v : Value) : ∀ ps : List (Int × Value), lookI c (putI c v ps) = some v
 | [] => by simp [putI, lookI]
 | p :: ps => by
   unfold putI
   by_cases h : c = p.1
   . rw [if_pos h]; unfold lookI; rw [if_pos h]
   . rw [if_neg h]; unfold lookI; rw [if_neg h]; exact lookI_putI_same c v ps
theorem lookI_putI_other {c c' : Int} (v : Value) (hne : c' ≠ c) : ∀ ps : List (Int × Value), lookI c' (putI c v ps) = lookI c' ps
 | [] => by simp [putI, lookI, hne]
 | p :: ps => by
   unfold putI
   by_cases h : c = p.1
   . rw [if_pos h]
     unfold lookI
     simp only
     rw [if_neg (by omega), if_neg (by omega)]
   . rw [if_neg h]
     unfold lookI
     by_cases h' : c' = p.1
     . rw [if_pos h', if_pos h']
     . rw [if_neg h', if_neg h']; exact lookI_putI_other v hne ps
def BillsIn (T : Trf) (rs : List RecD) (ps : List (Int × Value)) : Prop := ∀ c, lookI c ps = if 0 < (billFor T rs c).t then some (billFor T rs c).val else none
theorem billsIn_nil (T : Trf) : BillsIn T [] [] := by
 intro c
 have : (billFor T [] c).t = 0 := by simp [billFor, sumR]
 rw [this, if_neg (by omega)]; rfl
abbrev zeroBill : Value := .agg #[.int .i64 0, .int .i64 0, .int .i64 0, .int .i64 0]
theorem billsIn_get {T : Trf} {rs : List RecD} {ps : List (Int × Value)} (h : BillsIn T rs ps) (c : Int) : ∃ x, (lookI c ps).getD zeroBill = .agg #[.int .i64 x, .int .i64 (billFor T rs c).t, .int .i64 (billFor T rs c).m, .int .i64 (billFor T rs c).g] := by
 rw [h c]
 by_cases ht : 0 < (billFor T rs c).t
 . rw [if_pos ht]; exact ⟨_, rfl⟩
 . rw [if_neg ht]
   obtain ⟨h1, h2, h3⟩ := billFor_zero (T := T) (rs := rs) (c := c) (by omega)
   exact ⟨0, by rw [h1, h2, h3]; rfl⟩
theorem billsIn_skip {T : Trf} {rs : List RecD} {ps : List (Int × Value)} {k : Nat} {d : RecD} (h : BillsIn T (rs.take k) ps) (hd : rs[k]? = some d) (hn : isDone d = false) : BillsIn T (rs.take (k + 1)) ps := by
 intro c
 rw [billFor_succ hd c]
 have hc : ¬ (d.c = c /\ isDone d = true) := λ x => by rw [hn] at x; cases x.2
 have e1 : pickT c d = 0 := if_neg hc
 have e2 : pickM c d = 0 := if_neg hc
 have e3 : pickG T c d = 0 := if_neg hc
 rw [e1, e2, e3, Int.add_zero, Int.add_zero, Int.add_zero]
 exact h c
theorem billsIn_put {T : Trf} {rs : List RecD} {ps : List (Int × Value)} {k : Nat} {d : RecD} (h : BillsIn T (rs.take k) ps) (hd : rs[k]? = some d) (hn : isDone d = true) (ht : 0 <= (billFor T (rs.take k) d.c).t) :
   BillsIn T (rs.take (k + 1)) (putI d.c (BillD.val ⟨d.c, (billFor T (rs.take k) d.c).t + 1, (billFor T (rs.take k) d.c).m + talkD d, (billFor T (rs.take k) d.c).g + chargeF T.f T.s T.p (talkD d)⟩) ps) := by
 intro c
 by_cases hc : c = d.c
 . subst hc
   rw [lookI_putI_same, billFor_succ hd]
   have hcc : d.c = d.c /\ isDone d = true := ⟨rfl, hn⟩
   have e1 : pickT d.c d = 1 := if_pos hcc
   have e2 : pickM d.c d = talkD d := if_pos hcc
   have e3 : pickG T d.c d = chargeF T.f T.s T.p (talkD d) := if_pos hcc
   rw [e1, e2, e3]
   simp only
   rw [if_pos (by omega)]
 . rw [lookI_putI_other _ hc, billFor_succ hd c]
   have hcc : ¬ (d.c = c /\ isDone d = true) := λ x => hc x.1.symm
   have e1 : pickT c d = 0 := if_neg hcc
   have e2 : pickM c d = 0 := if_neg hcc
   have e3 : pickG T c d = 0 := if_neg hcc
   rw [e1, e2, e3, Int.add_zero, Int.add_zero, Int.add_zero]
   exact h c
end Go.Proofs.Ytjcpjijihajopaa
