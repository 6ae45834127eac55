/-
  markIntSS: it marks rows that may be written, and nothing else.
-/
import Derived.Test.YtgcnhojiaaonmaaFTS
namespace Go.Proofs.Ytgcnhojiaaonmaa
open Go.RowKit
set_option linter.unusedVariables false
structure WrS (w : World) (lo hi : Nat) (A : Option Addr) (n c : Nat) : Prop where
  le : n ≤ c
  cap : c ≤ maxLen
  blk : 0 < n → ∃ b cs, A = some ⟨b, 0, none⟩ ∧ lo ≤ b ∧ b < hi ∧ w.heap[b]? = some (.cells cs 3) ∧ n ≤ cs.size
/-- Blocks of integers stay such, each at its size. -/
def Same (w w' : World) : Prop := ∀ (b : Nat) (cs : Array Value), w.heap[b]? = some (.cells cs 3) → ∃ cs' : Array Value, w'.heap[b]? = some (.cells cs' 3) ∧ cs'.size = cs.size
theorem Same.refl (w : World) : Same w w := fun b cs h => ⟨cs, h, rfl⟩
theorem Same.trans {a b c : World} (h : Same a b) (k : Same b c) : Same a c := fun x cs hx => by
  obtain ⟨cs', h1, h2⟩ := h x cs hx
  obtain ⟨cs2, h3, h4⟩ := k x cs' h1
  exact ⟨cs2, h3, h4.trans h2⟩
theorem Same.setCell (w : World) (p : Addr) (v : Value) : Same w (w.setCell p v) := fun b cs h => by
  obtain ⟨pb, po, ps⟩ := p
  by_cases e : b = pb
  · subst e
    cases ps with
    | none => exact ⟨_, blk_setCell h v, by simp⟩
    | some s => exact ⟨cs, by simp [World.setCell, Array.getElem?_modify, h], rfl⟩
  · exact ⟨cs, (Below.heap_setCell w ⟨pb, po, ps⟩ v b e).trans h, rfl⟩
theorem WrS.same {w w' : World} {lo hi n c : Nat} {A : Option Addr} (h : WrS w lo hi A n c) (k : Same w w') : WrS w' lo hi A n c :=
  ⟨h.le, h.cap, fun hn => by
    obtain ⟨b, cs, e, h1, h2, hb, hc⟩ := h.blk hn
    obtain ⟨cs', h3, h4⟩ := k b cs hb
    exact ⟨b, cs', e, h1, h2, h3, by omega⟩⟩
theorem Own.wrs {w : World} {lo hi n c : Nat} {A : Option Addr} {xs : List Int} (h : Own w lo hi A n c xs) : WrS w lo hi A n c :=
  ⟨h.slc.le, h.slc.cap, fun hn => by
    obtain ⟨b, cs, e, hb, hc⟩ := h.blk hn
    obtain ⟨b', off, e', h1, h2, _⟩ := h.slc.at_ hn
    rw [e] at e'; injection e' with e'; injection e' with e1; subst e1
    exact ⟨b, cs, e, h1, h2, hb, hc⟩⟩
def MarkedW (w : World) (lo hi : Nat) (r : Int) (e : Ending) (w' : World) : Prop := e = .returned (.int .i64 r) ∧ Chg lo hi w w' ∧ Same w w' ∧ w'.heap.size = w.heap.size
set_option maxHeartbeats 1000000 in
theorem markIntS_w (lo hi n c : Nat) (A : Option Addr) (k0 : Int) (w : World) (h : WrS w lo hi A n c) (hn : n ≤ 1048576) (hk0 : 0 ≤ k0) (hk1 : k0 ≤ 10000000000000) :
    Calls Try.prog 40 #[.slice A n c, .int .i64 k0] w (MarkedW w lo hi (k0 + n)) := by
  have hle := h.le
  have hcap := h.cap
  unfold maxLen at hcap
  go_enter Try.func40, Try.ntmps40
  go_wp2
  go_loopw [1, 5] (fun q i wr => ∃ k : Nat, k ≤ n ∧ q = .int .i64 (k0 + k) ∧ i = .int .i64 k ∧ Chg lo hi w wr ∧ wr.heap.size = w.heap.size ∧ Same w wr) (fun _ i _ => n - (intOf i).toNat)
  case atStart => exact ⟨0, Nat.zero_le _, by simp, rfl, Chg.refl _ _ _, rfl, Same.refl _⟩
  case round =>
    obtain ⟨k, hk, rfl, rfl, B, hsw, hsm⟩ := hrel
    have HS := Lib.hid hsm
    have HW := Lib.hid hsw
    by_cases hlt : k < n
    · obtain ⟨b, cs, rfl, h1, h2, hb, hsz⟩ := (h.same hsm).blk (by omega)
      have hc := blk_cell hb
      have hf := blk_frozen' hb
      have hck : ∃ u, cs[k]? = some u := ⟨cs[k]'(by omega), Array.getElem?_eq_getElem _⟩
      obtain ⟨u, hu⟩ := hck
      clear hsm hsw h hb
      go_wp2
      go_roundw
      case rel => exact ⟨k + 1, by omega, by go_num, by go_num, B.setCell h1 h2 _, by simp [World.setCell, HW.out], HS.out.trans (Same.setCell _ _ _)⟩
      case measure => simp [intOf]; omega
    · have e : k = n := by omega
      subst e
      clear hsm hsw h
      go_wp2
      go_ret
      exact ⟨rfl, B, HS.out, HW.out⟩
def sumN (rs : List Row) : Nat := (rs.map Row.n).sum
set_option maxHeartbeats 1000000 in
theorem markIntSS_any (lo hi lo2 hi2 n c : Nat) (A : Option Addr) (rs : List Row) (k0 : Int) (w : World) (h : Mat w lo hi lo2 hi2 A n c rs) (hd : hi ≤ lo2) (hn : n ≤ 1048576) (hr : ∀ r ∈ rs, r.n ≤ 1048576)
    (hw : ∀ r ∈ rs, WrS w lo2 hi2 r.A r.n r.c) (hk0 : 0 ≤ k0) (hk1 : k0 ≤ 1000000) :
    Calls Try.prog 46 #[.slice A n c, .int .i64 k0] w (fun e w' => ∃ r : Int, 0 ≤ r ∧ MarkedW w lo2 hi2 r e w') := by
  have HR := Lib.hid hr
  have HW := Lib.hid hw
  have HL := Lib.hid h.length
  clear hr hw
  go_enter Try.func46, Try.ntmps46
  go_wp2
  go_loopw [1, 5] (fun q i wr => ∃ (k : Nat) (s : Int), k ≤ n ∧ q = .int .i64 s ∧ 0 ≤ s ∧ s ≤ 1000000 + k * 1048576 ∧ i = .int .i64 k ∧ Chg lo2 hi2 w wr ∧ wr.heap.size = w.heap.size ∧ Same w wr) (fun _ i _ => n - (intOf i).toNat)
  case atStart => exact ⟨0, k0, Nat.zero_le _, rfl, hk0, by omega, rfl, Chg.refl _ _ _, rfl, Same.refl _⟩
  case round =>
    obtain ⟨k, s, hk, rfl, s0, s1, rfl, B, hsw, hsm⟩ := hrel
    have HS := Lib.hid hsm
    have HSZ := Lib.hid hsw
    clear hsm hsw
    by_cases hlt : k < n
    · have hlr : k < rs.length := by rw [HL.out]; exact hlt
      obtain ⟨b, off, rfl, _, _, h3, h4⟩ := (h.out.chg B (.inl hd)).at_ (by omega)
      have hv := h4 k (.slice rs[k].A rs[k].n rs[k].c) (by simp [hlr, Row.val])
      have hwr := (HW.out rs[k] (List.getElem_mem _)).same HS.out
      have hrn := HR.out rs[k] (List.getElem_mem _)
      obtain ⟨r, hre⟩ : ∃ r, r = rs[k] := ⟨_, rfl⟩
      rw [← hre] at hv hwr hrn
      clear h h4 hre
      go_wp2_with fail
      refine (markIntS_w _ _ _ _ _ s _ hwr hrn s0 (by omega)).mono ?_
      rintro e w1 ⟨rfl, b1, m1, z1⟩
      have HB1 := Lib.hid (B.trans b1)
      have HM1 := Lib.hid (HS.out.trans m1)
      have HZ1 := Lib.hid (z1.trans HSZ.out)
      clear b1 m1 z1
      go_wp2
      go_roundw
      case rel => exact ⟨k + 1, s + r.n, by omega, rfl, by omega, by omega, by go_num, HB1.out, HZ1.out, HM1.out⟩
      case measure => simp [intOf]; omega
    · have e : k = n := by omega
      subst e
      clear h
      go_wp2
      go_ret
      exact ⟨s, s0, rfl, B, HS.out, HSZ.out⟩
end Go.Proofs.Ytgcnhojiaaonmaa
