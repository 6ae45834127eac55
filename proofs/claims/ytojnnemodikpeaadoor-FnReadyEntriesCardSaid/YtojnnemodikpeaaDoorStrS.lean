/-
  Slices of texts: compared, marked, held.
-/
import Derived.Test.YtojnnemodikpeaaDoorOwnV
import Derived.Test.YtojnnemodikpeaaDoorText
import Derived.Deep.RegionHeld3
namespace Go.Proofs.YtojnnemodikpeaaDoor
open Go.RowKit
set_option linter.unusedVariables false
def txt (l : List UInt8) : Value := .string ⟨l.toArray⟩
def txts (ss : List (List UInt8)) : List Value := ss.map txt
theorem txts_get {ss : List (List UInt8)} {k : Nat} {l : List UInt8} (h : ss[k]? = some l) : (txts ss)[k]? = some (.string ⟨l.toArray⟩) := by simp [txts, h, txt]
theorem txts_len (ss : List (List UInt8)) : (txts ss).length = ss.length := by simp [txts]
theorem Slc.txtLen {w : World} {lo hi n c : Nat} {A : Option Addr} {ss : List (List UInt8)} (h : Slc w lo hi 1 A n c (txts ss)) : ss.length = n := by
  have := h.len; rw [txts_len] at this; omega
theorem Slc.txtAt {w : World} {lo hi n c : Nat} {A : Option Addr} {ss : List (List UInt8)} (h : Slc w lo hi 1 A n c (txts ss)) {k : Nat} (hk : k < n) :
    ∃ b off l, A = some ⟨b, off, none⟩ ∧ lo ≤ b ∧ b < hi ∧ b < w.heap.size ∧ ss[k]? = some l ∧ w.cell? ⟨b, off + k, none⟩ = some (.string ⟨l.toArray⟩) := by
  obtain ⟨b, off, e, h1, h2, h3, h4⟩ := h.at_ (by omega)
  have hl : k < ss.length := by rw [h.txtLen]; exact hk
  exact ⟨b, off, ss[k], e, h1, h2, h3, List.getElem?_eq_getElem hl, h4 k _ (txts_get (List.getElem?_eq_getElem hl))⟩
theorem toList_mk (l : List UInt8) : (⟨l.toArray⟩ : ByteArray).toList = l := by rw [ByteArray.toList_eq]
set_option maxHeartbeats 1000000 in
theorem eqStringS_any (lo hi n c lo' hi' n' c' : Nat) (A A' : Option Addr) (xs ys : List (List UInt8)) (w : World) (h : Slc w lo hi 1 A n c (txts xs)) (h' : Slc w lo' hi' 1 A' n' c' (txts ys)) (hn : n ≤ 1048576) (hn' : n' ≤ 1048576) :
    Calls Tryd.prog 37 #[.slice A n c, .slice A' n' c'] w (SaysB w (xs == ys)) := by
  have hl := Lib.hid h.txtLen
  have hl' := Lib.hid h'.txtLen
  by_cases hne : n = n'
  · subst hne
    go_enter Tryd.func37, Tryd.ntmps37
    go_wp2
    go_loopw [5] (fun i wr => ∃ k : Nat, k ≤ n ∧ i = .int .i64 k ∧ (∃ m, wr = w.drewN m) ∧ ∀ j, j < k → xs[j]? = ys[j]?) (fun i _ => n - (intOf i).toNat)
    case atStart => exact ⟨0, Nat.zero_le _, rfl, ⟨0, rfl⟩, fun j hj => absurd hj (by omega)⟩
    case round =>
      obtain ⟨k, hk, rfl, ⟨m, rfl⟩, hcs⟩ := hrel
      have HC := Lib.hid hcs
      clear hcs
      by_cases hlt : k < n
      · obtain ⟨b, off, v, rfl, _, _, h3, hxk, hv⟩ := h.txtAt hlt
        obtain ⟨b', off', v', rfl, _, _, h3', hxk', hv'⟩ := h'.txtAt hlt
        have HX := Lib.hid hxk
        have HX' := Lib.hid hxk'
        clear hxk hxk' h h'
        have i0 : (0 : Int) ≤ (k : Int) := by omega
        have i1 : (k : Int) < (n : Int) := by omega
        obtain ⟨t, ht⟩ : ∃ t, t = (v == v') := ⟨_, rfl⟩
        have hb : (v == v') = t := ht.symm
        have HT := Lib.hid ht
        clear ht
        cases t
        · go_wp2
          go_quiet (fail)
          go_wp2
          go_ret
          exact ⟨ret_bool (by
            symm; rw [beq_eq_false_iff_ne]; intro e; subst e
            have := HX.out.symm.trans HX'.out
            injection this with this
            subst this
            simpa using HT.out), _, by first | rfl | exact World.drewN_drewN _ _ _⟩
        · go_wp2
          go_quiet (fail)
          go_wp2
          go_roundw
          case rel => exact ⟨k + 1, by omega, by go_num, ⟨_, rfl⟩, fun j hj => by
            by_cases e : j = k
            · subst e; rw [HX.out, HX'.out, eq_of_beq HT.out.symm]
            · exact HC.out j (by omega)⟩
          case measure => simp [intOf]; omega
      · have e : k = n := by omega
        subst e
        clear h h'
        go_wp2
        go_ret
        exact ⟨ret_bool (by
          symm; rw [beq_iff_eq]; apply List.ext_getElem?; intro j
          rcases Nat.lt_or_ge j k with hj | hj
          · exact HC.out j hj
          · rw [List.getElem?_eq_none (by rw [hl.out]; exact hj), List.getElem?_eq_none (by rw [hl'.out]; exact hj)]), _, rfl⟩
  · have hq : ((n : Int) != (n' : Int)) = true := by rw [bne_iff_ne]; omega
    clear h h'
    have HN := Lib.hid hne
    clear hne
    go_enter Tryd.func37, Tryd.ntmps37
    go_wp2
    go_ret
    exact ⟨ret_bool (by symm; rw [beq_eq_false_iff_ne]; intro e; exact HN.out (by rw [← hl.out, ← hl'.out, e])), 0, rfl⟩
theorem held1_below {w W W' : World} {a0 : Addr} {v0 : Value} (hb : Below W.heap.size W W') (h : W.cell? a0 = some v0 ∧ Below w.heap.size w W) : W'.cell? a0 = some v0 ∧ Below w.heap.size w W' :=
  ⟨(World.cell?_of_block (hb.block _ (World.block_lt_of_cell? W _ h.1))).trans h.1, below_step h.2 hb⟩
theorem held1_drew {w W : World} {a0 : Addr} {v0 : Value} (h : W.cell? a0 = some v0 ∧ Below w.heap.size w W) : W.drew.cell? a0 = some v0 ∧ Below w.heap.size w W.drew :=
  ⟨h.1, ⟨h.2.os, h.2.tape, h.2.output, h.2.size, h.2.block⟩⟩
/-- The texts of the marks from k on, n of them. -/
def markL (k : Nat) : List UInt8 := 109 :: (if k = 0 then [48] else Lib.decDigits k)
theorem markT_eq (k : Nat) : markT k = ⟨(markL k).toArray⟩ := rfl
def marksT (k n : Nat) : List (List UInt8) := (List.range n).map fun j => markL (k + j)
theorem marksT_get {k n j : Nat} (h : j < n) : (marksT k n)[j]? = some (markL (k + j)) := by simp [marksT, h]
set_option maxHeartbeats 2000000 in
set_option maxRecDepth 20000 in
theorem markStringS_any (lo hi n c : Nat) (A : Option Addr) (xs : List Value) (k0 : Nat) (w : World) (h : OwnV 9 1 w lo hi A n c xs) (hn : n ≤ 1048576) (hk0 : k0 ≤ 10000000) :
    Calls Tryd.prog 38 #[.slice A n c, .int .i64 k0] w fun e w' => e = .returned (.int .i64 ((k0 + n : Nat) : Int)) ∧ Slc w' lo hi 1 A n c (txts (marksT k0 n)) ∧ Chg lo hi w w' := by
  by_cases hn0 : n = 0
  · subst hn0
    have H := Lib.hid h
    clear h
    go_enter Tryd.func38, Tryd.ntmps38
    go_wp2
    go_loopw [1, 5] (fun q i wr => q = .int .i64 k0 ∧ i = .int .i64 0 ∧ wr = w) (fun _ _ _ => 0)
    case atStart => exact ⟨rfl, rfl, rfl⟩
    case round =>
      obtain ⟨rfl, rfl, rfl⟩ := hrel
      go_wp2
      go_ret
      exact ⟨rfl, ⟨by simp [marksT, txts], H.out.slc.le, H.out.slc.cap, fun h => absurd h (by omega)⟩, Chg.refl _ _ _⟩
  · obtain ⟨b, cs0, rfl, hb0, hc0⟩ := h.blk (by omega)
    obtain ⟨b', off', he, hlo, hhi, hlt, _⟩ := h.slc.at_ (by omega)
    have HLE := Lib.hid (And.intro h.slc.le h.slc.cap)
    simp only [Option.some.injEq, Addr.mk.injEq, and_true] at he
    obtain ⟨rfl, rfl⟩ := he
    clear h
    have HB0 := Lib.hid hb0
    have HC0 := Lib.hid hc0
    clear hb0 hc0
    go_enter Tryd.func38, Tryd.ntmps38
    go_wp2
    go_loopw [1, 5] (fun q i wr => ∃ k : Nat, k ≤ n ∧ q = .int .i64 ((k0 + k : Nat) : Int) ∧ i = .int .i64 k ∧ Chg lo hi w wr ∧ ∃ cs : Array Value, wr.heap[b]? = some (.cells cs 9) ∧ n * 1 ≤ cs.size ∧ ∀ j, j < k → cs[j]? = (txts (marksT k0 n))[j]?) (fun _ i _ => n - (intOf i).toNat)
    case atStart => exact ⟨0, Nat.zero_le _, rfl, rfl, Chg.refl _ _ _, cs0, HB0.out, HC0.out, fun j hj => absurd hj (by omega)⟩
    case round =>
      obtain ⟨k, hk, rfl, rfl, C, cs, hb, hcs, hcj⟩ := hrel
      have HCJ := Lib.hid hcj
      clear hcj
      by_cases hltk : k < n
      · have HCS := Lib.hid hcs
        clear hcs
        go_wp2_with fail
        refine (markText_any (k0 + k) (by omega) _).mono ?_
        rintro e w1 ⟨rfl, b1⟩
        obtain ⟨hb1, z1⟩ := blk_below b1 hb
        have C1 := C.trans (Chg.of_below b1)
        have e0 := blk_cell hb1 k
        have hf := blk_frozen' hb1
        rw [Array.getElem?_eq_getElem (by have := HCS.out; omega)] at e0
        have HB1 := Lib.hid hb1
        clear hb1 b1 hb C
        obtain ⟨q, hq⟩ : ∃ q, q = k0 + k := ⟨_, rfl⟩
        rw [← hq]
        have hql : q ≤ 20000000 := by omega
        have HQ := Lib.hid hq
        clear hq
        go_wp2
        go_roundw
        case rel => exact ⟨k + 1, by omega, by rw [show k0 + (k + 1) = q + 1 by have := HQ.out; omega]; go_num, by go_num, C1.setCell hlo hhi _, cs.setIfInBounds k (.string (markT q)), blk_setCell HB1.out _, by simp; have := HCS.out; omega, fun j hj => by
          by_cases e : j = k
          · subst e
            rw [Array.getElem?_setIfInBounds_self_of_lt (by have := HCS.out; omega), txts_get (marksT_get hltk), markT_eq, HQ.out]
          · rw [Array.getElem?_setIfInBounds_ne (by omega)]; exact HCJ.out j (by omega)⟩
        case measure => simp [intOf]; omega
      · have e : k = n := by omega
        subst e
        have HB := Lib.hid hb
        have hz := blk_lt hb
        clear hb
        go_wp2
        go_ret
        exact ⟨rfl, ⟨by simp [txts, marksT], HLE.out.1, HLE.out.2, fun h0 => ⟨b, 0, rfl, hlo, hhi, hz, fun j v hv => by
          have hj : j < k := by
            rcases Nat.lt_or_ge j k with h | h
            · exact h
            · rw [List.getElem?_eq_none (by simp [txts, marksT]; exact h)] at hv; cases hv
          rw [Nat.zero_add, blk_cell HB.out, HCJ.out j hj, hv]⟩⟩, C⟩
set_option maxHeartbeats 2000000 in
set_option maxRecDepth 20000 in
theorem heldStringS_any (lo hi n c : Nat) (A : Option Addr) (k0 : Nat) (w : World) (h : Slc w lo hi 1 A n c (txts (marksT k0 n))) (hn : n ≤ 1048576) (hk0 : k0 ≤ 10000000) :
    Calls Tryd.prog 39 #[.slice A n c, .int .i64 k0] w fun e w' => e = .returned (.int .i64 ((k0 + n : Nat) : Int)) ∧ Below w.heap.size w w' := by
  go_enter Tryd.func39, Tryd.ntmps39
  go_wp2
  go_loopw [1, 5] (fun q i wr => ∃ k : Nat, k ≤ n ∧ q = .int .i64 ((k0 + k : Nat) : Int) ∧ i = .int .i64 k ∧ Below w.heap.size w wr) (fun _ i _ => n - (intOf i).toNat)
  case atStart => exact ⟨0, Nat.zero_le _, by simp, rfl, Below.refl _ _⟩
  case round =>
    obtain ⟨k, hk, rfl, rfl, B⟩ := hrel
    by_cases hlt : k < n
    · obtain ⟨b, off, v, hA, _, _, h3, hxk, hv⟩ := (h.below B).txtAt hlt
      subst hA
      rw [marksT_get hlt] at hxk
      injection hxk with hxk
      subst hxk
      have i0 : (0 : Int) ≤ (k : Int) := by omega
      have i1 : (k : Int) < (n : Int) := by omega
      clear h
      obtain ⟨q, hq⟩ : ∃ q, q = k0 + k := ⟨_, rfl⟩
      rw [← hq] at hv ⊢
      have hql : q ≤ 20000000 := by omega
      have HQ := Lib.hid hq
      clear hq
      rw [← markT_eq] at hv
      have S0 := And.intro hv B
      clear hv B h3
      go_wp2_with fail
      go_region_held3 (fun W => W.cell? ⟨b, off + k, none⟩ = some (.string (markT q)) ∧ Below w.heap.size w W)
        (first | exact held1_drew S0 | exact held1_below (by assumption) (by assumption))
        (first | (go_at_call 66; refine (markText_any q (by omega) _).mono ?_; rintro x w2 ⟨rfl, b2⟩))
      have S2 : Below w.heap.size w w2 := by
        have S1 : w2.cell? ⟨b, off + k, none⟩ = some (.string (markT q)) ∧ Below w.heap.size w w2 := by assumption
        exact S1.2
      clear S0
      go_wp2
      go_roundw
      case rel => exact ⟨k + 1, by omega, by rw [show k0 + (k + 1) = q + 1 by have := HQ.out; omega]; go_num, by go_num, S2⟩
      case measure => simp [intOf]; omega
    · have e : k = n := by omega
      subst e
      clear h
      go_wp2
      go_ret
      exact ⟨rfl, B⟩
end Go.Proofs.YtojnnemodikpeaaDoor
