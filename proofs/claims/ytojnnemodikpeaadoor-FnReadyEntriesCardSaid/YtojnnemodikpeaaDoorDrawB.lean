/-
  The random source opened: l11Open.
-/
import Derived.Test.YtojnnemodikpeaaDoorDraw
import Derived.Deep.RegionWith
import Derived.Deep.RegionHeld3
namespace Go.Proofs.YtojnnemodikpeaaDoor
open Go.RowKit
set_option linter.unusedVariables false
/-- What came in as bytes: nil, or a row of cells that are bytes. -/
structure Code (w : World) (A : Option Addr) (n c : Nat) : Prop where
  le : n ≤ c
  cap : c ≤ maxLen
  at_ : 0 < n → ∃ b off, A = some ⟨b, off, none⟩ ∧ b < w.heap.size ∧ ∀ j, j < n → ∃ v : Int, w.cell? ⟨b, off + j, none⟩ = some (.int .u8 v) ∧ 0 ≤ v ∧ v ≤ 255
theorem Rd.drew {w : World} {g n c q : Nat} {A : Option Addr} (h : Rd w g A n c q) : Rd w.drew g A n c q := h.keep fun _ _ => rfl
theorem gb_drew {a w : World} {row : Option Nat} (h : a.grownBy w row) : a.grownBy w.drew row := ⟨h.os, h.tape, h.output, h.size, h.block⟩
theorem gb_frozen {w w' : World} {g b o : Nat} (h : w.grownBy w' (some g)) (hb : b < w.heap.size) (hne : b ≠ g) : w'.frozen? ⟨b, o, none⟩ = w.frozen? ⟨b, o, none⟩ :=
  World.frozen?_of_block (h.block b hb (by simp; exact hne))
theorem cut_world {P : Program} {c : Go.Code} {Q : Exit → Act → World → Prop} {a : Act} {w : World} (F : World → Prop) (hF : F w) (h : ∀ W, F W → c.wp P Q a W) : c.wp P Q a w := h w hF
def Opened (w : World) (e : Ending) (w' : World) : Prop := ∃ g A n c, e = .returned (.pointer (some ⟨g, 0, none⟩)) ∧ Rd w' g A n c 0 ∧ Below w.heap.size w w' ∧ w.heap.size ≤ g
theorem bytes_alloc {w : World} {A : Option Addr} {n c m : Nat} (h : Code w A n c) (hm : m ≤ n) (hm2 : m ≤ 2000) (o : Obj) : Bytes (w.alloc o) w.heap.size A m :=
  ⟨hm2, fun h0 => by
    obtain ⟨b, off, e, hb, hj⟩ := h.at_ (by omega)
    refine ⟨b, off, e, hb, fun j hjm => ?_⟩
    obtain ⟨v, hv, h1⟩ := hj j (by omega)
    exact ⟨v, (World.cell?_alloc_lt w o _ hb).trans hv, h1⟩⟩
theorem Code.alloc {w : World} {A : Option Addr} {n c : Nat} (h : Code w A n c) (o : Obj) : Code (w.alloc o) A n c :=
  ⟨h.le, h.cap, fun h0 => by
    obtain ⟨b, off, e, hb, hj⟩ := h.at_ h0
    refine ⟨b, off, e, by simp; omega, fun j hjm => ?_⟩
    obtain ⟨v, hv, h1⟩ := hj j hjm
    exact ⟨v, (World.cell?_alloc_lt w o _ hb).trans hv, h1⟩⟩
set_option maxHeartbeats 2000000 in
theorem open_any (A : Option Addr) (n c : Nat) (w : World) (h : Code w A n c) : Calls Tryd.prog 68 #[.slice A n c] w (Opened w) := by
  have hl := h.le
  have hcm := h.cap
  unfold maxLen at hcm
  by_cases hn : 2000 < n
  · obtain ⟨b, off, rfl, hb, hj⟩ := h.at_ (by omega)
    clear hj
    go_enter Tryd.func68, Tryd.ntmps68
    go_wp2
    go_ret
    exact ⟨_, _, 2000, c, rfl, ⟨0, by omega, heap_alloc_new _ _, bytes_alloc h (by omega) (by omega) _, by omega⟩, below_al (Below.refl _ _) _, Nat.le_refl _⟩
  · go_enter Tryd.func68, Tryd.ntmps68
    go_wp2
    go_ret
    exact ⟨_, A, n, c, rfl, ⟨0, by omega, heap_alloc_new _ _, bytes_alloc h (by omega) (by omega) _, by omega⟩, below_al (Below.refl _ _) _, Nat.le_refl _⟩
end Go.Proofs.YtojnnemodikpeaaDoor
