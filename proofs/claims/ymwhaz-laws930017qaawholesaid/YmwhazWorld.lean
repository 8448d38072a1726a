/-
  WHAT A CALL THAT ONLY MAKES NEW BLOCKS LEAVES OF THE WORLD: 'Ext w w'': every old block is as it was, no mark has turned, no block has gone.
-/
import Derived.WalkKit
import Derived.WalkSpells
import Derived.WalkLawsBesides
namespace Go.Proofs.Ymwhaz
open Go.RowKit

structure Ext (w w' : World) : Prop where
  below : Below w.heap.size w w'
  frz : ∀ a, w'.frozen? a = w.frozen? a

theorem Ext.refl (w : World) : Ext w w := ⟨Below.refl _ _, fun _ => rfl⟩
theorem Ext.size {w w' : World} (h : Ext w w') : w.heap.size ≤ w'.heap.size := h.below.size
theorem Ext.trans {a b c : World} (h : Ext a b) (k : Ext b c) : Ext a c :=
  ⟨h.below.trans (k.below.mono h.size), fun x => (k.frz x).trans (h.frz x)⟩
theorem Ext.alloc {w w' : World} (h : Ext w w') (c : Array Value) (t : TypeId) : Ext w (w'.alloc (.cells c t)) :=
  ⟨h.below.alloc h.size _, fun x => (frozen?_alloc_cells _ _ _ x).trans (h.frz x)⟩
theorem Ext.setCell {w w' : World} (h : Ext w w') {a : Addr} (ha : w.heap.size ≤ a.block) (v : Value) : Ext w (w'.setCell a v) :=
  ⟨h.below.setCell ha v, fun x => (World.frozen?_setCell _ _ _ _).trans (h.frz x)⟩
theorem Ext.drew {w w' : World} (h : Ext w w') : Ext w w'.drew := ⟨h.below.drew, h.frz⟩
theorem Ext.drewN {w w' : World} (h : Ext w w') (n : Nat) : Ext w (w'.drewN n) := ⟨below_drewN h.below n, h.frz⟩
theorem Ext.cell {w w' : World} (h : Ext w w') (b o : Nat) (hb : b < w.heap.size) : w'.cell? ⟨b, o, none⟩ = w.cell? ⟨b, o, none⟩ := h.below.cell (p := ⟨b, o, none⟩) hb
theorem Ext.grown {w w' : World} (h : Ext w w') : Grown w w' := ⟨h.below.frame _, h.frz, h.size⟩

end Go.Proofs.Ymwhaz
