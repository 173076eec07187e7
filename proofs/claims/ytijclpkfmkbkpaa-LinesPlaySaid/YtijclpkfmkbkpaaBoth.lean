/-
  The program's lines, the document's lines and one act, each in a block of its own: what each method does to the three.
-/
import Derived.Test.YtijclpkfmkbkpaaRefBits
namespace Go.Proofs.Ytijclpkfmkbkpaa
open Go.RowKit

/-- The program's lines in block p, the document's in block q, both made since w0. -/
def Two (w0 : World) (p q : Nat) (c m d n : Int) (w : World) : Prop := St w0 p c m w ∧ w0.heap.size ≤ q ∧ p ≠ q ∧ w.heap[q]? = some (refOb d n)
/-- The block of one act. -/
def xOb (k l : Int) : Obj := .cells #[.int .u8 k, .int .i64 l] 41
/-- .. and an act in block r. -/
def Tri (w0 : World) (p q r : Nat) (k l : Int) (c m d n : Int) (w : World) : Prop := Two w0 p q c m d n w ∧ r ≠ p ∧ r ≠ q ∧ w.heap[r]? = some (xOb k l)

section
variable {w0 w w' : World} {p q r : Nat} {k l c m d n c' m' : Int}
theorem Only.keeps {x : Nat} {o : Obj} (g : Only p w w') (h : w.heap[x]? = some o) (hne : x ≠ p) : w'.heap[x]? = some o := by
  rw [g.block x (Array.getElem?_eq_some_iff.1 h).1 (fun e => by cases e; exact hne rfl)]; exact h
theorem Below.keeps {x : Nat} {o : Obj} (g : Below w.heap.size w w') (h : w.heap[x]? = some o) : w'.heap[x]? = some o := by
  rw [g.block x (Array.getElem?_eq_some_iff.1 h).1]; exact h

theorem Two.left (h : Two w0 p q c m d n w) (g : Only p w w') (e : w'.heap[p]? = some (ob c' m')) : Two w0 p q c' m' d n w' :=
  ⟨h.1.next g e, h.2.1, h.2.2.1, g.keeps h.2.2.2 (fun e => h.2.2.1 e.symm)⟩
theorem Two.right (h : Two w0 p q c m d n w) (g : Only q w w') (e : w'.heap[q]? = some (refOb c' m')) : Two w0 p q c m c' m' w' :=
  ⟨⟨h.1.1.grown g h.1.1.size (fun _ e => by cases e; exact h.2.1), h.1.2.1, g.keeps h.1.2.2 h.2.2.1⟩, h.2.1, h.2.2.1, e⟩
theorem Two.other (h : Two w0 p q c m d n w) (g : Below w.heap.size w w') : Two w0 p q c m d n w' :=
  ⟨h.1.other g, h.2.1, h.2.2.1, Below.keeps g h.2.2.2⟩
theorem Two.ok (h : Two w0 p q c m d n w) : Okw w0 w := h.1.ok
theorem Tri.left (h : Tri w0 p q r k l c m d n w) (g : Only p w w') (e : w'.heap[p]? = some (ob c' m')) : Tri w0 p q r k l c' m' d n w' :=
  ⟨h.1.left g e, h.2.1, h.2.2.1, g.keeps h.2.2.2 h.2.1⟩
theorem Tri.right (h : Tri w0 p q r k l c m d n w) (g : Only q w w') (e : w'.heap[q]? = some (refOb c' m')) : Tri w0 p q r k l c m c' m' w' :=
  ⟨h.1.right g e, h.2.1, h.2.2.1, g.keeps h.2.2.2 h.2.2.1⟩
theorem Tri.other (h : Tri w0 p q r k l c m d n w) (g : Below w.heap.size w w') : Tri w0 p q r k l c m d n w' :=
  ⟨h.1.other g, h.2.1, h.2.2.1, Below.keeps g h.2.2.2⟩
theorem Tri.drewN (h : Tri w0 p q r k l c m d n w) (i : Nat) : Tri w0 p q r k l c m d n (w.drewN i) := h.other ⟨rfl, rfl, rfl, Nat.le_refl _, fun _ _ => rfl⟩
theorem Tri.drew (h : Tri w0 p q r k l c m d n w) : Tri w0 p q r k l c m d n w.drew := h.drewN 1
theorem Tri.ok (h : Tri w0 p q r k l c m d n w) : Okw w0 w := h.1.ok
theorem Tri.kind (h : Tri w0 p q r k l c m d n w) : w.cell? ⟨r, 0, none⟩ = some (.int .u8 k) := by unfold World.cell?; rw [h.2.2.2]; rfl
theorem Tri.line (h : Tri w0 p q r k l c m d n w) : w.cell? ⟨r, 1, none⟩ = some (.int .i64 l) := by unfold World.cell?; rw [h.2.2.2]; rfl

theorem Tri.two (h : Tri w0 p q r k l c m d n w) : Two w0 p q c m d n w := h.1
theorem Two.tri (h : Two w0 p q c m d n w) : Tri w0 p q w.heap.size k l c m d n (w.alloc (.cells #[.int .u8 k, .int .i64 l] 41)) :=
  ⟨h.other ((Below.refl _ _).alloc (Nat.le_refl _) _), (Nat.ne_of_lt (Array.getElem?_eq_some_iff.1 h.1.2.2).1).symm, (Nat.ne_of_lt (Array.getElem?_eq_some_iff.1 h.2.2.2).1).symm, (MapKept.heap_alloc w _).1⟩

theorem raiseL (h : Tri w0 p q r k l c m d n w) (i : Int) : Calls Try.prog 12 #[.pointer (some ⟨p, 0, none⟩), .int .i64 i] w fun e w' => e = .returned (.int .i64 (erL i)) ∧ Tri w0 p q r k l (rsC c i) m d n w' :=
  (raise_any w p c m i h.1.1.2.2).mono fun _ _ ⟨he, g, e⟩ => ⟨he, h.left g e⟩
theorem raiseR (h : Tri w0 p q r k l c m d n w) (hd : b8 d) (i : Int) : Calls Try.prog 17 #[.pointer (some ⟨q, 0, none⟩), .int .i64 i] w fun e w' => e = .returned (.int .i64 (erL i)) ∧ Tri w0 p q r k l c m (rsC d i) n w' :=
  (refRaise_any w q d n i hd h.1.2.2.2).mono fun _ _ ⟨he, g, e⟩ => ⟨he, h.right g e⟩
theorem maskL (h : Tri w0 p q r k l c m d n w) (i : Int) (on : Bool) : Calls Try.prog 13 #[.pointer (some ⟨p, 0, none⟩), .int .i64 i, .bool on] w fun e w' => e = .returned (.int .i64 (erL i)) ∧ Tri w0 p q r k l c (mkM m i on) d n w' :=
  (mask_any w p c m i on h.1.1.2.2).mono fun _ _ ⟨he, g, e⟩ => ⟨he, h.left g e⟩
theorem maskR (h : Tri w0 p q r k l c m d n w) (hn : b8 n) (i : Int) (on : Bool) : Calls Try.prog 18 #[.pointer (some ⟨q, 0, none⟩), .int .i64 i, .bool on] w fun e w' => e = .returned (.int .i64 (erL i)) ∧ Tri w0 p q r k l c m d (mkM n i on) w' :=
  (refMask_any w q d n i on hn h.1.2.2.2).mono fun _ _ ⟨he, g, e⟩ => ⟨he, h.right g e⟩
theorem nextL (h : Tri w0 p q r k l c m d n w) : Calls Try.prog 11 #[.pointer (some ⟨p, 0, none⟩)] w fun e w' => e = .returned (.tuple #[.int .i64 (nxL c m), .int .i64 (nxE c m)]) ∧ Tri w0 p q r k l (nxC c m) m d n w' :=
  (next_any w p c m h.1.1.2.2).mono fun _ _ ⟨he, g, e⟩ => ⟨he, h.left g e⟩
theorem nextR (h : Tri w0 p q r k l c m d n w) (hd : b8 d) (hn : b8 n) : Calls Try.prog 19 #[.pointer (some ⟨q, 0, none⟩)] w fun e w' => e = .returned (.tuple #[.int .i64 (nxL d n), .int .i64 (nxE d n)]) ∧ Tri w0 p q r k l c m (nxC d n) n w' :=
  (refNext_any w q d n hd hn h.1.2.2.2).mono fun _ _ ⟨he, g, e⟩ => ⟨he, h.right g e⟩
theorem callsL (h : Two w0 p q c m d n w) : Calls Try.prog 14 #[.pointer (some ⟨p, 0, none⟩)] w fun e w' => e = .returned (.int .u8 c) ∧ w = w' := calls_any w p c m h.1.2.2
theorem masksL (h : Two w0 p q c m d n w) : Calls Try.prog 15 #[.pointer (some ⟨p, 0, none⟩)] w fun e w' => e = .returned (.int .u8 m) ∧ w = w' := masks_any w p c m h.1.2.2
theorem callsR (h : Two w0 p q c m d n w) (hd : b8 d) : Calls Try.prog 20 #[.pointer (some ⟨q, 0, none⟩)] w fun e w' => e = .returned (.int .u8 d) ∧ Two w0 p q c m d n w' :=
  (refCalls_any w q d n hd h.2.2.2).mono fun _ _ ⟨he, g⟩ => ⟨he, h.other g⟩
theorem masksR (h : Two w0 p q c m d n w) (hn : b8 n) : Calls Try.prog 21 #[.pointer (some ⟨q, 0, none⟩)] w fun e w' => e = .returned (.int .u8 n) ∧ Two w0 p q c m d n w' :=
  (refMasks_any w q d n hn h.2.2.2).mono fun _ _ ⟨he, g⟩ => ⟨he, h.other g⟩

theorem refOb_zero : refOb 0 0 = .cells #[.bool false, .bool false, .bool false, .bool false, .bool false, .bool false, .bool false, .bool false, .bool false, .bool false, .bool false, .bool false, .bool false, .bool false, .bool false, .bool false] 39 := by
  unfold refOb; simp only [tb_zero]

theorem St.two (h : St w0 p c m w) : Two w0 p w.heap.size c m 0 0 (w.alloc (refOb 0 0)) :=
  ⟨h.other ((Below.refl _ _).alloc (Nat.le_refl _) _), h.1.size, Nat.ne_of_lt (Array.getElem?_eq_some_iff.1 h.2.2).1, (MapKept.heap_alloc w _).1⟩

theorem b8_rsC (hc : b8 c) (i : Int) : b8 (rsC c i) := by unfold rsC; split <;> first | exact b8_setB _ _ | exact hc
theorem b8_mkM (hm : b8 m) (i : Int) (on : Bool) : b8 (mkM m i on) := by
  unfold mkM; split
  · cases on
    · exact b8_clrB _ _
    · exact b8_setB _ _
  · exact hm
theorem b8_nxC (hc : b8 c) : b8 (nxC c m) := by unfold nxC; split <;> first | exact b8_clrB _ _ | exact hc
end
end Go.Proofs.Ytijclpkfmkbkpaa
