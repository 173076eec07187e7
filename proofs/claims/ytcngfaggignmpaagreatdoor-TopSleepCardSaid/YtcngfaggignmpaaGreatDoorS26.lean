/-
  The top, part 26: Split, Chk, CoreNew.
-/
import Derived.Test.YtcngfaggignmpaaGreatDoorS23
import Derived.Test.YtcngfaggignmpaaGreatDoorS25
import Derived.Laws.EntriesVeiled
import Derived.Laws.BitsAllLaws

/-
  Instructions: an instruction's fields.
-/
namespace Go.Proofs.YtcngfaggignmpaaGreatDoor
open Go.RowKit Go.ChangeMaps

/-- A field's bytes, its least number, and the one above its most, by its sign. -/
def kb (c : Nat) : Nat := if c = 110 then 2 else 1
def klo (c : Nat) : Int := if c = 119 then 1 else 0
def khi (c : Nat) : Int := if c = 114 then 8 else if c = 110 then 65536 else if c = 119 then 21 else 256
def Sign (c : Nat) : Prop := c = 114 ∨ c = 110 ∨ c = 98 ∨ c = 119 ∨ c = 115
theorem look_kind {mp a1 a2 a3 a4 a5 : Nat} {W : World} (h : Kinds mp a1 a2 a3 a4 a5 W) {c : Nat} (hc : Sign c) :
    ∃ a f g, (Instr.lookup 330 (.map (some mp)) (.int .i32 (c : Nat)) false).run Tryz.prog W = .ok (kindV (kb c) a f g) W ∧ Bounds a (klo c) (khi c) W := by
  obtain ⟨h0, h1, h2, h3, h4, h5⟩ := h
  rcases hc with rfl | rfl | rfl | rfl | rfl
  · exact ⟨a1, 213, 215, run_look1 Tryz.underlying330 Tryz.underlying21 W mp _ 5 114 0 _ h0 rfl, h1⟩
  · exact ⟨a2, 214, 217, run_look1 Tryz.underlying330 Tryz.underlying21 W mp _ 5 110 1 _ h0 rfl, h2⟩
  · exact ⟨a3, 214, 217, run_look1 Tryz.underlying330 Tryz.underlying21 W mp _ 5 98 2 _ h0 rfl, h3⟩
  · exact ⟨a4, 214, 217, run_look1 Tryz.underlying330 Tryz.underlying21 W mp _ 5 119 3 _ h0 rfl, h4⟩
  · exact ⟨a5, 218, 219, run_look1 Tryz.underlying330 Tryz.underlying21 W mp _ 5 115 4 _ h0 rfl, h5⟩

/-- The number that some bytes make. -/
def valB : List Nat → Nat
  | [] => 0
  | [x] => x
  | x :: y :: _ => x * 256 + y
/-- Bytes fit fields. -/
def OkB : List Nat → List Nat → Prop
  | [], bs => ∀ b ∈ bs, b = 0
  | c :: cs, bs => Sign c ∧ kb c ≤ bs.length ∧ klo c ≤ (valB (bs.take (kb c)) : Int) ∧ (valB (bs.take (kb c)) : Int) < khi c ∧ OkB cs (bs.drop (kb c))

section
variable {P : Program}
/-- The next letter of a string that is ranged over, wherever the iterator lies. -/
theorem next_str (w : World) (r : Nat) (s : ByteArray) (pos : Nat) (ty : TypeId) (hr : w.heap[r]? = some (.stringIter s pos)) (h : pos < s.size) (ha : (s[pos]'h).toNat < 128) :
    (Instr.next (.pointer (some ⟨r, 0, none⟩)) true ty).run P w = .ok (.tuple #[.bool true, .int .i64 pos, .int .i32 (s[pos]'h).toNat]) (setBlock w r (.stringIter s (pos + 1))) := by
  simp only [Instr.next, getObj, setObj, Sem.run_bind, Sem.run, hr, Result.andThen, h, if_true, decode_ascii s pos h ha]
  simp [goInt, setBlock]
theorem next_strEnd (w : World) (r : Nat) (s : ByteArray) (pos : Nat) (ty : TypeId) (hr : w.heap[r]? = some (.stringIter s pos)) (h : ¬ pos < s.size) :
    (Instr.next (.pointer (some ⟨r, 0, none⟩)) true ty).run P w = .ok (.tuple #[.bool false]) w := by
  simp [Instr.next, getObj, Sem.run, hr, h]
theorem cell_iter {w : World} {a : Addr} {v : Value} {s : ByteArray} {n : Nat} (h : w.cell? a = some v) : (w.iter s n).cell? a = some v := by
  unfold World.iter
  rw [World.cell?_alloc_lt _ _ _ (World.block_lt_of_cell? w _ h)]
  exact h
theorem setBlock_at {w : World} {r : Nat} {o o' : Obj} (hr : w.heap[r]? = some o') : (setBlock w r o).heap[r]? = some o := by
  have := lt_of_blk hr
  simp [setBlock, this]
theorem setBlock_ch (w : World) (r : Nat) (o : Obj) : Ch (fun k => k = r) w (setBlock w r o) :=
  ⟨rfl, rfl, rfl, by simp [setBlock], fun k _ hn => by simp [setBlock, Ne.symm hn]⟩
end

/-- What is left of three bytes, as a slice. -/
def RestV (rb : Nat) (xs : List Nat) (v : Value) (bs : List Nat) : Prop := (∃ o, o + bs.length = 3 ∧ bs = xs.drop o ∧ v = .slice (some ⟨rb, o, none⟩) bs.length bs.length) ∨ (bs = [] ∧ ∃ a, v = .slice a 0 0)
/-- The state of the loop over the fields. -/
def SplitR (xa xb xc rb IT : Nat) (s : ByteArray) (fs : List Nat) (W : World) (l rest : Value) (wr : World) : Prop :=
  ∃ (k : Nat) (bs : List Nat), k ≤ fs.length ∧ OkB (fs.drop k) bs ∧ RestV rb [xa, xb, xc] rest bs ∧ wr.heap[IT]? = some (.stringIter s k) ∧ (∃ nn xs, nn ≤ k ∧ wr.ownsRow (IT + 1) 3 1 l nn xs) ∧ Ch (fun j => j = IT) W wr
theorem Kinds.keeps {mp a1 a2 a3 a4 a5 : Nat} {w w' : World} {S : Nat → Prop} (h : Kinds mp a1 a2 a3 a4 a5 w) (g : Ch S w w') (hS : ∀ k, k < w.heap.size → ¬ S k) : Kinds mp a1 a2 a3 a4 a5 w' := by
  obtain ⟨h0, h1, h2, h3, h4, h5⟩ := h
  have b : ∀ {a lo hi}, Bounds a lo hi w → Bounds a lo hi w' := fun x => x.keeps g (hS _ x.1.lt) (hS _ x.2.lt)
  exact ⟨g.keeps h0 (hS _ (lt_of_blk h0)), b h1, b h2, b h3, b h4, b h5⟩
theorem kb_or (c : Nat) : kb c = 1 ∨ kb c = 2 := by unfold kb; split <;> simp
theorem or_bytes (p x : Nat) (hp : p < 65536) (hx : x < 256) : bits .or .i64 (wrap64 ((p : Int) * 256)) (wrap64 (x : Int)) = ((p * 256 + x : Nat) : Int) := by
  have e1 : wrap64 ((p : Int) * 256) = ((p * 256 : Nat) : Int) := by unfold wrap64; omega
  have e2 : wrap64 (x : Int) = (x : Int) := by unfold wrap64; omega
  have e3 : p * 256 ||| x = p * 256 + x := by
    have := Nat.shiftLeft_add_eq_or_of_lt (show x < 2 ^ 8 by omega) p
    rw [Nat.shiftLeft_eq] at this
    exact this.symm
  rw [e1, e2]
  show IntKind.i64.wrap ((BitVec.ofInt 64 ((p * 256 : Nat) : Int) ||| BitVec.ofInt 64 (x : Int)).toNat : Int) = _
  rw [BitVec.toNat_or, ofInt_u64 _ (by omega), ofInt_u64 x (by omega), IntKind.wrap_i64, e3]
  omega
theorem or_bytes' (p x : Nat) (hp : p < 65536) (hx : x < 256) : bits .or .i64 ((p : Int) * 256) (wrap64 (x : Int)) = ((p * 256 + x : Nat) : Int) := by
  have e1 : wrap64 ((p : Int) * 256) = (p : Int) * 256 := by unfold wrap64; omega
  rw [← or_bytes p x hp hx, e1]
theorem or_bytes2 (p x : Nat) (hp : p < 65536) (hx : x < 256) : bits .or .i64 ((p : Int) * 256) (x : Int) = ((p * 256 + x : Nat) : Int) := by
  have e2 : wrap64 (x : Int) = (x : Int) := by unfold wrap64; omega
  rw [← or_bytes' p x hp hx, e2]
theorem rest_cut (rb o L K : Nat) (hKL : K ≤ L) (W : World) : (Instr.sliceAt 22 (.slice (some ⟨rb, o, none⟩) L L) (some (.int .i64 (K : Int))) none none).run Tryz.prog W = .ok (.slice (some (if L = K then ⟨rb, o, none⟩ else ⟨rb, o + K, none⟩)) (L - K) (L - K)) W := by
  have h1 : (0 : Int) ≤ (K : Int) := by omega
  have h2 : (K : Int) ≤ (L : Nat) := by omega
  simp [go_sem, Tryz.underlying22, h1, h2]
  by_cases e : L = K
  · simp [e]
  · simp [e]
theorem val_next {bs : List Nat} {j x : Nat} (h : bs[j]? = some x) (hj : j < 2) : valB (bs.take (j + 1)) = valB (bs.take j) * 256 + x := by
  match bs, j, h, hj with
  | [], j, h, _ => simp at h
  | y :: _, 0, h, _ => simp at h; subst h; simp [valB]
  | [y], 1, h, _ => simp at h
  | y :: z :: _, 1, h, _ => simp at h; subst h; simp [valB]
  | _, j + 2, _, hj => omega
theorem val_lt {bs : List Nat} (hb : ∀ b ∈ bs, b < 256) {j : Nat} (hj : j < 2) : valB (bs.take j) < 256 := by
  match bs, j, hj with
  | [], j, _ => simp [valB]
  | y :: _, 0, _ => simp [valB]
  | y :: _, 1, _ => simp [valB]; exact hb y (by simp)
  | _, j + 2, hj => omega
theorem field333 (a b : ByteArray) (W : World) : (Instr.field 333 (.agg #[.string a, .string b]) 1).run Tryz.prog W = .ok (.string b) W := by kernel_rfl
set_option maxRecDepth 100000 in
set_option maxHeartbeats 2000000 in
theorem split_any (w : World) (x : IN) (wd s : ByteArray) (fs : List Nat) (ho : x.op ≤ 22) (ha : x.a < 256 ∧ x.b < 256 ∧ x.c < 256)
    (hform : ∀ W, (Instr.index 334 (.agg formArr) (.int .u8 x.op)).run Tryz.prog W = .ok (.agg #[.string wd, .string s]) W)
    (hs : s.size = fs.length) (hfl : fs.length ≤ 3) (hc : ∀ j (h : j < s.size), fs[j]? = some (s[j]'h).toNat ∧ (s[j]'h).toNat < 128) (hok : OkB fs [x.a, x.b, x.c]) :
    Calls Tryz.prog 151 #[inV x] w fun e w' => (∃ v, e = .returned (.tuple #[v, .bool true])) ∧ Ch No w w' := by
  obtain ⟨i0, hi, hz0, hz1, hz2⟩ := info_parts info3
  obtain ⟨op, xa, xb, xc⟩ := x
  dsimp only at ho ha hform hok
  have d1 : decide ((22 : Int) < (op : Int)) = false := by rw [decide_eq_false_iff_not]; omega
  have HF := Lib.hid hform
  have HS := Lib.hid hs
  have HC := Lib.hid hc
  have HOK := Lib.hid hok
  clear hform hs hc hok
  unfold inV
  have r0 : Row w.heap.size 49 #[.int .u8 op, .int .u8 xa, .int .u8 xb, .int .u8 xc] (w.alloc (.cells #[.int .u8 op, .int .u8 xa, .int .u8 xb, .int .u8 xc] 49)) := Row.new w 49 _
  have hC0 : Ch No w (w.alloc (.cells #[.int .u8 op, .int .u8 xa, .int .u8 xb, .int .u8 xc] 49)) := Ch.alloc w _
  have R0 := Lib.hid r0
  have HC0 := Lib.hid hC0
  clear r0 hC0
  go_enter Tryz.func151, Tryz.ntmps151
  go_wp2_with fail
  refine (kinds_any _).mono ?_; rintro e w1 ⟨mp, a1, a2, a3, a4, a5, rfl, hk, hch⟩
  have r1 := R0.out.keeps hch (fun x => x)
  have q0 := r1.cell (j := 0) rfl
  have q1 := r1.cell (j := 1) rfl
  have q2 := r1.cell (j := 2) rfl
  have q3 := r1.cell (j := 3) rfl
  have HK := Lib.hid hk
  have HC1 := Lib.hid (HC0.out.trans hch)
  have R1 := Lib.hid r1
  clear hk hch r1 R0
  go_wp2_with fail
  have rb := Row.new w1 5 #[.int .u8 xa, .int .u8 xb, .int .u8 xc]
  obtain ⟨W1, hW1⟩ : ∃ W, W = w1.alloc (.cells #[.int .u8 xa, .int .u8 xb, .int .u8 xc] 5) := ⟨_, rfl⟩
  have g1 : Ch No w1 W1 := by rw [hW1]; exact Ch.alloc w1 _
  rw [← hW1] at rb ⊢
  have r1 := R1.out.keeps g1 (fun x => x)
  have q0 : W1.cell? ⟨w.heap.size, 0, none⟩ = some (.int .u8 op) := r1.cell (j := 0) rfl
  have RB := Lib.hid rb
  have HCW1 := Lib.hid (HC1.out.trans g1)
  have G1 := Lib.hid g1
  have R1 := Lib.hid r1
  have hform := HF.out
  have hfd := field333 wd s
  have HQ : Hid (∀ W2, Ch No W1 W2 → W2.cell? ⟨w.heap.size, 0, none⟩ = some (.int .u8 op)) := Lib.hid (fun W2 c => (R1.out.keeps c (fun x => x)).cell (j := 0) rfl)
  clear hW1 rb g1 r1 q1 q2 q3
  go_region_held3 (fun w' => w'.cell? ⟨w.heap.size, 0, none⟩ = some (.int .u8 op)) (first | assumption | (refine cell_iter ?_; assumption)) (first
    | (go_at_call 181; refine (forms_any _).mono ?_; rintro e w2 ⟨rfl, hch2⟩; have hch3 := (Ch.trans (w1 := W1.drew) (Ch.drewN W1 1) hch2); have qq := HQ.out _ hch3))
  have HC2 := Lib.hid hch3
  have it0 := World.iter_heap w2 s 0
  have rb2 := RB.out.keeps hch3 (fun x => x)
  obtain ⟨IT, hIT⟩ : ∃ IT, IT = w2.heap.size := ⟨_, rfl⟩
  have hmpl : mp < w1.heap.size := lt_of_blk HK.out.1
  have hle1 : w1.heap.size < IT := by rw [hIT]; exact rb2.lt
  rw [← hIT] at it0
  obtain ⟨W3, hW3⟩ : ∃ W, W = w2.iter s 0 := ⟨_, rfl⟩
  have g3 : Ch No w2 W3 := by rw [hW3]; exact Ch.alloc w2 _
  have HST : Hid (SplitR xa xb xc w1.heap.size IT s fs W3 (.slice none 0 0) (.slice (some ⟨w1.heap.size, 0, none⟩) 3 3) W3) :=
    Lib.hid ⟨0, [xa, xb, xc], by omega, by rw [List.drop_zero]; exact HOK.out, .inl ⟨0, by simp, rfl, rfl⟩, by rw [hW3]; exact it0, ⟨0, [], by omega, World.ownsRow_nil _ _ _ _⟩, Ch.refl _ _⟩
  have RB3 := Lib.hid (rb2.keeps g3 (fun x => x))
  have HK3 : Hid (Ch No w1 W3) := Lib.hid ((G1.out.trans hch3).trans g3)
  have HCW3 : Hid (Ch No w W3) := Lib.hid (HC1.out.trans HK3.out)
  have HIT : Hid (w2.heap.size = IT) := Lib.hid hIT.symm
  have HW3 : Hid (w2.iter s 0 = W3) := Lib.hid hW3.symm
  have HSZ3 : Hid (W3.heap.size = IT + 1) := Lib.hid (by rw [hW3, hIT]; exact Array.size_push _)
  clear hIT hW3 g3 it0 rb2 hch3 hch2 qq q0 hform hfd R1 HQ G1 RB
  go_wp2_with fail
  rw [HW3.out, HIT.out]
  go_loopw [2, 5, 7, 8, 9, 11] (fun l rest _ _ _ _ wr => SplitR xa xb xc w1.heap.size IT s fs W3 l rest wr) (fun _ _ _ _ _ _ wr => fs.length - (match wr.heap[IT]? with | some (.stringIter _ p) => p | _ => 0))
  case atStart => exact HST.out
  case round =>
    obtain ⟨k, bs, hk, hob, hrest, hit, ⟨nn, xs, hnn, hown⟩, hch⟩ := hrel
    by_cases hlt : k < fs.length
    · have hp : k < s.size := by rw [HS.out]; exact hlt
      have hnx := fun ty => next_str (P := Tryz.prog) wr IT s k ty hit hp (HC.out k hp).2
      have hfk := (HC.out k hp).1
      obtain ⟨c, hcc⟩ : ∃ c : Nat, c = (s[k]'hp).toNat := ⟨_, rfl⟩
      obtain ⟨wn, hwn⟩ : ∃ wn, wn = setBlock wr IT (.stringIter s (k + 1)) := ⟨_, rfl⟩
      rw [← hcc] at hnx hfk
      rw [← hwn] at hnx
      have gn : Ch (fun j => j = IT) wr wn := by rw [hwn]; exact setBlock_ch _ _ _
      have itn : wn.heap[IT]? = some (.stringIter s (k + 1)) := by rw [hwn]; exact setBlock_at hit
      have hdrop : fs.drop k = c :: fs.drop (k + 1) := by
        rw [List.drop_eq_getElem_cons hlt]
        congr 1
        rw [List.getElem?_eq_getElem hlt] at hfk
        exact Option.some.inj hfk
      rw [hdrop] at hob
      obtain ⟨hsg, hkb, hlo, hhi, hob'⟩ := hob
      have gw : Ch (fun j => j = IT) W3 wn := hch.trans gn
      have gk : Ch (fun j => j = IT) w1 wn := (HK3.out.mono (fun _ _ e => e.elim)).trans gw
      have hkn := HK.out.keeps gk (fun j hj e => by omega)
      obtain ⟨a, f, g, hlk, hbd⟩ := look_kind hkn hsg
      have hrb := RB3.out.keeps gw (fun e => by omega)
      have hown' := own_keeps hown gn (fun j hj e => by have := own_ge hown j hj; omega)
      have hka := kb_or c
      generalize kb c = K at hka hkb hlo hhi hob' hlk
      unfold kindV belowV at hlk
      rcases hrest with ⟨o, ho3, hbs, rfl⟩ | ⟨rfl, _⟩
      · obtain ⟨L, hL⟩ : ∃ L, L = bs.length := ⟨_, rfl⟩
        rw [← hL] at ho3 hkb ⊢
        have HLK := Lib.hid hkb
        have HO3 := Lib.hid ho3
        have HBS := Lib.hid hbs
        have HL := Lib.hid hL
        have HOB := Lib.hid hob'
        have HGW := Lib.hid gw
        have HRB := Lib.hid hrb
        have HBD := Lib.hid hbd
        have HITN := Lib.hid itn
        have HIT0 := Lib.hid hit
        have HLO := Lib.hid hlo
        have HHI := Lib.hid hhi
        clear hL hbs hob' gw gk hkn hrb hbd itn hlo hhi hdrop hown hch gn hwn hcc hfk hit
        go_wp2_with fail
        obtain ⟨Wx, hWx⟩ : ∃ Wx, Wx = wn.alloc (.cells #[.int .i64 (K : Nat), .func (.func 222) #[] #[.pointer (some ⟨a, 0, none⟩), .pointer (some ⟨a + 1, 0, none⟩)], .func (.func f) #[] #[], .func (.func g) #[] #[]] 339) := ⟨_, rfl⟩
        have gx : Ch No wn Wx := by rw [hWx]; exact Ch.alloc wn _
        have rx : Row wn.heap.size 339 #[.int .i64 (K : Nat), .func (.func 222) #[] #[.pointer (some ⟨a, 0, none⟩), .pointer (some ⟨a + 1, 0, none⟩)], .func (.func f) #[] #[], .func (.func g) #[] #[]] Wx := by rw [hWx]; exact Row.new wn 339 _
        rw [← hWx]
        have HX := Lib.hid (HRB.out.keeps gx (fun x => x))
        have HGX := Lib.hid gx
        have HRX := Lib.hid rx
        have HWX := Lib.hid hWx
        have HOWN := Lib.hid (own_keeps hown' gx (fun _ _ x => x))
        clear hWx gx rx hlk hnx hown'
        go_loopw [9, 11, 42] (fun n _ i wr => ∃ j : Nat, j ≤ K ∧ i = .int .i64 (j : Int) ∧ n = .int .i64 (valB (bs.take j) : Nat) ∧ wr = Wx) (fun _ _ i _ => K - (intOf i).toNat)
        case atStart => exact ⟨0, by omega, rfl, rfl, rfl⟩
        case round =>
          obtain ⟨j, hj, rfl, rfl, rfl⟩ := hrel
          by_cases hjl : j < K
          · have hjb : j < bs.length := by have := HL.out; omega
            obtain ⟨x, hx⟩ : ∃ x, bs[j]? = some x := ⟨_, List.getElem?_eq_getElem hjb⟩
            have hcell : wr.cell? ⟨w1.heap.size, o + j, none⟩ = some (.int .u8 (x : Nat)) := by
              have e1 := HBS.out ▸ hx
              rw [List.getElem?_drop] at e1
              refine HX.out.cell ?_
              match hq : o + j, e1 with
              | 0, e1 => simp at e1; simp [e1]
              | 1, e1 => simp at e1; simp [e1]
              | 2, e1 => simp at e1; simp [e1]
              | (q + 3), e1 => simp at e1
            have hv := val_next hx (by omega)
            have hlv : valB (bs.take j) < 256 := val_lt (fun b hb => by
              rw [HBS.out] at hb
              have := List.mem_of_mem_drop hb
              simp at this
              omega) (by omega)
            have hxl : x < 256 := by
              have hm := List.mem_of_getElem? hx
              rw [HBS.out] at hm
              have := List.mem_of_mem_drop hm
              simp at this
              omega
            have HOR := Lib.hid (or_bytes2 (valB (bs.take j)) x (by omega) hxl)
            have HV := Lib.hid hv
            clear hv hx
            go_wp2_with fail
            go_roundw
            case rel => exact ⟨j + 1, by omega, by go_num, by rw [HV.out, HOR.out], trivial⟩
            case measure => simp [intOf]; omega
          · obtain rfl : j = K := by omega
            have cn := HRX.out.cell (j := 0) rfl
            have cf := HRX.out.cell (j := 1) rfl
            have hbx : Bounds a (klo c) (khi c) wr := HBD.out.keeps HGX.out (fun x => x) (fun x => x)
            go_wp2_with fail
            refine (isBelow_any a (klo c) (khi c) _ wr hbx HLO.out HHI.out).mono ?_; rintro e w9 ⟨rfl, rfl⟩
            have hsl := rest_cut w1.heap.size o L j hkb
            obtain ⟨V, hV⟩ : ∃ V : Value, V = .slice (some (if L = j then ⟨w1.heap.size, o, none⟩ else ⟨w1.heap.size, o + j, none⟩)) (L - j) (L - j) := ⟨_, rfl⟩
            rw [← hV] at hsl
            have HV := Lib.hid hV
            clear hV
            go_wp2_with (first
              | (at_builtin; go_loud (refine wpList_append_own _ rfl _ _ 120 rfl (IT + 1) 3 i0 (.int .i64 0) 1 8 Tryz.underlying120 hi hz0 hz1 hz2 rfl (by decide) _ _ _ rfl (World.ownsRow.alloc (w := wr) HOWN.out _) ⟨wr.heap.size, 0, none⟩ 1 1 [.int .i64 (valB (bs.take j) : Nat)] rfl rfl ?c1 ?c2 ?c3 ?c4 ?c5 ?_)))
            case c1 =>
              intro i u hj
              match i, hj with
              | 0, hj => simp at hj; subst hj; exact (Row.new wr 3 #[.int .i64 (valB (bs.take j) : Nat)]).cell (j := 0) rfl
            case c2 => intro u hu; simp at hu; subst hu; rfl
            case c3 => unfold maxLen; omega
            case c4 => omega
            case c5 =>
              have h1 := HGX.out.size
              have h2 := HGW.out.size
              have h3 := HSZ3.out
              simp
              omega
            · intro v' w2' hown2 hgrow _
              go_wp2_with fail
              go_roundw
              case rel =>
                have hge := own_ge HOWN.out
                have gg : Ch (fun q => IT + 1 ≤ q) wn w2' := ((HGX.out.trans (Ch.alloc _ _)).mono (fun _ _ e => e.elim)).trans ((Ch.ofGrown hgrow).mono (fun q _ e => hge q e))
                refine ⟨k + 1, bs.drop j, by omega, HOB.out, ?_, gg.keeps HITN.out (fun e => by omega), ⟨nn + 1, _, by omega, hown2⟩, HGW.out.trans' gg (fun q hq e => by have := HSZ3.out; omega)⟩
                have e1 : (bs.drop j).length = L - j := by rw [List.length_drop, ← HL.out]
                rw [HV.out]
                by_cases e2 : L = j
                · refine .inr ⟨List.drop_eq_nil_of_le (by have := HL.out; omega), some ⟨w1.heap.size, o, none⟩, ?_⟩
                  rw [if_pos e2, e2, Nat.sub_self]
                · refine .inl ⟨o + j, by omega, ?_, ?_⟩
                  · rw [HBS.out, List.drop_drop]
                  · rw [if_neg e2, e1]
              case measure =>
                have hge := own_ge HOWN.out
                have gg : Ch (fun q => IT + 1 ≤ q) wn w2' := ((HGX.out.trans (Ch.alloc _ _)).mono (fun _ _ e => e.elim)).trans ((Ch.ofGrown hgrow).mono (fun q _ e => hge q e))
                rw [gg.keeps HITN.out (fun e => by omega), HIT0.out]
                have hkl : k < fs.length := by rw [← HS.out]; exact hp
                exact Nat.sub_lt_sub_left hkl (Nat.lt_succ_self k)
      · exfalso
        rcases hka with e | e <;> rw [e] at hkb <;> simp at hkb
    · have hkl : k = fs.length := by omega
      have hnx := fun ty => next_strEnd (P := Tryz.prog) wr IT s k ty hit (by rw [HS.out]; omega)
      rw [hkl, List.drop_length] at hob
      obtain ⟨a, L, hra, hL3, hrc⟩ : ∃ (a : Option Addr) (L : Nat), u5 = .slice a L L ∧ L ≤ 3 ∧ ∀ i, i < L → ∃ o, a = some ⟨w1.heap.size, o, none⟩ ∧ wr.cell? ⟨w1.heap.size, o + i, none⟩ = some (.int .u8 0) := by
        have hrb := RB3.out.keeps hch (fun e => by omega)
        rcases hrest with ⟨o, ho3, hbs, e⟩ | ⟨_, a, e⟩
        · refine ⟨_, _, e, by omega, fun i hi => ⟨o, rfl, ?_⟩⟩
          obtain ⟨x, hx⟩ : ∃ x, bs[i]? = some x := ⟨_, List.getElem?_eq_getElem hi⟩
          have hx0 : x = 0 := hob x (List.mem_of_getElem? hx)
          subst hx0
          rw [hbs, List.getElem?_drop] at hx
          refine hrb.cell ?_
          match hq : o + i, hx with
          | 0, e1 => simp at e1; simp [e1]
          | 1, e1 => simp at e1; simp [e1]
          | 2, e1 => simp at e1; simp [e1]
          | (q + 3), e1 => simp at e1
        · exact ⟨a, 0, e, by omega, fun i hi => absurd hi (by omega)⟩
      subst hra
      have HRC := Lib.hid hrc
      have HCH := Lib.hid hch
      clear hrc hch hrest hob hit hown hkl
      go_wp2_with fail
      go_loopw [13, 67] (fun _ i wx => ∃ j : Nat, j ≤ L ∧ i = .int .i64 (j : Int) ∧ wx = wr) (fun _ i _ => L - (intOf i).toNat)
      case atStart => exact ⟨0, by omega, rfl, rfl⟩
      case round =>
        obtain ⟨j, hj, rfl, rfl⟩ := hrel
        by_cases hjl : j < L
        · obtain ⟨o, rfl, hc0⟩ := HRC.out j hjl
          go_wp2_with fail
          go_roundw
          case rel => exact ⟨j + 1, by omega, by go_num, by first | rfl | trivial⟩
          case measure => simp [intOf]; omega
        · obtain rfl : j = L := by omega
          go_wp2_with fail
          go_ret2
          exact ⟨⟨_, rfl⟩, HCW3.out.trans' HCH.out (fun q hq e => by have h1 := HIT.out; have h2 := HC1.out.size; omega)⟩
end Go.Proofs.YtcngfaggignmpaaGreatDoor

/-
  Instructions and images: may they be?
-/
namespace Go.Proofs.YtcngfaggignmpaaGreatDoor
open Go.RowKit

/-- An instruction that may be. -/
def OkI (x : IN) : Prop := ∃ (wd s : ByteArray) (fs : List Nat), x.op ≤ 22 ∧ (x.a < 256 ∧ x.b < 256 ∧ x.c < 256) ∧
  (∀ W, (Instr.index 334 (.agg formArr) (.int .u8 x.op)).run Tryz.prog W = .ok (.agg #[.string wd, .string s]) W) ∧ s.size = fs.length ∧ fs.length ≤ 3 ∧
  (∀ j (h : j < s.size), fs[j]? = some (s[j]'h).toNat ∧ (s[j]'h).toNat < 128) ∧ OkB fs [x.a, x.b, x.c]

set_option maxRecDepth 100000 in
set_option maxHeartbeats 1000000 in
theorem check_any (w : World) (x : IN) (h : OkI x) : Calls Tryz.prog 90 #[inV x] w fun e w' => e = .returned (.bool true) ∧ Ch No w w' := by
  obtain ⟨wd, s, fs, h1, h2, h3, h4, h5, h6, h7⟩ := h
  have HC : Hid (∀ W, Calls Tryz.prog 151 #[inV x] W fun e w' => (∃ v, e = .returned (.tuple #[v, .bool true])) ∧ Ch No W w') := Lib.hid (fun W => split_any W x wd s fs h1 h2 h3 h4 h5 h6 h7)
  have HA := Lib.hid (Ch.alloc (S := No) w (.cells #[.int .u8 x.op, .int .u8 x.a, .int .u8 x.b, .int .u8 x.c] 49))
  clear h1 h2 h3 h4 h5 h6 h7
  unfold inV at HC ⊢
  go_enter Tryz.func90, Tryz.ntmps90
  go_wp2_with fail
  refine (HC.out _).mono ?_; rintro e w1 ⟨⟨v, rfl⟩, hch⟩
  have HD := Lib.hid (HA.out.trans hch)
  clear hch
  go_wp2_with fail
  go_ret
  exact ⟨rfl, HD.out⟩
set_option maxRecDepth 100000 in
set_option maxHeartbeats 1000000 in
theorem uncheck_any (w : World) (x : IN) (h : OkI x) : Calls Tryz.prog 89 #[inV x] w fun e w' => e = .returned (.bool false) ∧ Ch No w w' := by
  have HC : Hid (∀ W, Calls Tryz.prog 90 #[inV x] W fun e w' => e = .returned (.bool true) ∧ Ch No W w') := Lib.hid (fun W => check_any W x h)
  have HA := Lib.hid (Ch.alloc (S := No) w (.cells #[.int .u8 x.op, .int .u8 x.a, .int .u8 x.b, .int .u8 x.c] 49))
  clear h
  unfold inV at HC ⊢
  go_enter Tryz.func89, Tryz.ntmps89
  go_wp2_with fail
  refine (HC.out _).mono ?_; rintro e w1 ⟨rfl, hch⟩
  have HD := Lib.hid (HA.out.trans hch)
  clear hch
  go_wp2_with fail
  go_ret
  exact ⟨rfl, HD.out⟩
theorem Code49.cell {b : Nat} {l : List IN} {w : World} (h : Code49 b l w) {i : Nat} {x : IN} (hi : l[i]? = some x) :
    w.cell? ⟨b, i * 4, none⟩ = some (.int .u8 x.op) ∧ w.cell? ⟨b, i * 4 + 1, none⟩ = some (.int .u8 x.a) ∧ w.cell? ⟨b, i * 4 + 2, none⟩ = some (.int .u8 x.b) ∧ w.cell? ⟨b, i * 4 + 3, none⟩ = some (.int .u8 x.c) := by
  obtain ⟨cs, r, hc⟩ := h
  obtain ⟨f0, f1, f2, f3⟩ := flat_get l i x hi
  exact ⟨r.cell (hc _ _ f0), r.cell (hc _ _ f1), r.cell (hc _ _ f2), r.cell (hc _ _ f3)⟩
theorem Code49.keeps {b : Nat} {l : List IN} {w w' : World} {S : Nat → Prop} (h : Code49 b l w) (g : Ch S w w') (hn : ¬ S b) : Code49 b l w' := by
  obtain ⟨cs, r, hc⟩ := h
  exact ⟨cs, r.keeps g hn, hc⟩
set_option maxRecDepth 100000 in
set_option maxHeartbeats 1000000 in
theorem index_any (w : World) (b cap : Nat) (l : List IN) (hl : l.length ≤ 1000) (h : Code49 b l w) (hok : ∀ x ∈ l, OkI x) :
    Calls Tryz.prog 150 #[.slice (some ⟨b, 0, none⟩) l.length cap, .func (.func 89) #[] #[]] w fun e w' => e = .returned (.int .i64 (-1)) ∧ Ch No w w' := by
  have H := Lib.hid h
  have HO := Lib.hid hok
  clear h hok
  go_enter Tryz.func150, Tryz.ntmps150
  go_wp2_with fail
  go_loopw [5, 8] (fun _ i wr => ∃ k : Nat, k ≤ l.length ∧ i = .int .i64 (k : Int) ∧ Ch No w wr) (fun _ i _ => l.length - (intOf i).toNat)
  case atStart => exact ⟨0, by omega, rfl, Ch.refl _ _⟩
  case round =>
    obtain ⟨k, hk, rfl, hch⟩ := hrel
    by_cases hlt : k < l.length
    · obtain ⟨x, hx⟩ : ∃ x, l[k]? = some x := ⟨_, List.getElem?_eq_getElem hlt⟩
      obtain ⟨c0, c1, c2, c3⟩ := (H.out.keeps hch (fun x => x)).cell hx
      have HX : Hid (∀ W, Calls Tryz.prog 89 #[inV x] W fun e w' => e = .returned (.bool false) ∧ Ch No W w') := Lib.hid (fun W => uncheck_any W x (HO.out x (List.mem_of_getElem? hx)))
      have HCH := Lib.hid hch
      clear hch hx
      unfold inV at HX
      go_wp2_with fail
      refine (HX.out _).mono ?_; rintro e w1 ⟨rfl, hch1⟩
      have HD := Lib.hid (HCH.out.trans hch1)
      clear hch1 c0 c1 c2 c3
      go_wp2_with fail
      go_roundw
      case rel => exact ⟨k + 1, by omega, by go_num, HD.out⟩
      case measure => simp [intOf]; omega
    · obtain rfl : k = l.length := by omega
      have HCH := Lib.hid hch
      clear hch
      go_wp2_with fail
      go_ret
      exact ⟨rfl, HCH.out⟩
set_option maxRecDepth 100000 in
set_option maxHeartbeats 1000000 in
theorem contains_any (w : World) (b cap : Nat) (l : List IN) (hl : l.length ≤ 1000) (h : Code49 b l w) (hok : ∀ x ∈ l, OkI x) :
    Calls Tryz.prog 88 #[.slice (some ⟨b, 0, none⟩) l.length cap, .func (.func 89) #[] #[]] w fun e w' => e = .returned (.bool false) ∧ Ch No w w' := by
  have HI := Lib.hid (index_any w b cap l hl h hok)
  clear h hok
  go_enter Tryz.func88, Tryz.ntmps88
  go_wp2_with fail
  refine HI.out.mono ?_; rintro e w1 ⟨rfl, hch⟩
  have HD := Lib.hid hch
  clear hch
  go_wp2_with fail
  go_ret
  exact ⟨rfl, HD.out⟩
/-- An image of no bytes. -/
def imV (b n cap : Nat) : Value := .agg #[.int .i64 0, .slice none 0 0, .slice (some ⟨b, 0, none⟩) n cap]
set_option maxRecDepth 100000 in
set_option maxHeartbeats 1000000 in
theorem image_any (w : World) (b cap : Nat) (l : List IN) (hl : l.length ≤ 1000) (h : Code49 b l w) (hok : ∀ x ∈ l, OkI x) :
    Calls Tryz.prog 54 #[imV b l.length cap] w fun e w' => e = .returned (.bool true) ∧ Ch No w w' := by
  have HA := Lib.hid (Ch.alloc (S := No) w (.cells #[.int .i64 0, .slice none 0 0, .slice (some ⟨b, 0, none⟩) l.length cap] 54))
  have HI := Lib.hid (contains_any (w.alloc (.cells #[.int .i64 0, .slice none 0 0, .slice (some ⟨b, 0, none⟩) l.length cap] 54)) b cap l hl (h.keeps HA.out (fun x => x)) hok)
  have d1 : decide ((1024 : Int) < (l.length : Int)) = false := by rw [decide_eq_false_iff_not]; omega
  have d2 : decide (1024 < l.length) = false := by rw [decide_eq_false_iff_not]; omega
  clear h hok
  unfold imV
  go_enter Tryz.func54, Tryz.ntmps54
  go_wp2_with fail
  refine HI.out.mono ?_; rintro e w1 ⟨rfl, hch⟩
  have HD := Lib.hid (HA.out.trans hch)
  clear hch
  go_wp2_with fail
  go_ret
  exact ⟨rfl, HD.out⟩
end Go.Proofs.YtcngfaggignmpaaGreatDoor

/-
  The core of a task: a new one, of an image.
-/
namespace Go.Proofs.YtcngfaggignmpaaGreatDoor
open Go.RowKit

/-- A core at its start. -/
def cm0 : CM := ⟨fun _ => 0, 0, [], false⟩
set_option maxRecDepth 100000 in
set_option maxHeartbeats 1000000 in
theorem coreNew_any (w : World) (b cap : Nat) (l : List IN) (hl : l.length ≤ 1000) (h1 : 1 ≤ l.length) (h : Code49 b l w) (hok : ∀ x ∈ l, OkI x) :
    Calls Tryz.prog 28 #[imV b l.length cap] w fun e w' => ∃ g : CG, e = .returned (.tuple #[.pointer (some ⟨g.b, 0, none⟩), .int .i64 0]) ∧ g.code = l ∧ g.lo = w'.heap.size ∧ w.heap.size ≤ g.b ∧ w.heap.size ≤ g.cb ∧ CO g (.slice none 0 0) cm0 w' ∧ Ch No w w' := by
  have HA := Lib.hid (Ch.alloc (S := No) w (.cells #[.int .i64 0, .slice none 0 0, .slice (some ⟨b, 0, none⟩) l.length cap] 54))
  have hz := (Row.new w 54 #[.int .i64 0, .slice none 0 0, .slice (some ⟨b, 0, none⟩) l.length cap])
  obtain ⟨W0, hW0⟩ : ∃ W0, W0 = w.alloc (.cells #[.int .i64 0, .slice none 0 0, .slice (some ⟨b, 0, none⟩) l.length cap] 54) := ⟨_, rfl⟩
  rw [← hW0] at HA hz
  have HI := Lib.hid (image_any W0 b cap l hl (h.keeps HA.out (fun x => x)) hok)
  have HCODE := Lib.hid (h.keeps HA.out (fun x => x))
  have HZ := Lib.hid hz
  have HW := Lib.hid hW0
  clear h hok hz hW0
  have HI2 : Hid (∀ W, Ch No W0 W → Calls Tryz.prog 54 #[imV b l.length cap] W0 fun e w' => e = .returned (.bool true) ∧ Ch No W0 w') := Lib.hid (fun _ _ => HI.out)
  clear HI2
  unfold imV at HI ⊢
  go_enter Tryz.func28, Tryz.ntmps28
  go_wp2_with fail
  rw [← HW.out]
  refine HI.out.mono ?_; rintro e w1 ⟨rfl, hch⟩
  have z1 := HZ.out.keeps hch (fun x => x)
  have q0 := z1.cell (j := 0) rfl
  have q1 := z1.cell (j := 1) rfl
  have q2 := z1.cell (j := 2) rfl
  have HC1 := Lib.hid hch
  clear hch z1
  go_wp2_with fail
  refine (regNew_any _).mono ?_; rintro e w2 ⟨⟨r, rfl⟩, hch⟩
  have HC2 := Lib.hid (HC1.out.trans hch)
  clear hch q0 q1 q2
  have q2 := (HZ.out.keeps HC2.out (fun x => x)).cell (j := 2) rfl
  go_wp2_with fail
  refine (code_clone _ b cap l hl h1 (HCODE.out.keeps HC2.out (fun x => x))).mono ?_; rintro e w3 ⟨⟨cb, cap', rfl, hcap, hge, hcode⟩, hch⟩
  have HC3 := Lib.hid (HC2.out.trans hch)
  have HCD := Lib.hid hcode
  have HGE := Lib.hid hge
  have HSZ := Lib.hid (HC2.out.size)
  clear hch hcode q2 hge
  go_wp2_with fail
  go_ret2
  have s0 := HA.out.size
  have s1 := HGE.out
  have s2 := HSZ.out
  have s3 := HC3.out.size
  refine ⟨⟨w3.heap.size, r, cb, cap', _, l⟩, rfl, rfl, rfl, by show w.heap.size ≤ w3.heap.size; omega, by show w.heap.size ≤ cb; omega, ⟨Row.new w3 191 _, ?_, World.ownsRow_nil _ _ _ _⟩, (HA.out.trans HC3.out).trans (Ch.alloc _ _)⟩
  obtain ⟨cs, hr, hc⟩ := HCD.out
  exact ⟨cs, hr.alloc _, fun i x hi => by
    obtain ⟨f0, f1, f2, f3⟩ := flat_get l i x hi
    exact ⟨hc _ _ f0, hc _ _ f1, hc _ _ f2, hc _ _ f3⟩⟩
end Go.Proofs.YtcngfaggignmpaaGreatDoor
