/-
  Arguments that came in: a slice of ints, an array of two ints, a list of calls; and small laws on the states.
-/
import Derived.Test.YtnfmcmjfpbmloaaDkK
import Derived.Test.YtnfmcmjfpbmloaaRows
import Derived.ProofKit
import Derived.OpenShut
import Derived.ShutString
import Derived.ChangeOld
import Derived.Deep.Slices
import Derived.Deep.Fields
import Derived.SliceStrings
import Derived.Lib.SmallJoins
namespace Go.Proofs.Ytnfmcmjfpbmloaa
open Go.RowKit Go.ChangeShapes Go.WideShapes Go.ChangeAt Go.Deep
open Go.ChangeMaps (open_string shut_string)

theorem own_knob : ownKnob Try.prog.godebug = none := by kernel_rfl
theorem laid_out : laidOutB Try.prog = true := by kernel_rfl

/-- A call of the reference's list, as data. -/
structure Act where
  kind : Int
  off : Int
  n : Int
  text : ByteArray
def actCells (a : Act) : List Value := [.int .i64 a.kind, .int .i64 a.off, .int .i64 a.n, .string a.text]

theorem flatMap_at {α β : Type} (f : α → List β) (m : Nat) (hf : ∀ a, (f a).length = m) : ∀ (l : List α) (i j : Nat) (a : α), l[i]? = some a → j < m → (l.flatMap f)[i * m + j]? = (f a)[j]?
  | [], _, _, _, h, _ => by simp at h
  | x :: l, 0, j, a, h, hj => by
    have : x = a := by simpa using h
    subst this
    rw [List.flatMap_cons, List.getElem?_append_left (by rw [hf]; omega)]
    simp
  | x :: l, i + 1, j, a, h, hj => by
    rw [List.flatMap_cons, List.getElem?_append_right (by rw [hf, Nat.add_mul]; omega), hf, show (i + 1) * m + j - m = i * m + j by rw [Nat.add_mul]; omega]
    exact flatMap_at f m hf l i j a (by simpa using h) hj

theorem length_flatMap {α β : Type} (f : α → List β) (m : Nat) (hf : ∀ a, (f a).length = m) : ∀ l : List α, (l.flatMap f).length = l.length * m
  | [] => by simp
  | x :: l => by rw [List.flatMap_cons, List.length_append, hf, length_flatMap f m hf l, List.length_cons, Nat.add_mul]; omega

/-- A slice that reads as a list: an element's cells. -/
theorem Reads.elem {w : World} {size : Nat} {A : Option Addr} {n c : Nat} {xs : List Value} (h : Reads w size (.slice A n c) n xs) (hs : 0 < size) (hn : 0 < n) :
    ∃ b off, A = some ⟨b, off, none⟩ ∧ b < w.heap.size ∧ ∀ j, j < xs.length → w.cell? ⟨b, off + j, none⟩ = xs[j]? := by
  obtain ⟨A', c', h1, hl, hc⟩ := h
  injection h1 with h1 h2 h3
  subst h1 h3
  obtain ⟨⟨b, off, sp⟩, rfl, hcell⟩ := hc hn
  have hx : 0 < xs.length := by rw [hl]; exact Nat.mul_pos hn hs
  have h0 := hcell (0 : Nat) _ (List.getElem?_eq_getElem hx)
  have hb : b < w.heap.size := block_lt_of_cell (a := ⟨b, off, sp⟩) h0
  obtain rfl : sp = none := by
    cases sp with
    | none => rfl
    | some x =>
      have : w.cell? ⟨b, off, some x⟩ = none := by unfold World.cell?; split <;> simp
      rw [show (⟨b, off, some x⟩ : Addr).add 0 = ⟨b, off, some x⟩ from rfl, this] at h0
      cases h0
  refine ⟨b, off, rfl, hb, fun j hj => ?_⟩
  have := hcell j _ (List.getElem?_eq_getElem hj)
  rw [Addr.add_lit] at this
  rw [this, List.getElem?_eq_getElem hj]

section
variable {H : Type} {enc : TypeId × Value → H} {W : World} {base : Nat} {v : Value} {d : DataW H} {p : List MemPlace}

/-- A slice of ints that came in. -/
theorem arg_ints (hv : Value.okWide Try.prog W .any base 36 v) (h : DataW.Trod enc Try.prog W 0 (fun _ => true) true 36 v d p) :
    ∃ q : List Int, Reads W 1 v q.length (q.map (.int .i64)) := by
  obtain ⟨A, len, cap, rfl⟩ := okWide_slice Try.underlying36 hv
  obtain ⟨fuel, hf⟩ := h
  rcases open_ints Try.underlying36 Try.underlying3 (by kernel_rfl) hf with ⟨hcs, _⟩ | ⟨x, l, c, zs, hcs, _, hl, hm, hz, _, hcell, hwz⟩
  · simp [Value.cells] at hcs
    obtain ⟨rfl, rfl, rfl⟩ := hcs
    exact ⟨[], _, _, rfl, rfl, fun h => absurd h (by simp)⟩
  · simp [Value.cells] at hcs
    obtain ⟨rfl, rfl, rfl⟩ := hcs
    have hz' : zs.length = cap := by simpa using hz
    refine ⟨zs.take len, some x, cap, ?_, ?_, fun _ => ⟨x, rfl, fun j u hu => ?_⟩⟩
    · rw [List.length_take, show min len zs.length = len by omega]
    · simp
    · have hj : j < len := by
        have := (List.getElem?_eq_some_iff.1 hu).1
        simp at this
        omega
      rw [hcell j (by omega), ← hu]
      simp [hj, show j < zs.length by omega]

set_option maxRecDepth 100000 in
/-- An array of two ints, by value. -/
theorem arg_two (hv : Value.okWide Try.prog W .any base 42 v) (h : DataW.Trod enc Try.prog W 0 (fun _ => true) true 42 v d p) :
    ∃ a b : Int, v = .agg #[.int .i64 a, .int .i64 b] ∧ (-9223372036854775808 ≤ a ∧ a ≤ 9223372036854775807) ∧ (-9223372036854775808 ≤ b ∧ b ≤ 9223372036854775807) := by
  have hc : Try.prog.cellsOf 42 = 2 := by kernel_rfl
  have h3 : Try.prog.cellsOf 3 = 1 := by kernel_rfl
  simp only [Value.okWide, Try.underlying42] at hv
  obtain ⟨cs, rfl, hsz, _⟩ := hv
  rw [hc] at hsz
  obtain ⟨c0, c1, rfl⟩ := Joins.array2 hsz
  obtain ⟨fuel, hf⟩ := h
  obtain ⟨xs, m, _, _, _, hl, hi⟩ := DataW.trod_array Try.underlying42 hf
  have e0 := hi 0 (by omega)
  have e1 := hi 1 (by omega)
  rw [h3] at e0 e1
  simp [Value.cells] at e0 e1
  rw [List.getElem?_eq_getElem (by omega)] at e0 e1
  obtain ⟨a, k0, _, wa⟩ := DataW.trod_int Try.underlying3 e0
  obtain ⟨b, k1, _, wb⟩ := DataW.trod_int Try.underlying3 e1
  simp at k0 k1
  subst k0 k1
  exact ⟨a, b, rfl, bounds_i64 wa, bounds_i64 wb⟩

theorem act_fields : ∃ f0 f1 f2 f3 : Field, Try.prog.underlying 33 = some (.struct #[f0, f1, f2, f3]) ∧ f0.type = 3 ∧ f1.type = 3 ∧ f2.type = 3 ∧ f3.type = 9 ∧ f0.offset = 0 ∧ f1.offset = 1 ∧ f2.offset = 2 ∧ f3.offset = 3 :=
  ⟨_, _, _, _, Try.underlying33, rfl, rfl, rfl, rfl, rfl, rfl, rfl, rfl⟩

set_option maxRecDepth 100000 in
theorem act_of {w : World} {fuel : Nat} {cs : List Value} {x : DataW H × List MemPlace} (h : DataW.trod enc Try.prog w 0 (fun _ => true) true fuel 33 cs = some x) : ∃ a : Act, cs = actCells a := by
  have c33 : Try.prog.cellsOf 33 = 4 := by kernel_rfl
  have c3 : Try.prog.cellsOf 3 = 1 := by kernel_rfl
  have c9 : Try.prog.cellsOf 9 = 1 := by kernel_rfl
  obtain ⟨f0, f1, f2, f3, hu, t0, t1, t2, t3, o0, o1, o2, o3⟩ := act_fields
  obtain ⟨ys, n, _, _, hl, hyl, hf⟩ := DataW.trod_struct hu h
  rw [c33] at hl
  have e0 := hf 0 f0 rfl
  have e1 := hf 1 f1 rfl
  have e2 := hf 2 f2 rfl
  have e3 := hf 3 f3 rfl
  rw [t0, o0, c3] at e0
  rw [t1, o1, c3] at e1
  rw [t2, o2, c3] at e2
  rw [t3, o3, c9] at e3
  simp at hyl
  rw [List.getElem?_eq_getElem (by omega)] at e0 e1 e2 e3
  obtain ⟨a, k0, _, _⟩ := DataW.trod_int Try.underlying3 e0
  obtain ⟨b, k1, _, _⟩ := DataW.trod_int Try.underlying3 e1
  obtain ⟨c, k2, _, _⟩ := DataW.trod_int Try.underlying3 e2
  obtain ⟨s, k3, _, _⟩ := DataW.trod_string Try.underlying9 e3
  refine ⟨⟨a, b, c, s⟩, ?_⟩
  match cs, hl with
  | [x0, x1, x2, x3], _ =>
    simp at k0 k1 k2 k3
    simp [actCells, k0, k1, k2, k3]

set_option maxRecDepth 100000 in
/-- A list of calls that came in. -/
theorem arg_acts (hv : Value.okWide Try.prog W .any base 22 v) (h : DataW.Trod enc Try.prog W 0 (fun _ => true) true 22 v d p) :
    ∃ l : List Act, Reads W 4 v l.length (l.flatMap actCells) := by
  have c33 : Try.prog.cellsOf 33 = 4 := by kernel_rfl
  obtain ⟨A, len, cap, rfl⟩ := okWide_slice Try.underlying22 hv
  obtain ⟨fuel, hf⟩ := h
  rcases open_slice Try.underlying22 hf with ⟨hcs, _⟩ | ⟨x, l, c, m, n, D, Pl, hcs, _, hl, _, hmm, _, hi⟩
  · simp [Value.cells] at hcs
    obtain ⟨rfl, rfl, rfl⟩ := hcs
    exact ⟨[], _, _, rfl, rfl, fun h => absurd h (by simp)⟩
  · simp [Value.cells] at hcs
    obtain ⟨rfl, rfl, rfl⟩ := hcs
    simp at hmm
    rw [c33] at hi
    have key : ∀ i, ∃ a : Act, i < len → ∀ j, j < 4 → W.cell? ((x.add (i * 4)).add j) = (actCells a)[j]? := by
      intro i
      by_cases hlt : i < len
      · obtain ⟨cs', h1, h2⟩ := hi i (by omega)
        obtain ⟨a, rfl⟩ := act_of h2
        obtain ⟨_, _, hat⟩ := World.cells?_some h1
        exact ⟨a, fun _ j hj => hat j hj⟩
      · exact ⟨⟨0, 0, 0, ByteArray.empty⟩, fun h => absurd h hlt⟩
    have hfn : ∃ f : Nat → Act, ∀ i, i < len → ∀ j, j < 4 → W.cell? ((x.add (i * 4)).add j) = (actCells (f i))[j]? := ⟨fun i => Classical.choose (key i), fun i => Classical.choose_spec (key i)⟩
    obtain ⟨f, hfn⟩ := hfn
    have hlen : ((List.range len).map f).length = len := by simp
    refine ⟨(List.range len).map f, some x, cap, by rw [hlen], by rw [length_flatMap actCells 4 (fun _ => rfl)], fun _ => ⟨x, rfl, fun j u hu => ?_⟩⟩
    have hj : j < len * 4 := by
      have := (List.getElem?_eq_some_iff.1 hu).1
      rw [length_flatMap actCells 4 (fun _ => rfl), hlen] at this
      exact this
    have hd : j / 4 < len := by omega
    have hm : j % 4 < 4 := by omega
    have e : j = j / 4 * 4 + j % 4 := by omega
    rw [e, flatMap_at actCells 4 (fun _ => rfl) _ (j / 4) (j % 4) (f (j / 4)) (by simp [hd]) hm] at hu
    rw [e, ← hu, ← hfn (j / 4) hd (j % 4) hm, Go.Deep.add_add]
end

theorem at_alloc {w0 w : World} {L : List HP} (h : At w0 w L) (t : TypeId) (cs : Array Value) : At w0 (w.alloc (.cells cs t)) (bl w.heap.size t cs :: L) :=
  h.more ((Below.refl _ _).alloc (Nat.le_refl _) _) (P := bl w.heap.size t cs) (S := (· = w.heap.size)) ⟨heap_alloc_new w _, fun _ => Iff.rfl⟩ fun _ hk => Nat.le_of_eq hk.symm
theorem At.cell {w0 w : World} {L : List HP} {g : Nat} {t : TypeId} {cs : Array Value} (h : At w0 w L) (i : Nat) (hi : L[i]? = some (bl g t cs)) (j : Nat) (u : Value) (hu : cs[j]? = some u) : w.cell? ⟨g, j, none⟩ = some u := by
  rw [cell_of_row w g j cs t (0, 0) (h.block i hi), hu]
theorem At.reads {w0 w : World} {L : List HP} {size : Nat} {v : Value} {n : Nat} {xs : List Value} (h : At w0 w L) (hr : Reads w0 size v n xs) : Reads w size v n xs := hr.turns (Turns.below (S := No) h.below) fun _ _ => id

/-! ### states whose power does not fail -/
theorem DS.write_lim (σ : DS) (off : Int) (s : List UInt8) : (σ.write off s).lim = σ.lim := by
  unfold DS.write
  split
  · rfl
  · split <;> rfl
theorem DS.sync_lim (σ : DS) : σ.sync.lim = σ.lim := by
  unfold DS.sync
  split <;> rfl
theorem DS.crash_lim (σ : DS) (q : List Int) : (σ.crash q).lim = false := rfl
theorem DS.off_of {σ : DS} (h : σ.lim = false) : σ.off = false := by unfold DS.off; rw [h]; rfl
theorem DS.writeE_ok {σ : DS} (h : σ.lim = false) {off : Int} {s : List UInt8} (h0 : 0 ≤ off) (h1 : off + s.length ≤ 16777216) : σ.writeE off s = 0 := by
  unfold DS.writeE
  rw [if_neg (by omega), DS.off_of h]
  rfl
theorem DS.write_ok {σ : DS} (h : σ.lim = false) {off : Int} {s : List UInt8} (h0 : 0 ≤ off) (h1 : off + s.length ≤ 16777216) :
    σ.write off s = { σ.tick with now := lay σ.now off.toNat s, pcs := σ.pcs ++ pieces off.toNat s } := by
  unfold DS.write
  rw [if_neg (by omega), DS.off_of h]
  rfl
theorem DS.syncE_ok {σ : DS} (h : σ.lim = false) : σ.syncE = 0 := by
  unfold DS.syncE
  rw [DS.off_of h]
  rfl
theorem DS.sync_ok {σ : DS} (h : σ.lim = false) : σ.sync = { σ.tick with syn := σ.now, pcs := [] } := by
  unfold DS.sync
  rw [DS.off_of h]
  rfl
end Go.Proofs.Ytnfmcmjfpbmloaa
