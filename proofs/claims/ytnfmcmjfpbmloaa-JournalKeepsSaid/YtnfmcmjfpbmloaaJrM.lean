/-
  Arguments of the journal's laws; Open of a nil disk; the records of a list, made short.
-/
import Derived.Test.YtnfmcmjfpbmloaaJrL
import Derived.SliceStrings
namespace Go.Proofs.Ytnfmcmjfpbmloaa
open Go.RowKit Go.ChangeShapes Go.WideShapes Go.ChangeAt Go.Deep
open Go.ChangeMaps (open_string shut_string)

/-- A slice of strings that came in. -/
def StrsIn (w : World) (v : Value) (l : List ByteArray) : Prop := Reads w 1 v l.length (l.map .string) ∧ ∀ s ∈ l, s.size ≤ maxLen
/-- A slice of numbers that came in. -/
def NumsIn (k : IntKind) (w : World) (v : Value) (l : List Int) : Prop := Reads w 1 v l.length (l.map (.int k)) ∧ ∀ n ∈ l, (Lit.int k n).wf = true

section
variable {H : Type} {enc : TypeId × Value → H} {W : World} {base : Nat} {v : Value} {d : DataW H} {p : List MemPlace}
set_option maxRecDepth 100000 in
theorem arg_strs (hv : Value.okWide Try.prog W .any base 64 v) (h : DataW.Trod enc Try.prog W 0 (fun _ => true) true 64 v d p) : ∃ l : List ByteArray, StrsIn W v l := by
  obtain ⟨A, len, cap, rfl⟩ := okWide_slice Try.underlying64 hv
  obtain ⟨fuel, hf⟩ := h
  rcases open_strings Try.underlying64 Try.underlying9 (by kernel_rfl) hf with ⟨hcs, _⟩ | ⟨x, l, c, zs, hcs, _, hl, hm, hz, _, hcell, hwz⟩
  · simp [Value.cells] at hcs
    obtain ⟨rfl, rfl, rfl⟩ := hcs
    exact ⟨[], ⟨_, _, rfl, rfl, fun h => absurd h (by simp)⟩, fun _ h => by cases h⟩
  · simp [Value.cells] at hcs
    obtain ⟨rfl, rfl, rfl⟩ := hcs
    have hz' : zs.length = cap := by simpa using hz
    refine ⟨zs.take len, ⟨some x, cap, ?_, ?_, fun _ => ⟨x, rfl, fun j u hu => ?_⟩⟩, fun s hs => hwz s (List.mem_of_mem_take hs)⟩
    · rw [List.length_take, show min len zs.length = len by omega]
    · simp
    · have hj : j < len := by
        have := (List.getElem?_eq_some_iff.1 hu).1
        simp at this
        omega
      rw [hcell j (by omega), ← hu]
      simp [hj, show j < zs.length by omega]
set_option maxRecDepth 100000 in
theorem arg_nums {k : IntKind} {t e : TypeId} (ht : Try.prog.underlying t = some (.slice e)) (he : Try.prog.underlying e = some (.int k)) (hc : Try.prog.cellsOf e = 1) (hv : Value.okWide Try.prog W .any base t v) (h : DataW.Trod enc Try.prog W 0 (fun _ => true) true t v d p) :
    ∃ q : List Int, NumsIn k W v q := by
  obtain ⟨A, len, cap, rfl⟩ := okWide_slice ht hv
  obtain ⟨fuel, hf⟩ := h
  rcases open_ints ht he hc hf with ⟨hcs, _⟩ | ⟨x, l, c, zs, hcs, _, hl, hm, hz, _, hcell, hwz⟩
  · simp [Value.cells] at hcs
    obtain ⟨rfl, rfl, rfl⟩ := hcs
    exact ⟨[], ⟨_, _, rfl, rfl, fun h => absurd h (by simp)⟩, fun _ h => by cases h⟩
  · simp [Value.cells] at hcs
    obtain ⟨rfl, rfl, rfl⟩ := hcs
    have hz' : zs.length = cap := by simpa using hz
    refine ⟨zs.take len, ⟨some x, cap, ?_, ?_, fun _ => ⟨x, rfl, fun j u hu => ?_⟩⟩, fun s hs => hwz s (List.mem_of_mem_take hs)⟩
    · rw [List.length_take, show min len zs.length = len by omega]
    · simp
    · have hj : j < len := by
        have := (List.getElem?_eq_some_iff.1 hu).1
        simp at this
        omega
      rw [hcell j (by omega), ← hu]
      simp [hj, show j < zs.length by omega]
set_option maxRecDepth 100000 in
theorem arg_u8s (hv : Value.okWide Try.prog W .any base 56 v) (h : DataW.Trod enc Try.prog W 0 (fun _ => true) true 56 v d p) : ∃ q : List Int, NumsIn .u8 W v q := arg_nums Try.underlying56 Try.underlying5 (by kernel_rfl) hv h
end

/-- The first records of a list, made short. -/
def recs (l : List ByteArray) (k : Nat) : List (List UInt8) := (l.take k).map fun s => (sh s).data.toList
theorem recs_succ (l : List ByteArray) (k : Nat) (s : ByteArray) (h : l[k]? = some s) : recs l (k + 1) = recs l k ++ [(sh s).data.toList] := by
  unfold recs
  rw [List.take_add_one, h, List.map_append]
  rfl
theorem recs_len (l : List ByteArray) (k : Nat) (h : k ≤ l.length) : (recs l k).length = k := by
  unfold recs
  rw [List.length_map, List.length_take]
  omega
theorem bs_recs (l : List ByteArray) : ∀ k, bs (recs l k) ≤ k * 216
  | 0 => by simp [recs, bs]
  | k + 1 => by
    have ih := bs_recs l k
    cases h : l[k]? with
    | none =>
      have : recs l (k + 1) = recs l k := by unfold recs; rw [List.take_add_one, h]; simp
      rw [this]; omega
    | some s =>
      rw [recs_succ l k s h, bs_append]
      have h1 := sh_size s
      have h2 : (sh s).data.toList.length = (sh s).size := by rw [Array.length_toList]; rfl
      simp only [bs, h2]
      omega

theorem strs_at {w0 w : World} {L : List HP} {A : Option Addr} {n c : Nat} {l : List ByteArray} (h : At w0 w L) (hr : StrsIn w0 (.slice A n c) l) (hl : l.length = n) (k : Nat) (s : ByteArray) (hk : l[k]? = some s) : ∃ b off, A = some ⟨b, off, none⟩ ∧ w.cell? ⟨b, off + k, none⟩ = some (.string s) ∧ s.size ≤ maxLen := by
  have hkl : k < l.length := (List.getElem?_eq_some_iff.1 hk).1
  have hr1 := hr.1
  rw [hl] at hr1
  obtain ⟨b, off, rfl, hb, hc⟩ := hr1.elem (by omega) (by omega)
  refine ⟨b, off, rfl, ?_, hr.2 s (List.mem_of_getElem? hk)⟩
  rw [h.below.cell (p := ⟨b, off + k, none⟩) hb, hc k (by simp; omega)]
  simp [hk]

attribute [local go_sem] Oper.semAt_some
set_option maxRecDepth 100000 in
set_option maxHeartbeats 2000000 in
theorem open_nil {w0 w : World} {L : List HP} (h : At w0 w L) : Calls Try.prog 41 #[.pointer none] w (OpenNo w0 L 1) := by
  refine (callsIn_wide (n := 5)).1 ?_
  refine callsIn_of_wp_marks Try.func41 rfl trivial ?_ rfl
  simp only [Try.ntmps41, List.size_toArray, List.length_cons, List.length_nil, Nat.reduceAdd, Nat.reduceSub, Array.replicate_succ, Array.replicate_zero, List.push_toArray, List.append_toArray, List.nil_append, List.cons_append]
  refine wpIn_wide.2 ?_
  have h0 := at_alloc (at_alloc (at_alloc h 65 #[.pointer none]) 64 #[.slice none 0 0]) 44 #[.int .i64 0]
  obtain ⟨g0, hg0⟩ : ∃ g0, w.heap.size = g0 := ⟨_, rfl⟩
  simp only [World.size_alloc, hg0] at h0
  have h1 := at_alloc (at_alloc (at_alloc h 65 #[.pointer none]) 64 #[.slice none 0 0]) 44 #[.int .i64 1]
  simp only [World.size_alloc, hg0] at h1
  have c0 := h0.cell 2 rfl 0 _ rfl
  have c1 := h0.cell 1 rfl 0 _ rfl
  have c2 := h0.cell 0 rfl 0 _ rfl
  have H1 := Lib.hid h1
  clear h h0 h1
  go_wp2_with fail
  have k0 := H1.out.cell 2 rfl 0 _ rfl
  have k1 := H1.out.cell 1 rfl 0 _ rfl
  have k2 := H1.out.cell 0 rfl 0 _ rfl
  refine ⟨.tuple #[.pointer none, .slice none 0 0, .int .i64 1], ?_, ?_⟩
  · simp [results, Try.results41, go_sem, k0, k1, k2]
  exact ⟨rfl, H1.out.tail.tail.tail⟩

set_option maxHeartbeats 400000 in
theorem many_cell (w : World) (jb : Nat) (m : Int) (hc : w.cell? ⟨jb, 1, none⟩ = some (.int .i64 m)) : Calls Try.prog 46 #[.pointer (some ⟨jb, 0, none⟩)] w fun r w' => r = .returned (.int .i64 m) ∧ w = w' := by
  go_enter Try.func46, Try.ntmps46
  go_wp2
  go_ret
  exact ⟨rfl, rfl⟩
end Go.Proofs.Ytnfmcmjfpbmloaa
