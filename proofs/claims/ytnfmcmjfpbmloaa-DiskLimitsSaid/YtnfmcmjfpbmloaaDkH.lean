/-
  The contracts of Read, Size, Calls, Fail.
-/
import Derived.Test.YtnfmcmjfpbmloaaDkG
import Derived.Laws.BytesArg
namespace Go.Proofs.Ytnfmcmjfpbmloaa
open Go.RowKit

/-- A list of bytes as a string. -/
def str (l : List UInt8) : ByteArray := ⟨l.toArray⟩
theorem str_data (l : List UInt8) : (str l).data.toList = l := rfl
theorem str_size (l : List UInt8) : (str l).size = l.length := by simp [str, ByteArray.size]
theorem str_of (s : ByteArray) : str s.data.toList = s := rfl

theorem strOfNums_bys (l : List UInt8) : strOfNums (l.map fun b => (b.toNat : Int)) = str l := by
  unfold strOfNums str
  congr 2
  rw [List.map_map]
  conv => rhs; rw [← List.map_id l]
  apply List.map_congr_left
  intro b _
  simp

/-- string(b), b a slice of bytes. -/
theorem run_string {P : Program} {w : World} {src e dst : TypeId} (hs : P.underlying src = some (.slice e)) (he : P.underlying e = some (.int .u8)) (hd : P.underlying dst = some .string) {A : Option Addr} {n c : Nat} {l : List UInt8}
    (hr : Reads w 1 (.slice A n c) n (bys l)) (hp : ∀ ad, A = some ad → ad.spot = none) : (convert src dst (.slice A n c)).run P w = .ok (.string (str l)) w := by
  obtain ⟨A', c', h1, hl, hc⟩ := hr
  injection h1 with h1 h2 h3
  subst h1 h3
  have hn : l.length = n := by simpa [length_bys] using hl
  cases A with
  | none =>
    have h0 : n = 0 := by
      rcases Nat.eq_zero_or_pos n with h | h
      · exact h
      · obtain ⟨ad, h', _⟩ := hc h
        cases h'
    subst h0
    obtain rfl : l = [] := List.eq_nil_of_length_eq_zero hn
    exact run_convert_bytes_nil w src e hs he 0 c dst hd
  | some ad =>
    obtain ⟨b, off, sp⟩ := ad
    obtain rfl : sp = none := hp _ rfl
    have := run_convert_bytes_arg (P := P) w src e hs he b off n c (l.map fun b => (b.toNat : Int)) (by simpa using hn) (fun i hi => by
      obtain ⟨ad', h', hcell⟩ := hc (by omega)
      injection h' with h'
      subst h'
      have := hcell i (.int .u8 ((l[i]'(by omega)).toNat : Int)) (by simp [bys, show i < l.length by omega])
      rw [Addr.add_lit] at this
      rw [this]
      simp [List.getD, show i < l.length by omega]) dst hd
    rw [strOfNums_bys] at this
    exact this

section
variable {w : World} {g : Nat} {σ : DS} {S : Nat → Prop} {vn vs vp : Value} {l : Int} {xs : List Value}

set_option maxRecDepth 100000 in
set_option maxHeartbeats 400000 in
theorem read_yes (d : DiskAt w g σ S vn vs vp l xs) (off : Nat) (n : Int) (h1 : 1 ≤ n) (hlt : off < σ.now.length) :
    Calls Try.prog 36 #[.pointer (some ⟨g, 0, none⟩), .int .i64 off, .int .i64 n] w fun e w' => e = .returned (.string (str ((σ.now.drop off).take n.toNat))) ∧ ∃ m, w' = w.drewN m := by
  obtain ⟨gn, cn, rfl, hcn⟩ := own_form d.now (by omega)
  have c0 := d.cell 0
  simp at c0
  have hnow := d.ok.now
  have l0 : ¬ ((σ.now.length : Int) ≤ off) := by omega
  obtain ⟨N, hN⟩ : ∃ N : Nat, min n ((σ.now.length : Int) - off) = N := ⟨(min n ((σ.now.length : Int) - off)).toNat, by omega⟩
  have hN1 : N ≤ σ.now.length - off := by omega
  have hrd : Reads w 1 (.slice (some ⟨gn, off, none⟩) N (cn - off)) N (bys ((σ.now.drop off).take n.toNat)) := by
    refine ⟨_, _, rfl, ?_, fun _ => ⟨_, rfl, fun j u hu => ?_⟩⟩
    · rw [length_bys, List.length_take, List.length_drop]; omega
    · have hj : j < N := by
        have := (List.getElem?_eq_some_iff.1 hu).1
        rw [length_bys, List.length_take, List.length_drop] at this
        omega
      rw [Addr.add_lit, d.now.cellAt (off + j) (by omega), ← hu]
      simp only [bys, List.getElem?_map, List.getElem?_take, List.getElem?_drop]
      rw [if_pos (by omega)]
  have kc : ∀ m, (convert 56 9 (.slice (some ⟨gn, off, none⟩) N (cn - off))).run Try.prog (w.drewN m) = .ok (.string (str ((σ.now.drop off).take n.toNat))) (w.drewN m) := fun m =>
    run_string (w := w.drewN m) Try.underlying56 Try.underlying5 Try.underlying9 hrd (by rintro ad h; injection h with h; rw [← h])
  clear d hrd
  have q1 : off ≤ σ.now.length := by omega
  have q2 : ¬ (cn = off) := by omega
  have q3 : IntKind.i64.wrap ((σ.now.length : Int) - off) = (σ.now.length : Int) - off := IntWalk.i64_in _ (by omega)
  have q4 : N ≤ cn - off := by omega
  have q5 : ¬ (cn - off = 0) := by omega
  have q6 : (N : Int) ≤ ((cn - off : Nat) : Int) := by omega
  go_enter Try.func36, Try.ntmps36
  go_wp2
  go_quiet (fail)
  go_wp2
  go_ret
  exact ⟨rfl, _, rfl⟩

set_option maxHeartbeats 400000 in
theorem read_neg (w : World) (a : Addr) (off n : Int) (h : off < 0) :
    Calls Try.prog 36 #[.pointer (some a), .int .i64 off, .int .i64 n] w fun e w' => e = .returned (.string (str [])) ∧ w = w' := by
  go_enter Try.func36, Try.ntmps36
  go_wp2
  go_ret
  exact ⟨rfl, rfl⟩
set_option maxHeartbeats 400000 in
theorem read_few (w : World) (a : Addr) (off n : Int) (h0 : 0 ≤ off) (h : n < 1) :
    Calls Try.prog 36 #[.pointer (some a), .int .i64 off, .int .i64 n] w fun e w' => e = .returned (.string (str [])) ∧ w = w' := by
  go_enter Try.func36, Try.ntmps36
  go_wp2
  go_ret
  exact ⟨rfl, rfl⟩
set_option maxHeartbeats 400000 in
theorem read_far (w : World) (g : Nat) (A : Option Addr) (m c : Nat) (off n : Int) (h0 : 0 ≤ off) (h1 : 1 ≤ n) (hc : w.cell? ⟨g, 0, none⟩ = some (.slice A m c)) (h : (m : Int) ≤ off) :
    Calls Try.prog 36 #[.pointer (some ⟨g, 0, none⟩), .int .i64 off, .int .i64 n] w fun e w' => e = .returned (.string (str [])) ∧ w = w' := by
  go_enter Try.func36, Try.ntmps36
  go_wp2
  go_ret
  exact ⟨rfl, rfl⟩
end

theorem read_any {w : World} {g : Nat} {σ : DS} {S : Nat → Prop} (h : IsDisk w g σ S) (off n : Int) :
    Calls Try.prog 36 #[.pointer (some ⟨g, 0, none⟩), .int .i64 off, .int .i64 n] w fun e w' => e = .returned (.string (str (σ.read off n))) ∧ ∃ m, w' = w.drewN m := by
  obtain ⟨vn, vs, vp, l, xs, d⟩ := h
  have same : ∀ {e : Ending} {w' : World}, e = .returned (.string (str [])) ∧ w = w' → σ.read off n = [] → e = .returned (.string (str (σ.read off n))) ∧ ∃ m, w' = w.drewN m := by
    rintro e w' ⟨rfl, rfl⟩ h
    exact ⟨by rw [h], 0, rfl⟩
  unfold DS.read
  unfold DS.read at same
  by_cases h0 : off < 0
  · exact (read_neg w _ off n h0).mono fun e w' h => same h (if_pos (.inl h0))
  by_cases h1 : n < 1
  · exact (read_few w _ off n (by omega) h1).mono fun e w' h => same h (if_pos (.inr h1))
  obtain ⟨k, rfl⟩ := Int.eq_ofNat_of_zero_le (show 0 ≤ off by omega)
  rw [if_neg (by omega)] at same ⊢
  by_cases h2 : k < σ.now.length
  · exact read_yes d k n (by omega) h2
  · obtain ⟨A, c, rfl, _⟩ := own_slice d.now
    have c0 := d.cell 0
    simp at c0
    refine (read_far w g A _ c k n (by omega) (by omega) c0 (by omega)).mono fun e w' h => same h ?_
    rw [Int.toNat_natCast, List.drop_of_length_le (by omega)]
    simp

theorem size_is {w : World} {g : Nat} {σ : DS} {S : Nat → Prop} (h : IsDisk w g σ S) : Calls Try.prog 24 #[.pointer (some ⟨g, 0, none⟩)] w fun e w' => e = .returned (.int .i64 (σ.now.length : Int)) ∧ w = w' := by
  obtain ⟨vn, vs, vp, l, xs, d⟩ := h
  obtain ⟨A, c, rfl, _⟩ := own_slice d.now
  have c0 := d.cell 0
  simp at c0
  exact size_any w g A _ c c0

theorem calls_is {w : World} {g : Nat} {σ : DS} {S : Nat → Prop} (h : IsDisk w g σ S) : Calls Try.prog 26 #[.pointer (some ⟨g, 0, none⟩)] w fun e w' => e = .returned (.int .i64 (σ.n : Int)) ∧ w = w' := by
  obtain ⟨vn, vs, vp, l, xs, d⟩ := h
  have c3 := d.cell 3
  simp at c3
  exact calls_any w g _ c3

theorem fail_is {w : World} {g : Nat} {σ : DS} {S : Nat → Prop} (h : IsDisk w g σ S) (n : Int) (hn : n ≤ 9223372036854775807) :
    Calls Try.prog 37 #[.pointer (some ⟨g, 0, none⟩), .int .i64 n] w fun e w' => e = .returned (.tuple #[]) ∧ Then w g S (σ.fail n) w' := by
  obtain ⟨vn, vs, vp, l, xs, d⟩ := h
  have c4 := d.cell 4
  have c5 := d.cell 5
  simp at c4 c5
  refine (fail_any w g n _ _ c4 c5 (d.frozen 4) (d.frozen 5)).mono ?_
  rintro e w' ⟨rfl, rfl⟩
  have ht := turns_two w g 4 5 (.bool (decide (-1 < n))) (.int .i64 n)
  refine ⟨rfl, S, ?_, ht.mono fun i _ h => by rw [h]; exact d.inG, fun k hk => .inl hk⟩
  refine ⟨vn, vs, vp, n, xs, ?_⟩
  refine d.set (n' := σ.n) (lim' := decide (0 ≤ n)) (left' := n.toNat) ?_ ht ?_ (d.ok.fail n hn)
  · rw [heap_setCell_same _ g 5 _ _ _ (heap_setCell_same w g 4 _ _ _ d.blk)]
    have : decide (-1 < n) = decide (0 ≤ n) := by simp only [decide_eq_decide]; omega
    simp [this]
  · intro h
    simp at h
    omega
end Go.Proofs.Ytnfmcmjfpbmloaa
