/-
  The contracts of Mod, repeated and sanity (the chapter's examples).
-/
import Derived.Test.YtnfmcmjfpbmloaaDkJ
namespace Go.Proofs.Ytnfmcmjfpbmloaa
open Go.RowKit

theorem tmod_lt' (n m : Int) (hm : 0 < m) : -m < n.tmod m ∧ n.tmod m < m :=
  ⟨Int.lt_tmod_of_pos n hm, Int.tmod_lt_of_pos n hm⟩
theorem tmod_emod (n m : Int) : (n.tmod m + m) % m = n % m := by
  have h := Int.tmod_add_mul_tdiv n m
  have : n.tmod m + m = n + m * (1 - n.tdiv m) := by
    have e : m * (1 - n.tdiv m) = m - m * n.tdiv m := by rw [Int.mul_sub, Int.mul_one]
    omega
  rw [this, Int.add_mul_emod_self_left]

set_option maxHeartbeats 400000 in
theorem mod_any (n m : Int) (w : World) (hm : 0 < m) (hm2 : m ≤ 1000000) :
    Calls Try.prog 29 #[.int .i64 n, .int .i64 m] w fun e w' => e = .returned (.int .i64 (n % m)) ∧ w = w' := by
  obtain ⟨h1, h2⟩ := tmod_lt' n m hm
  have H := Lib.hid (tmod_emod n m)
  have hm0 : (m == 0) = false := by simp; omega
  go_enter Try.func29, Try.ntmps29
  go_wp2
  go_ret
  exact ⟨congrArg (fun x => Ending.returned (Value.int .i64 x)) H.out, rfl⟩

/-- k of n bytes are laid. -/
def RRel (w : World) (c : UInt8) (n k : Nat) (wr : World) : Prop :=
  wr.ownsRow 0 5 1 (.slice (some ⟨w.heap.size, 0, none⟩) n n) n (bys (List.replicate k c ++ List.replicate (n - k) 0)) ∧ Below w.heap.size w wr

theorem RRel.set {w : World} {c : UInt8} {n k : Nat} {wr : World} (h : RRel w c n k wr) (hk : k < n) : RRel w c n (k + 1) (wr.setCell ⟨w.heap.size, k, none⟩ (.int .u8 (c.toNat : Int))) := by
  obtain ⟨h1, h2⟩ := h
  refine ⟨?_, h2.setCell (p := ⟨w.heap.size, k, none⟩) (Nat.le_refl _) _⟩
  have := (h1.stored k (.int .u8 (c.toNat : Int))).1
  have e : (bys (List.replicate k c ++ List.replicate (n - k) 0)).set k (.int .u8 (c.toNat : Int)) = bys (List.replicate (k + 1) c ++ List.replicate (n - (k + 1)) 0) := by
    unfold bys
    rw [← List.map_set]
    congr 1
    rw [show n - k = (n - (k + 1)) + 1 by omega, List.replicate_succ, List.set_append]
    simp [List.replicate_succ']
  rw [e] at this
  exact this

set_option maxRecDepth 100000 in
set_option maxHeartbeats 400000 in
theorem repeated_any (c : UInt8) (n : Nat) (w : World) (hn : n ≤ 100000) :
    Calls Try.prog 33 #[.int .u8 (c.toNat : Int), .int .i64 (n : Int)] w fun e w' => e = .returned (.string (str (List.replicate n c))) ∧ Below w.heap.size w w' := by
  obtain ⟨i0, hi, hz0, hz1, hz2⟩ := info_parts u8_info
  go_enter Try.func33, Try.ntmps33
  go_wp2_with (at_make; refine wpList_make_full _ rfl _ _ 56 rfl 0 5 i0 _ 1 Try.underlying56 hi hz0 hz1 _ _ _ _ n rfl rfl rfl rfl (by rw [hz2]; omega) (by simp only [maxLen]; omega) (Nat.zero_le _) ?_; intro w1 hown hgr)
  have HR0 : Hid (RRel w c n 0 w1) := by
    refine ⟨?_, (Below.refl _ _).grown hgr (Nat.le_refl _) (by simp)⟩
    have e : (madeCells (Value.cells (.int .u8 0)) (n * 1)).toList = bys (List.replicate 0 c ++ List.replicate (n - 0) 0) := by
      rw [Nat.mul_one, show Value.cells (.int .u8 0) = #[.int .u8 0] from rfl, toList_madeCells_one]
      simp [bys]
    rw [e] at hown
    exact hown
  clear hown hgr
  go_loopw [6] (fun i wr => ∃ k : Nat, k ≤ n ∧ i = .int .i64 (k : Int) ∧ Hid (RRel w c n k wr)) (fun i _ => n - (intOf i).toNat)
  case atStart => exact ⟨0, Nat.zero_le _, rfl, HR0⟩
  case round =>
    obtain ⟨k, hk, rfl, HR⟩ := hrel
    by_cases hlt : k < n
    · have hc : ∃ u, wr.cell? ⟨w.heap.size, k, none⟩ = some u := by
        have := HR.out.1.cellAt k (by omega)
        rw [this]
        exact ⟨_, List.getElem?_eq_getElem (by rw [length_bys]; simp; omega)⟩
      obtain ⟨u, hu⟩ := hc
      have hf := HR.out.1.frozenAt k
      have HR' := Lib.hid (HR.out.set hlt)
      go_wp2
      exact ⟨⟨k + 1, by omega, by go_num, HR'⟩, by simp [intOf]; omega⟩
    · have hkn : k = n := by omega
      have hr : Reads wr 1 (.slice (some ⟨w.heap.size, 0, none⟩) n n) n (bys (List.replicate n c)) := by
        have := Reads.of_own HR.out.1
        rw [hkn] at this
        simpa using this
      have kc : (convert 56 9 (.slice (some ⟨w.heap.size, 0, none⟩) n n)).run Try.prog wr = .ok (.string (str (List.replicate n c))) wr :=
        run_string Try.underlying56 Try.underlying5 Try.underlying9 hr (by rintro ad h; injection h with h; rw [← h])
      have HB := Lib.hid HR.out.2
      clear hr hkn HR
      go_wp2
      go_ret
      exact ⟨rfl, HB.out⟩

section
variable {w0 w : World} {L : List HP} {g : Nat} {σ : DS}
theorem at_repeated (h : At w0 w L) (c : UInt8) (n : Nat) (hn : n ≤ 100000) :
    Calls Try.prog 33 #[.int .u8 (c.toNat : Int), .int .i64 (n : Int)] w fun e w' => e = .returned (.string (str (List.replicate n c))) ∧ At w0 w' L := by
  refine (repeated_any c n w hn).mono ?_
  rintro e w' ⟨rfl, hb⟩
  exact ⟨rfl, h.keep (Turns.below hb)⟩

theorem at_write_c (h : At w0 w L) (i : Nat) (hi : L[i]? = some (dk g σ)) (hn : σ.n < 100000) (off : Int) (s : ByteArray) (c : Int) (hE : σ.writeE off s.data.toList = c) (σ' : DS) (hσ : σ.write off s.data.toList = σ') :
    Calls Try.prog 34 #[.pointer (some ⟨g, 0, none⟩), .int .i64 off, .string s] w fun e w' => e = .returned (.int .i64 c) ∧ At w0 w' (L.set i (dk g σ')) := by
  subst hE hσ
  exact at_write h i hi hn off s
theorem at_sync_c (h : At w0 w L) (i : Nat) (hi : L[i]? = some (dk g σ)) (hn : σ.n < 100000) (c : Int) (hE : σ.syncE = c) (σ' : DS) (hσ : σ.sync = σ') :
    Calls Try.prog 35 #[.pointer (some ⟨g, 0, none⟩)] w fun e w' => e = .returned (.int .i64 c) ∧ At w0 w' (L.set i (dk g σ')) := by
  subst hE hσ
  exact at_sync h i hi hn
theorem at_read_c (h : At w0 w L) (i : Nat) (hi : L[i]? = some (dk g σ)) (off n : Int) (s : ByteArray) (hs : str (σ.read off n) = s) :
    Calls Try.prog 36 #[.pointer (some ⟨g, 0, none⟩), .int .i64 off, .int .i64 n] w fun e w' => e = .returned (.string s) ∧ At w0 w' L := by
  subst hs
  exact at_read h i hi off n
theorem at_size_c (h : At w0 w L) (i : Nat) (hi : L[i]? = some (dk g σ)) (c : Int) (hc : (σ.now.length : Int) = c) :
    Calls Try.prog 24 #[.pointer (some ⟨g, 0, none⟩)] w fun e w' => e = .returned (.int .i64 c) ∧ w = w' := by
  subst hc
  exact at_size h i hi
theorem at_calls_c (h : At w0 w L) (i : Nat) (hi : L[i]? = some (dk g σ)) (c : Int) (hc : (σ.n : Int) = c) :
    Calls Try.prog 26 #[.pointer (some ⟨g, 0, none⟩)] w fun e w' => e = .returned (.int .i64 c) ∧ w = w' := by
  subst hc
  exact at_calls h i hi
end

/-! ### the chapter's examples -/
def sA1 : DS := DS.new.write 2 [97, 98]
def sA2 : DS := sA1.sync
def sA3 : DS := sA2.write 3 [120, 121, 122]
def sC : DS := sA3.crash []
def sE1 : DS := DS.new.write 60 (List.replicate 70 120)
def sF : DS := sE1.crash [0, 1]
def sG1 : DS := DS.new.fail 1
def sG2 : DS := sG1.sync

theorem reads_nil (w : World) : Reads w 1 (.slice none 0 0) ([] : List Int).length (([] : List Int).map (.int .i64)) := ⟨_, _, rfl, rfl, fun h => absurd h (by simp)⟩

set_option maxRecDepth 100000 in
set_option maxHeartbeats 400000 in
theorem sanity_any (w : World) : Calls Try.prog 20 #[] w fun e w' => e = .returned (.bool true) ∧ Below w.heap.size w w' := by
  have HA := Lib.hid (At.start w)
  go_enter Try.func20, Try.ntmps20
  go_wp2_with fail
  refine (at_new HA.out).mono ?_
  rintro e w1 ⟨rfl, h⟩
  have HA1 := Lib.hid h
  clear h HA
  go_wp2_with fail
  refine (at_write_c HA1.out 0 rfl (by decide +kernel) _ _ 0 (by decide +kernel) sA1 rfl).mono ?_
  rintro e w2 ⟨rfl, h⟩
  have HA2 := Lib.hid h
  clear h HA1
  go_wp2_with fail
  refine (at_size_c HA2.out 0 rfl 4 (by decide +kernel)).mono ?_
  rintro e w2' ⟨rfl, rfl⟩
  go_wp2_with fail
  refine (at_read_c HA2.out 0 rfl _ _ ⟨#[0, 0, 97, 98]⟩ (by decide +kernel)).mono ?_
  rintro e w3 ⟨rfl, h⟩
  have HA3 := Lib.hid h
  clear h HA2
  go_wp2_with fail
  refine (at_sync_c HA3.out 0 rfl (by decide +kernel) 0 (by decide +kernel) sA2 rfl).mono ?_
  rintro e w4 ⟨rfl, h⟩
  have HA4 := Lib.hid h
  clear h HA3
  go_wp2_with fail
  refine (at_write_c HA4.out 0 rfl (by decide +kernel) _ _ 0 (by decide +kernel) sA3 rfl).mono ?_
  rintro e w5 ⟨rfl, h⟩
  have HA5 := Lib.hid h
  clear h HA4
  go_wp2_with fail
  refine (at_crash HA5.out 0 rfl _ [] (reads_nil _)).mono ?_
  rintro e w6 ⟨rfl, h⟩
  have HA6 := Lib.hid h
  clear h HA5
  go_wp2_with fail
  refine (at_new HA6.out).mono ?_
  rintro e w7 ⟨rfl, h⟩
  have HA7 := Lib.hid h
  clear h HA6
  go_wp2_with fail
  refine (at_repeated HA7.out 120 70 (by decide +kernel)).mono ?_
  rintro e w8 ⟨rfl, h⟩
  have HA8 := Lib.hid h
  clear h HA7
  go_wp2_with fail
  refine (at_write_c HA8.out 0 rfl (by decide +kernel) _ _ 0 (by decide +kernel) sE1 rfl).mono ?_
  rintro e w9 ⟨rfl, h⟩
  have HA9 := Lib.hid h
  clear h HA8
  go_wp2_with fail
  refine (at_crash (HA9.out.alloc _) 0 rfl _ [0, 1] (reads_new w9 3 [.int .i64 0, .int .i64 1] 2 1 2 rfl)).mono ?_
  rintro e w10 ⟨rfl, h⟩
  rw [World.size_alloc] at h
  have HA10 := Lib.hid h
  clear h HA9
  go_wp2_with fail
  refine (at_new HA10.out).mono ?_
  rintro e w11 ⟨rfl, h⟩
  have HA11 := Lib.hid h
  clear h HA10
  go_wp2_with fail
  refine (at_fail HA11.out 0 rfl 1 (by decide +kernel)).mono ?_
  rintro e w12 ⟨rfl, h⟩
  have HA12 := Lib.hid h
  clear h HA11
  go_wp2_with fail
  refine (at_sync_c HA12.out 0 rfl (by decide +kernel) 0 (by decide +kernel) sG2 rfl).mono ?_
  rintro e w13 ⟨rfl, h⟩
  have HA13 := Lib.hid h
  clear h HA12
  go_wp2_with fail
  refine (at_write_c HA13.out 0 rfl (by decide +kernel) _ _ 70 (by decide +kernel) sG2 (by kernel_rfl)).mono ?_
  rintro e w14 ⟨rfl, h⟩
  have HA14 := Lib.hid h
  clear h HA13
  go_wp2_with fail
  refine (at_write_c HA14.out 0 rfl (by decide +kernel) _ _ 1 (by decide +kernel) sG2 (by kernel_rfl)).mono ?_
  rintro e w15 ⟨rfl, h⟩
  have HA15 := Lib.hid h
  clear h HA14
  go_wp2_with fail
  refine (at_calls_c HA15.out 0 rfl 1 (by decide +kernel)).mono ?_
  rintro e w15' ⟨rfl, rfl⟩
  go_wp2_with fail
  refine (at_read_c HA15.out 3 rfl _ _ ⟨#[0, 0, 97, 98]⟩ (by decide +kernel)).mono ?_
  rintro e w16 ⟨rfl, h⟩
  have HA16 := Lib.hid h
  clear h HA15
  go_wp2_with fail
  refine (at_size_c HA16.out 1 rfl 128 (by decide +kernel)).mono ?_
  rintro e w16' ⟨rfl, rfl⟩
  go_wp2_with fail
  refine (at_read_c HA16.out 1 rfl _ _ ⟨#[0, 0, 0, 0, 120, 120, 120, 120, 120]⟩ (by decide +kernel)).mono ?_
  rintro e w17 ⟨rfl, h⟩
  have HA17 := Lib.hid h
  clear h HA16
  go_wp2_with fail
  go_ret
  exact ⟨rfl, HA17.out.below⟩
end Go.Proofs.Ytnfmcmjfpbmloaa
