/-
  The journal's two codes: value and number.
-/
import Derived.Test.YtnfmcmjfpbmloaaDkS
namespace Go.Proofs.Ytnfmcmjfpbmloaa
open Go.RowKit Go.ChangeShapes Go.WideShapes Go.ChangeAt
open Go.ChangeMaps (open_string shut_string)

/-- One more byte, the most significant first. -/
def vstep (x : Int) (o : Option UInt8) : Int := match o with
  | none => wrap64 (x * 256)
  | some b => bits BinOp.or IntKind.i64 (wrap64 (x * 256)) (wrap64 (b.toNat : Int))
/-- The number that the first bytes of a text denote; what lacks is zero. -/
def valN (l : List UInt8) : Nat → Int
  | 0 => 0
  | k + 1 => vstep (valN l k) l[k]?

set_option maxHeartbeats 1000000 in
theorem value_any (s : ByteArray) (wd : Nat) (hw : wd ≤ 8) (w : World) :
    Calls Try.prog 59 #[.string s, .int .i64 (wd : Int)] w fun e w' => e = .returned (.int .i64 (valN s.data.toList wd)) ∧ w = w' := by
  go_enter Try.func59, Try.ntmps59
  go_wp2
  go_loopw [5, 8] (fun n i wr => wr = w ∧ ∃ (k : Nat) (x : Int), k ≤ wd ∧ i = .int .i64 (k : Int) ∧ n = .int .i64 x ∧ Hid (x = valN s.data.toList k)) (fun _ i _ => wd - (intOf i).toNat)
  case atStart => exact ⟨rfl, 0, 0, by omega, rfl, rfl, rfl⟩
  case round =>
    obtain ⟨rfl, k, x, hk, rfl, rfl, HX⟩ := hrel
    by_cases hlt : k < wd
    · have hlI : (k : Int) < (wd : Int) := by omega
      by_cases hs : k < s.size
      · have hsI : (k : Int) < (s.size : Int) := by omega
        have HY : Hid (bits BinOp.or IntKind.i64 (wrap64 (x * 256)) (wrap64 ((s[k]'hs).toNat : Int)) = valN s.data.toList (k + 1)) := by
          show _ = vstep _ _
          rw [← HX.out, Array.getElem?_toList, Array.getElem?_eq_getElem (show k < s.data.size from hs)]
          rfl
        go_wp2
        exact ⟨⟨trivial, k + 1, _, by omega, by go_num, rfl, HY⟩, by simp [intOf]; omega⟩
      · have hsI : ¬ (k : Int) < (s.size : Int) := by omega
        have HY : Hid (wrap64 (x * 256) = valN s.data.toList (k + 1)) := by
          show _ = vstep _ _
          rw [← HX.out, Array.getElem?_toList, Array.getElem?_eq_none (show s.data.size ≤ k by have : s.data.size = s.size := rfl; omega)]
          rfl
        go_wp2
        exact ⟨⟨trivial, k + 1, _, by omega, by go_num, rfl, HY⟩, by simp [intOf]; omega⟩
    · have hlI : ¬ (k : Int) < (wd : Int) := by omega
      obtain rfl : k = wd := by omega
      go_wp2
      go_ret
      exact ⟨congrArg (fun x => Ending.returned (Value.int .i64 x)) HX.out, rfl⟩

theorem vstep_small (x : Nat) (b : UInt8) (hx : x < 36028797018963968) : vstep (x : Int) (some b) = ((x * 256 + b.toNat : Nat) : Int) := by
  have hb : b.toNat < 256 := b.toNat_lt
  have e1 : wrap64 ((x : Int) * 256) = ((x * 256 : Nat) : Int) := by
    rw [IntWalk.wrap64_in _ (by omega)]; omega
  have e2 : wrap64 (b.toNat : Int) = (b.toNat : Int) := by
    rw [IntWalk.wrap64_in _ (by omega)]
  have e3 : x * 256 ||| b.toNat = x * 256 + b.toNat := by
    have := Nat.shiftLeft_add_eq_or_of_lt (i := 8) (b := b.toNat) (by omega) x
    rw [Nat.shiftLeft_eq] at this
    exact this.symm
  show bits BinOp.or IntKind.i64 _ _ = _
  rw [e1, e2]
  show IntKind.i64.wrap (((BitVec.ofInt 64 ((x * 256 : Nat) : Int)) ||| (BitVec.ofInt 64 (b.toNat : Int))).toNat : Int) = _
  rw [BitVec.toNat_or, BitVec.ofInt_natCast, BitVec.ofInt_natCast, BitVec.toNat_ofNat, BitVec.toNat_ofNat, Nat.mod_eq_of_lt (by omega), Nat.mod_eq_of_lt (by omega), e3]
  exact IntWalk.i64_in _ (by omega)

/-- A number as so many bytes, the most significant one first. -/
def be : Nat → Nat → List UInt8
  | 0, _ => []
  | k + 1, n => UInt8.ofNat (n / 256 ^ k) :: be k n

theorem length_be : ∀ (k n : Nat), (be k n).length = k
  | 0, _ => rfl
  | k + 1, n => by simp [be, length_be k n]

theorem mk_bytes (k : Nat) (hk : k < 16777217) (W : World) : (Instr.makeSlice 56 (.int .i64 (k : Int)) (.int .i64 (k : Int))).run Try.prog W = .ok (.slice (some ⟨W.heap.size, 0, none⟩) k k) (W.alloc (.cells (madeCells #[.int .u8 0] k) 5)) := by
  have hinfo : (Try.prog.info? 5).map (fun i => (i.zero, i.size, i.bytes)) = some (some (.int .u8 0), 1, 1) := by kernel_rfl
  obtain ⟨i, hi, hzz⟩ := Option.map_eq_some_iff.1 hinfo
  simp only [Prod.mk.injEq] at hzz
  obtain ⟨hz, hs, hb⟩ := hzz
  have hr := run_make (P := Try.prog) W 56 5 i (.int .u8 0) (by kernel_rfl) hi hz .i64 .i64 k k (by omega) (by omega) (by rw [hb]; omega) (by omega)
  simp only [Int.toNat_natCast, hs, Nat.mul_one] at hr
  exact hr

theorem made_bys (k : Nat) : madeCells #[.int .u8 0] k = (bys (List.replicate k 0)).toArray := by
  apply Array.toList_inj.1
  rw [toList_madeCells_one]
  simp [bys]

theorem bys_get (l : List UInt8) (j : Nat) : (bys l)[j]? = l[j]?.map fun b => .int .u8 (b.toNat : Int) := by simp [bys]

theorem be_byte (n k : Nat) : (.int .u8 ((n : Int) / 2 ^ (8 * k) % 256) : Value) = .int .u8 ((UInt8.ofNat (n / 256 ^ k)).toNat : Int) := by
  have h : (2 : Int) ^ (8 * k) = ((256 ^ k : Nat) : Int) := by
    rw [Int.natCast_pow, Int.pow_mul]; rfl
  rw [h]
  congr 1

theorem be_step (wd k n : Nat) (hk : k < wd) : (bys (List.replicate (wd - k) 0 ++ be k n)).toArray.setIfInBounds (wd - 1 - k) (.int .u8 ((UInt8.ofNat (n / 256 ^ k)).toNat : Int)) = (bys (List.replicate (wd - (k + 1)) 0 ++ be (k + 1) n)).toArray := by
  obtain ⟨m, rfl⟩ : ∃ m, wd = m + 1 + k := ⟨wd - 1 - k, by omega⟩
  rw [show m + 1 + k - k = m + 1 by omega, show m + 1 + k - 1 - k = m by omega, show m + 1 + k - (k + 1) = m by omega, List.replicate_succ']
  rw [List.setIfInBounds_toArray]
  congr 1
  simp [bys, be]

set_option maxHeartbeats 1000000 in
theorem number_any (n wd : Nat) (hw : wd ≤ 8) (w : World) :
    Calls Try.prog 64 #[.int .i64 (n : Int), .int .i64 (wd : Int)] w fun e w' => e = .returned (.string (str (be wd n))) ∧ Below w.heap.size w w' := by
  have hmk := mk_bytes wd (by omega)
  go_enter Try.func64, Try.ntmps64
  go_wp2
  go_loopw [11] (fun i wr => ∃ (k : Nat), k ≤ wd ∧ i = .int .i64 (k : Int) ∧ Hid (At w wr [bl w.heap.size 5 (bys (List.replicate (wd - k) 0 ++ be k n)).toArray])) (fun i _ => wd - (intOf i).toNat)
  case atStart =>
    refine ⟨0, by omega, rfl, ?_⟩
    have := at_alloc (At.start w) 5 (madeCells #[.int .u8 0] wd)
    rw [made_bys] at this ⊢
    show At _ _ _
    simpa [be] using this
  case round =>
    obtain ⟨k, hk, rfl, HA⟩ := hrel
    by_cases hlt : k < wd
    · have hlI : (k : Int) < (wd : Int) := by omega
      have hf : wr.frozen? ⟨w.heap.size, wd - 1 - k, none⟩ = false := frozen_of_row wr w.heap.size _ _ _ (HA.out.block 0 rfl)
      have hc : wr.cell? ⟨w.heap.size, wd - 1 - k, none⟩ = some (.int .u8 0) := HA.out.cell 0 rfl _ _ (by
        rw [List.getElem?_toArray, bys_get, List.getElem?_append_left (by simp; omega), List.getElem?_replicate, if_pos (by omega)]
        rfl)
      go_wp2
      refine ⟨⟨k + 1, by omega, by go_num, ?_⟩, by simp [intOf]; omega⟩
      rw [be_byte]
      exact at_set HA.out 0 rfl _ _ _ (be_step wd k n hlt)
    · have hlI : ¬ (k : Int) < (wd : Int) := by omega
      obtain rfl : k = wd := by omega
      have hcv : (convert 56 9 (.slice (some ⟨w.heap.size, 0, none⟩) k k)).run Try.prog wr = .ok (.string (str (be k n))) wr := by
        refine run_string (l := be k n) (e := 5) (by kernel_rfl) (by kernel_rfl) (by kernel_rfl) ?_ (fun ad h => by injection h with h; subst h; rfl)
        refine ⟨_, _, rfl, by simp [bys, length_be], fun _ => ⟨_, rfl, fun i u hu => ?_⟩⟩
        rw [Addr.add_lit, Nat.zero_add]
        exact HA.out.cell 0 rfl i u (by rw [List.getElem?_toArray]; simpa using hu)
      go_wp2
      go_ret
      exact ⟨rfl, HA.out.below⟩

end Go.Proofs.Ytnfmcmjfpbmloaa
