/-
  The reference's disk in memory, and the contracts of its Put, off, Sync, New, Size, Calls, Fail.
-/
import Derived.Test.YtnfmcmjfpbmloaaDkK
namespace Go.Proofs.Ytnfmcmjfpbmloaa
open Go.RowKit

theorem str_ext {a b : ByteArray} (h : a.data.toList = b.data.toList) : a = b := by
  obtain ⟨⟨a⟩⟩ := a
  obtain ⟨⟨b⟩⟩ := b
  simp at h
  subst h
  rfl
theorem app_data (a b : ByteArray) : (a ++ b).data.toList = a.data.toList ++ b.data.toList := by simp

theorem made_string {w w1 : World} {m : Nat} (hown : w1.ownsRow 0 5 1 (.slice (some ⟨w.heap.size, 0, none⟩) m m) m (madeCells (Value.cells (.int .u8 0)) (m * 1)).toList) :
    (convert 56 9 (.slice (some ⟨w.heap.size, 0, none⟩) m m)).run Try.prog w1 = .ok (.string (str (List.replicate m 0))) w1 := by
  refine run_string Try.underlying56 Try.underlying5 Try.underlying9 ?_ (by rintro ad h; injection h with h; rw [← h])
  have := Reads.of_own hown
  have e : (madeCells (Value.cells (.int .u8 0)) (m * 1)).toList = bys (List.replicate m 0) := by
    rw [Nat.mul_one, show Value.cells (.int .u8 0) = #[.int .u8 0] from rfl, toList_madeCells_one]
    simp [bys]
  rw [e] at this
  exact this

theorem lay_pad (c s : List UInt8) (off : Nat) (h : off ≤ c.length) : lay c off s = c.take off ++ (s ++ c.drop (off + s.length)) := by
  unfold lay
  rw [show off - c.length = 0 by omega]
  simp
theorem lay_padded (c s : List UInt8) (off : Nat) : lay (c ++ List.replicate (off - c.length) 0) off s = lay c off s := by
  by_cases h : off ≤ c.length
  · rw [show off - c.length = 0 by omega]
    simp
  · rw [lay_pad _ _ _ (by simp; omega)]
    unfold lay
    congr 2
    rw [List.drop_of_length_le (by simp; omega), List.drop_of_length_le (by omega)]

/-- Put's end, the text going to the end or beyond. -/
theorem put_end (c : ByteArray) (s : ByteArray) (off : Nat) (h : off ≤ c.size) (h2 : c.size ≤ off + s.size) : c.extract 0 off ++ s = str (lay c.data.toList off s.data.toList) := by
  apply str_ext
  rw [app_data, Lib.extract_data, str_data, lay_pad _ _ _ (by simpa using h), List.drop_zero, Nat.sub_zero, List.drop_of_length_le (by simp; omega), List.append_nil]
theorem put_mid (c : ByteArray) (s : ByteArray) (off : Nat) (h : off ≤ c.size) : c.extract 0 off ++ s ++ c.extract (off + s.size) c.size = str (lay c.data.toList off s.data.toList) := by
  have h1 : (c.extract (off + s.size) c.size).data.toList = c.data.toList.drop (off + s.size) := by rw [Lib.extract_data, List.take_of_length_le (by simp)]
  apply str_ext
  rw [app_data, app_data, Lib.extract_data, h1, str_data, lay_pad _ _ _ (by simpa using h), List.drop_zero, Nat.sub_zero, List.append_assoc]
  simp

set_option maxRecDepth 100000 in
set_option maxHeartbeats 400000 in
theorem rput_any (w : World) (c s : ByteArray) (off : Nat) (ho : off ≤ 16777216) (hs : s.size ≤ 16777216) (hc : c.size ≤ 16777216) :
    Calls Try.prog 54 #[.string c, .int .i64 (off : Int), .string s] w fun e w' => e = .returned (.string (str (lay c.data.toList off s.data.toList))) ∧ Below w.heap.size w w' := by
  obtain ⟨i0, hi, hz0, hz1, hz2⟩ := info_parts u8_info
  go_enter Try.func54, Try.ntmps54
  go_wp2
  go_loopw [0] (fun x wr => ∃ c' : ByteArray, x = .string c' ∧ c'.size ≤ 16777216 ∧ Hid (c'.data.toList = c.data.toList ∨ (off ≤ c'.size ∧ c'.data.toList = c.data.toList ++ List.replicate (off - c.size) 0)) ∧ Hid (Below w.heap.size w wr)) (fun x _ => off - strLen x)
  case atStart => exact ⟨c, rfl, hc, .inl rfl, Below.refl _ _⟩
  case round =>
    obtain ⟨c', rfl, hc', Hc, Hb⟩ := hrel
    by_cases hlt : c'.size < off
    · have hle : c'.size ≤ off := by omega
      have hex : ∃ m : Nat, (off : Int) - c'.size = m := ⟨off - c'.size, by omega⟩
      obtain ⟨m, hm⟩ := hex
      have hm2 : m ≤ 16777216 := by omega
      have HA : Hid ((c' ++ str (List.replicate m 0)).data.toList = c.data.toList ∨ (off ≤ (c' ++ str (List.replicate m 0)).size ∧ (c' ++ str (List.replicate m 0)).data.toList = c.data.toList ++ List.replicate (off - c.size) 0)) := by
        rcases Hc.out with h | ⟨h, _⟩
        · refine .inr ⟨by simp [str_size]; omega, ?_⟩
          have hsz : c'.size = c.size := by
            have := congrArg List.length h
            simpa using this
          rw [app_data, str_data, h, show m = off - c.size by omega]
        · omega
      have hsz2 := Lib.hid (show (c' ++ str (List.replicate m 0)).size ≤ 16777216 by simp [str_size]; omega)
      have hm3 := Lib.hid (show off - (c' ++ str (List.replicate m 0)).size < off - c'.size by simp [str_size]; omega)
      have hcat : c'.size + (str (List.replicate m 0)).size ≤ 33554432 := by simp [str_size]; omega
      go_wp2_with (at_make; refine wpList_make_full _ rfl _ _ 56 rfl 0 5 i0 _ 1 Try.underlying56 hi hz0 hz1 _ _ _ _ m rfl rfl rfl rfl (by rw [hz2]; omega) (by simp only [maxLen]; omega) (Nat.zero_le _) ?_; intro w1 hown hgr; have kc := made_string hown; have Hb1 := Lib.hid (Hb.out.grown hgr Hb.out.size (by simp)); clear hown hgr)
      exact ⟨⟨_, rfl, hsz2.out, HA, Hb1⟩, hm3.out⟩
    · have hge : off ≤ c'.size := by omega
      have hl : lay c'.data.toList off s.data.toList = lay c.data.toList off s.data.toList := by
        rcases Hc.out with h | ⟨_, h⟩
        · rw [h]
        · rw [h, show c.size = c.data.toList.length by simp, lay_padded]
      have Hl := Lib.hid hl
      clear hl
      by_cases he : c'.size ≤ off + s.size
      · have heI : (c'.size : Int) ≤ (off : Int) + s.size := by omega
        have hcat : off + s.size ≤ 33554432 := by omega
        have HE := Lib.hid (put_end c' s off hge he)
        go_wp2
        go_ret
        exact ⟨congrArg (fun x => Ending.returned (Value.string x)) (HE.out.trans (by rw [Hl.out])), Hb.out⟩
      · have heI : ¬ ((c'.size : Int) ≤ (off : Int) + s.size) := by omega
        have HE := Lib.hid (put_mid c' s off hge)
        have q1 : off + s.size ≤ c'.size := by omega
        have q2 : (off : Int) + (s.size : Int) ≤ (c'.size : Int) := by omega
        have q3 : ((off : Int) + (s.size : Int)).toNat = off + s.size := by omega
        go_wp2
        go_quiet (fail)
        go_wp2
        go_ret
        exact ⟨congrArg (fun x => Ending.returned (Value.string x)) (HE.out.trans (by rw [Hl.out])), Hb.out.trans ((Turns.refl No wr).drewN nq |>.toBelow (fun _ h => h.elim) Hb.out.size)⟩

/-! ### the reference's disk in memory -/
def refCells (p : Nat × List UInt8) : List Value := [.int .i64 (p.1 : Int), .string (str p.2)]
theorem pt_info : (Try.prog.info? 94).map (fun i => (i.zero, i.size, i.bytes)) = some (some (.agg #[.int .i64 0, .string ByteArray.empty]), 2, 24) := by kernel_rfl

structure RefAt (w : World) (g : Nat) (σ : DS) (S : Nat → Prop) (vp : Value) (l : Int) : Prop where
  blk : w.heap[g]? = some (.cells #[.string (str σ.now), .string (str σ.syn), vp, .int .i64 (σ.n : Int), .int .i64 l, .bool σ.lim] 87 (0, 0))
  left : σ.lim = true → l = (σ.left : Int)
  pcs : w.ownsRow 0 94 2 vp σ.pcs.length (σ.pcs.flatMap refCells)
  inG : S g
  inP : ∀ k, vp.ownBlock = some k → S k
  lt : ∀ k, S k → k < w.heap.size
  ok : σ.ok

def IsRef (w : World) (g : Nat) (σ : DS) (S : Nat → Prop) : Prop := ∃ vp l, RefAt w g σ S vp l

theorem IsRef.turns {S T : Nat → Prop} {w w' : World} {g : Nat} {σ : DS} (h : IsRef w g σ S) (ht : Turns T w w') (hs : ∀ k, S k → ¬ T k) : IsRef w' g σ S := by
  obtain ⟨vp, l, d⟩ := h
  exact ⟨vp, l, ht.is d.blk (hs g d.inG), d.left, ht.own d.pcs fun k hk => hs k (d.inP k hk), d.inG, d.inP, fun k hk => Nat.lt_of_lt_of_le (d.lt k hk) ht.size, d.ok⟩
theorem IsRef.lt {S : Nat → Prop} {w : World} {g : Nat} {σ : DS} (h : IsRef w g σ S) : ∀ k, S k → k < w.heap.size := by obtain ⟨_, _, d⟩ := h; exact d.lt

def rf (g : Nat) (σ : DS) : HP := ⟨fun w S => IsRef w g σ S, fun h ht hs => h.turns ht hs, fun h => h.lt⟩
def ThenR (w : World) (g : Nat) (S : Nat → Prop) (σ' : DS) (w' : World) : Prop := ∃ S', IsRef w' g σ' S' ∧ Turns S w w' ∧ ∀ k, S' k → S k ∨ w.heap.size ≤ k

section
variable {w : World} {g : Nat} {σ : DS} {S : Nat → Prop} {vp : Value} {l : Int}
theorem RefAt.cell (d : RefAt w g σ S vp l) (j : Nat) : w.cell? ⟨g, j, none⟩ = #[.string (str σ.now), .string (str σ.syn), vp, .int .i64 (σ.n : Int), .int .i64 l, .bool σ.lim][j]? := cell_of_row w g j _ _ _ d.blk
theorem RefAt.frozen (d : RefAt w g σ S vp l) (j : Nat) : w.frozen? ⟨g, j, none⟩ = false := frozen_of_row w g j _ _ d.blk
theorem RefAt.neP (d : RefAt w g σ S vp l) : vp.ownBlock ≠ some g := own_ne d.pcs d.blk (by decide)
theorem RefAt.is (d : RefAt w g σ S vp l) : IsRef w g σ S := ⟨_, _, d⟩

/-- The block has turned, the parts have not. -/
theorem RefAt.set {σ' : DS} {l' : Int} {w' : World} (d : RefAt w g σ S vp l) (hp : σ'.pcs = σ.pcs) (hb : w'.heap[g]? = some (.cells #[.string (str σ'.now), .string (str σ'.syn), vp, .int .i64 (σ'.n : Int), .int .i64 l', .bool σ'.lim] 87 (0, 0)))
    (ht : Turns (· = g) w w') (hl : σ'.lim = true → l' = (σ'.left : Int)) (hok : σ'.ok) : RefAt w' g σ' S vp l' :=
  ⟨hb, hl, by rw [hp]; exact ht.own d.pcs fun k hk e => d.neP (by rw [hk, e]), d.inG, d.inP, fun k hk => Nat.lt_of_lt_of_le (d.lt k hk) ht.size, hok⟩

set_option maxHeartbeats 400000 in
theorem roff_off (w : World) (g : Nat) (h5 : w.cell? ⟨g, 5, none⟩ = some (.bool true)) (h4 : w.cell? ⟨g, 4, none⟩ = some (.int .i64 0)) :
    Calls Try.prog 58 #[.pointer (some ⟨g, 0, none⟩)] w fun e w' => e = .returned (.bool true) ∧ w = w' := by
  go_enter Try.func58, Try.ntmps58
  go_wp2
  go_ret
  exact ⟨rfl, rfl⟩
set_option maxHeartbeats 400000 in
theorem roff_lim (w : World) (g : Nat) (l n : Int) (hl : 0 < l) (hl' : l ≤ 9223372036854775807) (hn : 0 ≤ n) (hn' : n < 1000000) (h3 : w.cell? ⟨g, 3, none⟩ = some (.int .i64 n)) (h4 : w.cell? ⟨g, 4, none⟩ = some (.int .i64 l)) (h5 : w.cell? ⟨g, 5, none⟩ = some (.bool true))
    (f3 : w.frozen? ⟨g, 3, none⟩ = false) (f4 : w.frozen? ⟨g, 4, none⟩ = false) :
    Calls Try.prog 58 #[.pointer (some ⟨g, 0, none⟩)] w fun e w' => e = .returned (.bool false) ∧ w' = (w.setCell ⟨g, 4, none⟩ (.int .i64 (l - 1))).setCell ⟨g, 3, none⟩ (.int .i64 (n + 1)) := by
  have hl0 : (l == 0) = false := by simp; omega
  go_enter Try.func58, Try.ntmps58
  go_wp2
  go_ret
  exact ⟨rfl, rfl⟩
set_option maxHeartbeats 400000 in
theorem roff_on (w : World) (g : Nat) (l n : Int) (hn : 0 ≤ n) (hn' : n < 1000000) (h3 : w.cell? ⟨g, 3, none⟩ = some (.int .i64 n)) (h4 : w.cell? ⟨g, 4, none⟩ = some (.int .i64 l)) (h5 : w.cell? ⟨g, 5, none⟩ = some (.bool false))
    (f3 : w.frozen? ⟨g, 3, none⟩ = false) (f4 : w.frozen? ⟨g, 4, none⟩ = false) :
    Calls Try.prog 58 #[.pointer (some ⟨g, 0, none⟩)] w fun e w' => e = .returned (.bool false) ∧ ∃ l', w' = (w.setCell ⟨g, 4, none⟩ (.int .i64 l')).setCell ⟨g, 3, none⟩ (.int .i64 (n + 1)) := by
  go_enter Try.func58, Try.ntmps58
  go_wp2
  go_ret
  exact ⟨rfl, _, rfl⟩

theorem roff_yes (d : RefAt w g σ S vp l) (ho : σ.off = false) (hn : σ.n < 1000000) :
    Calls Try.prog 58 #[.pointer (some ⟨g, 0, none⟩)] w fun e w' => e = .returned (.bool false) ∧ ∃ l', Hid (RefAt w' g σ.tick S vp l') ∧ Hid (Turns (· = g) w w') := by
  have hok : σ.tick.ok := ⟨d.ok.now, d.ok.syn, d.ok.pcs, Nat.le_trans d.ok.many (Nat.mul_le_mul_right _ (Nat.le_succ _)), by have := d.ok.left; show σ.left - 1 ≤ _; omega⟩
  have h3 := d.cell 3
  have h4 := d.cell 4
  have h5 := d.cell 5
  simp at h3 h4 h5
  cases hlim : σ.lim with
  | false =>
    rw [hlim] at h5
    refine (roff_on w g l σ.n (by omega) (by omega) h3 h4 h5 (d.frozen 3) (d.frozen 4)).mono ?_
    rintro e w' ⟨rfl, l', rfl⟩
    refine ⟨rfl, l', d.set (σ' := σ.tick) rfl ?_ (turns_two w g 4 3 _ _) ?_ hok, turns_two w g 4 3 _ _⟩
    · rw [heap_setCell_same _ g 3 _ _ _ (heap_setCell_same w g 4 _ _ _ d.blk)]; simp [DS.tick]
    · intro h; rw [show σ.tick.lim = σ.lim from rfl, hlim] at h; cases h
  | true =>
    have hl := d.left hlim
    have hleft : 0 < σ.left := by
      unfold DS.off at ho
      rw [hlim] at ho
      simp at ho
      omega
    rw [hlim] at h5
    refine (roff_lim w g l σ.n (by omega) (by have := d.ok.left; omega) (by omega) (by omega) h3 h4 h5 (d.frozen 3) (d.frozen 4)).mono ?_
    rintro e w' ⟨rfl, rfl⟩
    refine ⟨rfl, l - 1, d.set (σ' := σ.tick) rfl ?_ (turns_two w g 4 3 _ _) ?_ hok, turns_two w g 4 3 _ _⟩
    · rw [heap_setCell_same _ g 3 _ _ _ (heap_setCell_same w g 4 _ _ _ d.blk)]; simp [DS.tick]
    · intro _; show l - 1 = ((σ.left - 1 : Nat) : Int); omega

theorem roff_no (d : RefAt w g σ S vp l) (ho : σ.off = true) :
    Calls Try.prog 58 #[.pointer (some ⟨g, 0, none⟩)] w fun e w' => e = .returned (.bool true) ∧ w = w' := by
  have h4 := d.cell 4
  have h5 := d.cell 5
  simp at h4 h5
  unfold DS.off at ho
  simp at ho
  rw [ho.1] at h5
  rw [d.left ho.1, ho.2] at h4
  exact roff_off w g h5 h4

set_option maxHeartbeats 400000 in
theorem rsync_yes (d : RefAt w g σ S vp l) (ho : σ.off = false) (hn : σ.n < 1000000) :
    Calls Try.prog 49 #[.pointer (some ⟨g, 0, none⟩)] w fun e w' => e = .returned (.int .i64 0) ∧ ThenR w g S { σ.tick with syn := σ.now, pcs := [] } w' := by
  have HC := Lib.hid (roff_yes d ho hn)
  have HG := Lib.hid d.inG
  clear d
  go_enter Try.func49, Try.ntmps49
  go_wp2_with (go_at_call 58; refine HC.out.mono ?_; rintro e w1 ⟨rfl, l1, HD1, HT1⟩; have c0 := HD1.out.cell 0; have c1 := HD1.out.cell 1; have c2 := HD1.out.cell 2; have f1 := HD1.out.frozen 1; have f2 := HD1.out.frozen 2; simp at c0 c1 c2)
  go_ret
  refine ⟨rfl, S, ⟨.slice none 0 0, l1, ⟨?_, HD1.out.left, World.ownsRow_nil _ _ _ _, HG.out, fun k hk => by simp [Value.ownBlock] at hk, fun k hk => Nat.lt_of_lt_of_le (HD1.out.lt k hk) (turns_two w1 g 1 2 _ _).size, ?_⟩⟩, ?_, fun k hk => .inl hk⟩
  · rw [heap_setCell_same _ g 2 _ _ _ (heap_setCell_same w1 g 1 _ _ _ HD1.out.blk)]; simp; rfl
  · exact ⟨HD1.out.ok.now, HD1.out.ok.now, by simp, Nat.zero_le _, HD1.out.ok.left⟩
  · exact (HT1.out.mono fun i _ h => by rw [h]; exact HG.out).trans (turns_two w1 g 1 2 _ _) fun i hi => .inl (by rw [hi]; exact HG.out)

set_option maxHeartbeats 400000 in
theorem rsync_no (d : RefAt w g σ S vp l) (ho : σ.off = true) :
    Calls Try.prog 49 #[.pointer (some ⟨g, 0, none⟩)] w fun e w' => e = .returned (.int .i64 70) ∧ w = w' := by
  have HC := Lib.hid (roff_no d ho)
  clear d
  go_enter Try.func49, Try.ntmps49
  go_wp2_with (go_at_call 58; refine HC.out.mono ?_; rintro e w1 ⟨rfl, rfl⟩)
  go_ret
  exact ⟨rfl, rfl⟩
end

theorem ThenR.same {w : World} {g : Nat} {S : Nat → Prop} {σ : DS} (h : IsRef w g σ S) : ThenR w g S σ w := ⟨S, h, Turns.refl _ _, fun _ hk => .inl hk⟩

theorem rsync_any {w : World} {g : Nat} {S : Nat → Prop} {σ : DS} (h : IsRef w g σ S) (hn : σ.n < 1000000) :
    Calls Try.prog 49 #[.pointer (some ⟨g, 0, none⟩)] w fun e w' => e = .returned (.int .i64 σ.syncE) ∧ ThenR w g S σ.sync w' := by
  have h0 := h
  obtain ⟨vp, l, d⟩ := h
  unfold DS.syncE DS.sync
  cases ho : σ.off with
  | false =>
    refine (rsync_yes d ho hn).mono ?_
    rintro e w' ⟨rfl, h⟩
    exact ⟨rfl, h⟩
  | true =>
    refine (rsync_no d ho).mono ?_
    rintro e w' ⟨rfl, rfl⟩
    exact ⟨rfl, ThenR.same h0⟩

set_option maxHeartbeats 400000 in
theorem rnew_any (w : World) : Calls Try.prog 22 #[] w fun e w' => e = .returned (.pointer (some ⟨w.heap.size, 0, none⟩)) ∧ w' = w.alloc (.cells #[.string (str []), .string (str []), .slice none 0 0, .int .i64 0, .int .i64 0, .bool false] 87) := by
  go_enter Try.func22, Try.ntmps22
  go_wp2
  go_ret
  exact ⟨rfl, rfl⟩

set_option maxHeartbeats 400000 in
theorem rsize_any (w : World) (g : Nat) (s : ByteArray) (h0 : w.cell? ⟨g, 0, none⟩ = some (.string s)) :
    Calls Try.prog 25 #[.pointer (some ⟨g, 0, none⟩)] w fun e w' => e = .returned (.int .i64 (s.size : Int)) ∧ w = w' := by
  go_enter Try.func25, Try.ntmps25
  go_wp2
  go_ret
  exact ⟨rfl, rfl⟩
set_option maxHeartbeats 400000 in
theorem rcalls_any (w : World) (g : Nat) (n : Int) (h0 : w.cell? ⟨g, 3, none⟩ = some (.int .i64 n)) :
    Calls Try.prog 27 #[.pointer (some ⟨g, 0, none⟩)] w fun e w' => e = .returned (.int .i64 n) ∧ w = w' := by
  go_enter Try.func27, Try.ntmps27
  go_wp2
  go_ret
  exact ⟨rfl, rfl⟩
set_option maxHeartbeats 400000 in
theorem rfail_any (w : World) (g : Nat) (n : Int) (u v : Value) (h4 : w.cell? ⟨g, 4, none⟩ = some u) (h5 : w.cell? ⟨g, 5, none⟩ = some v) (f4 : w.frozen? ⟨g, 4, none⟩ = false) (f5 : w.frozen? ⟨g, 5, none⟩ = false) :
    Calls Try.prog 51 #[.pointer (some ⟨g, 0, none⟩), .int .i64 n] w fun e w' => e = .returned (.tuple #[]) ∧ w' = (w.setCell ⟨g, 5, none⟩ (.bool (decide (0 ≤ n)))).setCell ⟨g, 4, none⟩ (.int .i64 n) := by
  go_enter Try.func51, Try.ntmps51
  go_wp2
  go_end0
  exact ⟨rfl, rfl⟩

theorem rnew_is (w : World) : Calls Try.prog 22 #[] w fun e w' => e = .returned (.pointer (some ⟨w.heap.size, 0, none⟩)) ∧ Below w.heap.size w w' ∧ IsRef w' w.heap.size DS.new (· = w.heap.size) := by
  refine (rnew_any w).mono ?_
  rintro e w' ⟨rfl, rfl⟩
  exact ⟨rfl, (Below.refl _ _).alloc (Nat.le_refl _) _, _, _, ⟨heap_alloc_new w _, fun h => by simp [DS.new] at h, World.ownsRow_nil _ _ _ _, rfl, fun k hk => by simp [Value.ownBlock] at hk, fun k hk => by rw [show k = w.heap.size from hk]; simp, DS.ok_new⟩⟩
theorem rsize_is {w : World} {g : Nat} {S : Nat → Prop} {σ : DS} (h : IsRef w g σ S) : Calls Try.prog 25 #[.pointer (some ⟨g, 0, none⟩)] w fun e w' => e = .returned (.int .i64 (σ.now.length : Int)) ∧ w = w' := by
  obtain ⟨vp, l, d⟩ := h
  have c0 := d.cell 0
  simp at c0
  have := rsize_any w g _ c0
  rw [str_size] at this
  exact this
theorem rcalls_is {w : World} {g : Nat} {S : Nat → Prop} {σ : DS} (h : IsRef w g σ S) : Calls Try.prog 27 #[.pointer (some ⟨g, 0, none⟩)] w fun e w' => e = .returned (.int .i64 (σ.n : Int)) ∧ w = w' := by
  obtain ⟨vp, l, d⟩ := h
  have c3 := d.cell 3
  simp at c3
  exact rcalls_any w g _ c3
theorem rfail_is {w : World} {g : Nat} {S : Nat → Prop} {σ : DS} (h : IsRef w g σ S) (n : Int) (hn : n ≤ 9223372036854775807) :
    Calls Try.prog 51 #[.pointer (some ⟨g, 0, none⟩), .int .i64 n] w fun e w' => e = .returned (.tuple #[]) ∧ ThenR w g S (σ.fail n) w' := by
  obtain ⟨vp, l, d⟩ := h
  have c4 := d.cell 4
  have c5 := d.cell 5
  simp at c4 c5
  refine (rfail_any w g n _ _ c4 c5 (d.frozen 4) (d.frozen 5)).mono ?_
  rintro e w' ⟨rfl, rfl⟩
  have ht := turns_two w g 5 4 (.bool (decide (0 ≤ n))) (.int .i64 n)
  refine ⟨rfl, S, ⟨vp, n, d.set (σ' := σ.fail n) rfl ?_ ht ?_ (d.ok.fail n hn)⟩, ht.mono fun i _ h => by rw [h]; exact d.inG, fun k hk => .inl hk⟩
  · rw [heap_setCell_same _ g 4 _ _ _ (heap_setCell_same w g 5 _ _ _ d.blk)]
    simp [DS.fail]
  · intro h
    simp [DS.fail] at h
    show n = (n.toNat : Int)
    omega
end Go.Proofs.Ytnfmcmjfpbmloaa
