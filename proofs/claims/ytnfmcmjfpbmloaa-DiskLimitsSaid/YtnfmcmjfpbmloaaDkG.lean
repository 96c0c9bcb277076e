/-
  The contract of Write.
-/
import Derived.Test.YtnfmcmjfpbmloaaDkF
import Derived.Deep.RegionWith
import Derived.Deep.QuietTactic
import Derived.BigQuiet
import Derived.Lib.MinMax
import Derived.Lib.Strings
namespace Go.Proofs.Ytnfmcmjfpbmloaa
open Go.RowKit
section
variable {w : World} {g : Nat} {σ : DS} {S : Nat → Prop} {vn vs vp : Value} {l : Int} {xs : List Value}

/-- What put leaves in Write: the cell is there to be stored into, and then the disk holds the contents. -/
def WPost (w : World) (g : Nat) (σ : DS) (S : Nat → Prop) (vs vp : Value) (l : Int) (xs : List Value) (e : Ending) (w2 : World) : Prop :=
  ∃ A n c, e = .returned (.slice A n c) ∧ (∃ u, w2.cell? ⟨g, 0, none⟩ = some u) ∧ w2.frozen? ⟨g, 0, none⟩ = false ∧
    ∃ S', Hid (DiskAt (w2.setCell ⟨g, 0, none⟩ (.slice A n c)) g σ S' (.slice A n c) vs vp l xs) ∧ Hid (Turns S w (w2.setCell ⟨g, 0, none⟩ (.slice A n c))) ∧ Hid (∀ k, S' k → S k ∨ w.heap.size ≤ k)

theorem write_put (d : DiskAt w g σ S vn vs vp l xs) (off : Nat) (s : ByteArray) (hb : off + s.size ≤ 16777216) :
    Calls Try.prog 53 #[vn, .int .i64 (off : Int), .slice (some ⟨w.heap.size, 0, none⟩) s.size (grownCap w s.size 0 5)] (Lib.bytesWorld w 5 s) (WPost w g { σ with now := lay σ.now off s.data.toList } S vs vp l xs) := by
  have hl : s.data.toList.length = s.size := by simp
  have ht := turns_bytes w 5 s No
  have hv : (Lib.bytesWorld w 5 s).ownsRow 0 5 1 vn σ.now.length (bys σ.now) := ht.own d.now fun _ _ => id
  have hs := (textIn_new w 5 s (grownCap w s.size 0 5)).reads
  have hc := put_any (Lib.bytesWorld w 5 s) vn _ σ.now s.data.toList off hv hs (.inr (by
    intro e
    have := own_lt d.now w.heap.size e.symm
    omega)) (by omega) d.ok.now
  refine hc.mono ?_
  rintro e w2 ⟨v2, rfl, h1, h2, h3⟩
  obtain ⟨A, c, rfl, _⟩ := own_slice h1
  obtain ⟨k1, k2, k3, k4⟩ := put_close d ht h1 h2 h3 (by rw [length_lay]; have := d.ok.now; omega)
  exact ⟨A, _, c, rfl, ⟨_, cell_of_row w2 g 0 _ _ _ k1⟩, frozen_of_row w2 g 0 _ _ k1, _, k2, k3, k4⟩

theorem DiskAt.keep {T : Nat → Prop} {w' : World} (d : DiskAt w g σ S vn vs vp l xs) (ht : Turns T w w') (hs : ∀ k, S k → ¬ T k) : DiskAt w' g σ S vn vs vp l xs :=
  ⟨ht.is d.blk (hs g d.inG), d.left, ht.own d.now fun k hk => hs k (d.inN k hk), ht.own d.syn fun k hk => hs k (d.inS k hk), ht.own d.pcs fun k hk => hs k (d.inP k hk),
    d.txt.step ht fun k _ h1 h2 h3 => ⟨hs k h1, h1, h2, h3⟩, d.ne, d.inG, d.inN, d.inS, d.inP, fun k hk => Nat.lt_of_lt_of_le (d.lt k hk) ht.size, d.ok⟩

/-- What add leaves in Write. -/
def APost (w : World) (g : Nat) (σ : DS) (S : Nat → Prop) (vn vs : Value) (l : Int) (e : Ending) (w2 : World) : Prop :=
  e = .returned (.tuple #[]) ∧ ∃ vp' xs' S', Hid (DiskAt w2 g σ S' vn vs vp' l xs') ∧ Hid (Turns S w w2) ∧ Hid (∀ k, S' k → S k ∨ w.heap.size ≤ k)

theorem write_add (d : DiskAt w g σ S vn vs vp l xs) (off : Nat) (t : ByteArray) (W : World) (hW : Turns No w W) (hok : ({ σ with pcs := σ.pcs ++ [(off, t.data.toList)] } : DS).ok) (hn : σ.n ≤ 100000) :
    Calls Try.prog 56 #[.pointer (some ⟨g, 2, none⟩), .agg #[.int .i64 (off : Int), .slice (some ⟨W.heap.size, 0, none⟩) t.size (grownCap W t.size 0 5)]] (Lib.bytesWorld W 5 t) (APost w g { σ with pcs := σ.pcs ++ [(off, t.data.toList)] } S vn vs l) := by
  obtain ⟨Ap, cp, rfl, hcp⟩ := own_slice d.pcs
  have ht : Turns No w (Lib.bytesWorld W 5 t) := hW.trans (turns_bytes W 5 t No) fun _ h => h.elim
  have hb := d.far ht id
  have hx := textIn_new W 5 t (grownCap W t.size 0 5)
  have hm := d.ok.many
  have hc := add_any (Lib.bytesWorld W 5 t) g 2 σ.pcs.length cp Ap off (some ⟨W.heap.size, 0, none⟩) t.size (grownCap W t.size 0 5) xs (by rw [cell_of_row _ g 2 _ _ _ hb]; simp) (frozen_of_row _ g 2 _ _ hb) (ht.own d.pcs fun _ _ => id) (by omega) d.neP
  refine hc.mono ?_
  intro e w2 h
  have he := h.1
  obtain ⟨vp', S', k1, k2, k3⟩ := piece_close d ht hx hW.size h hok
  exact ⟨he, vp', _, S', k1, k2, k3⟩

/-- Between two rounds of Write: k bytes are done. -/
def WRel (w : World) (g : Nat) (σ : DS) (S : Nat → Prop) (off : Nat) (s : List UInt8) (vn vs : Value) (l : Int) (k : Nat) (t : ByteArray) (wr : World) : Prop :=
  ∃ done vp xs S', Hid (t.data.toList = s.drop k) ∧ Hid (done ++ pieces (off + k) (s.drop k) = pieces off s) ∧ Hid (DiskAt wr g { σ with pcs := σ.pcs ++ done } S' vn vs vp l xs) ∧ Hid (Turns S w wr) ∧ Hid (∀ k, S' k → S k ∨ w.heap.size ≤ k)

theorem WRel.drewN {off k : Nat} {s : List UInt8} {tt : ByteArray} {wr : World} (h : WRel w g σ S off s vn vs l k tt wr) (n : Nat) : WRel w g σ S off s vn vs l k tt (wr.drewN n) := by
  obtain ⟨done, vp, xs, S', Ht, Hd, HD, HT, HS⟩ := h
  exact ⟨done, vp, xs, S', Ht, Hd, HD.out.keep ((Turns.refl No wr).drewN n) (fun _ _ => id), HT.out.drewN n, HS⟩

theorem WRel.done {off k : Nat} {s : List UInt8} {tt : ByteArray} {wr : World} (h : WRel w g σ S off s vn vs l k tt wr) (hk : s.length ≤ k) : Then w g S { σ with pcs := σ.pcs ++ pieces off s } wr := by
  obtain ⟨done, vp, xs, S', Ht, Hd, HD, HT, HS⟩ := h
  have hd := Hd.out
  rw [List.drop_of_length_le hk, pieces_nil, List.append_nil] at hd
  subst hd
  exact ⟨S', HD.out.is, HT.out, HS.out⟩

/-- One round: the piece is cut off, and added. -/
theorem write_round {w wr : World} {off k N : Nat} {s : List UInt8} {tt : ByteArray} (hR : WRel w g σ S off s vn vs l k tt wr) (hN : N = min (64 - (off + k) % 64) tt.size) (h0 : 0 < tt.size) (hk : k + tt.size = s.length) (hb : off + s.length ≤ 16777216)
    (hn : σ.n ≤ 100000) (hm : σ.pcs.length + 16777216 ≤ σ.n * 16777216) :
    Calls Try.prog 56 #[.pointer (some ⟨g, 2, none⟩), .agg #[.int .i64 ((off : Int) + (k : Int)), .slice (some ⟨wr.heap.size, 0, none⟩) N (grownCap wr.drew N 0 5)]] (Lib.bytesWorld wr.drew 5 (tt.extract 0 N)) fun e w2 => e = .returned (.tuple #[]) ∧ WRel w g σ S off s vn vs l (k + N) (tt.extract N tt.size) w2 := by
  obtain ⟨done, vp, xs, S', Ht, Hd, HD, HT, HS⟩ := hR
  have d := HD.out
  have hts : (tt.extract 0 N).size = N := by simp; omega
  have htl : (tt.extract 0 N).data.toList = (s.drop k).take (64 - (off + k) % 64) := by
    rw [Lib.extract_data, List.drop_zero, Ht.out, Nat.sub_zero]
    have hq : tt.size = (s.drop k).length := by rw [List.length_drop]; omega
    by_cases hle : 64 - (off + k) % 64 ≤ tt.size
    · rw [show N = 64 - (off + k) % 64 by omega]
    · rw [List.take_of_length_le (by omega), List.take_of_length_le (by omega)]
  have hne : s.drop k ≠ [] := by
    intro e
    have := congrArg List.length e
    simp at this
    omega
  have hp := pieces_cons (off + k) (s.drop k) hne
  have hl : min (64 - (off + k) % 64) (s.drop k).length = N := by rw [List.length_drop]; omega
  rw [hl] at hp
  have hN' : (s.drop k).drop (64 - (off + k) % 64) = s.drop (k + N) := by
    by_cases hle : 64 - (off + k) % 64 ≤ tt.size
    · rw [List.drop_drop, show N = 64 - (off + k) % 64 by omega]
    · rw [List.drop_of_length_le (by rw [List.length_drop]; omega), List.drop_of_length_le (by omega)]
  rw [hN', Nat.add_assoc] at hp
  have hd2 : (done ++ [(off + k, (tt.extract 0 N).data.toList)]) ++ pieces (off + (k + N)) (s.drop (k + N)) = pieces off s := by
    rw [← Hd.out, hp, htl]; simp
  have hlen : (done ++ [(off + k, (tt.extract 0 N).data.toList)]).length ≤ 16777216 := by
    have h1 := congrArg List.length hd2
    rw [List.length_append] at h1
    have h2 := pieces_len _ off s (Nat.le_refl _)
    omega
  have hok : ({ σ with pcs := σ.pcs ++ done ++ [(off + k, (tt.extract 0 N).data.toList)] } : DS).ok := by
    refine ⟨d.ok.now, d.ok.syn, ?_, ?_, d.ok.left⟩
    · intro p hp'
      rw [List.append_assoc, List.mem_append] at hp'
      rcases hp' with h | h
      · exact d.ok.pcs p (List.mem_append_left _ h)
      · refine pieces_in 16777216 _ off s (Nat.le_refl _) hb p ?_
        rw [← hd2]
        exact List.mem_append_left _ h
    · rw [List.append_assoc, List.length_append]
      show σ.pcs.length + _ ≤ σ.n * 16777216
      omega
  have hc := write_add d (off + k) (tt.extract 0 N) wr.drew (Turns.refl _ _).drew hok hn
  rw [hts] at hc
  have e1 : ((off + k : Nat) : Int) = (off : Int) + (k : Int) := by omega
  rw [e1] at hc
  refine hc.mono ?_
  rintro e w2 ⟨rfl, vp', xs', S2, K1, K2, K3⟩
  refine ⟨rfl, done ++ [(off + k, (tt.extract 0 N).data.toList)], vp', xs', S2, ?_, hd2, ?_, ?_, ?_⟩
  · show _ = _
    rw [Lib.extract_data, Ht.out, List.drop_drop, List.take_of_length_le (by rw [List.length_drop]; omega)]
  · have := K1.out
    show DiskAt _ _ _ _ _ _ _ _ _
    simpa using this
  · exact HT.out.trans K2.out HS.out
  · intro i hi
    rcases K3.out i hi with h | h
    · exact HS.out i h
    · exact .inr (Nat.le_trans HT.out.size h)

set_option maxRecDepth 100000 in
set_option maxHeartbeats 400000 in
theorem write_yes (d : DiskAt w g σ S vn vs vp l xs) (ho : σ.off = false) (hn : σ.n < 100000) (off : Nat) (s : ByteArray) (hb : off + s.size ≤ 16777216) :
    Calls Try.prog 34 #[.pointer (some ⟨g, 0, none⟩), .int .i64 off, .string s] w fun e w' => e = .returned (.int .i64 0) ∧ Then w g S { σ.tick with now := lay σ.now off s.data.toList, pcs := σ.pcs ++ pieces off s.data.toList } w' := by
  obtain ⟨An, cn, rfl, hcn⟩ := own_slice d.now
  have hg0 := lt_of_block d.blk
  have hnow := d.ok.now
  have hmany := d.ok.many
  have HS := Lib.hid d.inG
  have HC := Lib.hid (call_yes d ho (by omega))
  clear d
  have b1 : (off : Int) ≤ 16777216 := by omega
  have b2 : (s.size : Int) ≤ 16777216 - off := by omega
  have kc := fun w => Lib.run_convert_string_bytes (P := Try.prog) w 9 56 5 s Try.underlying9 Try.underlying56 Try.underlying5
  go_enter Try.func34, Try.ntmps34
  go_wp2_with (first
   | (go_at_call 55; refine HC.out.mono ?_; rintro e w1 ⟨rfl, l1, HD1, HT1⟩; have c0 := HD1.out.cell 0; simp at c0)
   | (go_at_call 53; refine (write_put HD1.out off s hb).mono ?_; rintro e w2 ⟨A2, n2, c2, rfl, ⟨u2, hc2⟩, hf2, S2, HD2, HT2, HS2⟩))
  clear kc
  have HT3 : Hid (Turns S w (w2.setCell ⟨g, 0, none⟩ (.slice A2 n2 c2))) := (HT1.out.mono (T := S) fun i _ h => by rw [h]; exact HS.out).trans HT2.out fun _ h => .inl h
  have HS3 : Hid (∀ k, S2 k → S k ∨ w.heap.size ≤ k) := fun k hk => (HS2.out k hk).imp id fun h => Nat.le_trans HT1.out.size h
  have HD3 : Hid (DiskAt (w2.setCell ⟨g, 0, none⟩ (.slice A2 n2 c2)) g { { σ.tick with now := lay σ.now off s.data.toList } with pcs := σ.pcs ++ [] } S2 (.slice A2 n2 c2) vs vp l1 xs) := by
    rw [List.append_nil]
    exact HD2.out
  clear HD2 HT2 HS2 HT1 HD1 HC
  generalize (w2.setCell ⟨g, 0, none⟩ (.slice A2 n2 c2)) = w3 at *
  go_loopw [1, 2] (fun o t wr => ∃ (k : Nat) (tt : ByteArray), k + tt.size ≤ s.size ∧ s.size ≤ k + tt.size ∧ o = .int .i64 ((off + k : Nat) : Int) ∧ t = .string tt ∧ WRel w g { σ.tick with now := lay σ.now off s.data.toList } S off s.data.toList (.slice A2 n2 c2) vs l1 k tt wr) (fun _ t _ => strLen t)
  case atStart => exact ⟨0, s, by omega, by omega, rfl, rfl, [], vp, xs, S2, rfl, rfl, HD3, HT3, HS3⟩
  case round =>
    obtain ⟨k, tt, hk1, hk2, rfl, rfl, hrel⟩ := hrel
    by_cases h0 : 0 < tt.size
    · obtain ⟨N, hN⟩ : ∃ N : Nat, min (64 - ((off : Int) + k) % 64) (tt.size : Int) = N := ⟨(min (64 - ((off : Int) + k) % 64) (tt.size : Int)).toNat, by omega⟩
      have hN1 : N ≤ tt.size := by omega
      have hN2 : 0 < N := by omega
      have hN3 : N ≤ 64 := by omega
      have kc := fun w => Lib.run_convert_string_bytes (P := Try.prog) w 9 56 5 (tt.extract 0 N) Try.underlying9 Try.underlying56 Try.underlying5
      have HA := Lib.hid (write_round hrel (N := N) (by omega) h0 (by simp; omega) (by simp; omega) (by show σ.n + 1 ≤ _; omega) (by show σ.pcs.length + _ ≤ (σ.n + 1) * _; omega))
      clear hrel
      go_wp2_with fail
      go_region_with (go_at_call 56; refine HA.out.mono ?_; rintro e w4 ⟨rfl, HR4⟩)
      clear kc
      go_wp2
      go_quiet (fail)
      go_wp2
      exact ⟨⟨k + N, _, by simp; omega, by simp; omega, by go_num, rfl, HR4.drewN nq⟩, by simp [strLen]; omega⟩
    · go_wp2
      go_ret
      exact ⟨rfl, hrel.done (by simp; omega)⟩

set_option maxHeartbeats 400000 in
theorem write_no (d : DiskAt w g σ S vn vs vp l xs) (ho : σ.off = true) (off : Nat) (s : ByteArray) (hb : off + s.size ≤ 16777216) :
    Calls Try.prog 34 #[.pointer (some ⟨g, 0, none⟩), .int .i64 off, .string s] w fun e w' => e = .returned (.int .i64 70) ∧ w = w' := by
  have HC := Lib.hid (call_no d ho)
  clear d
  have b1 : (off : Int) ≤ 16777216 := by omega
  have b2 : (s.size : Int) ≤ 16777216 - off := by omega
  go_enter Try.func34, Try.ntmps34
  go_wp2_with (go_at_call 55; refine HC.out.mono ?_; rintro e w1 ⟨rfl, rfl⟩)
  go_ret
  exact ⟨rfl, rfl⟩
end

set_option maxHeartbeats 400000 in
theorem write_neg (w : World) (a : Addr) (off : Int) (s : ByteArray) (hb : off < 0) :
    Calls Try.prog 34 #[.pointer (some a), .int .i64 off, .string s] w fun e w' => e = .returned (.int .i64 1) ∧ w = w' := by
  go_enter Try.func34, Try.ntmps34
  go_wp2
  go_ret
  exact ⟨rfl, rfl⟩
set_option maxHeartbeats 400000 in
theorem write_far (w : World) (a : Addr) (off : Int) (s : ByteArray) (h0 : 0 ≤ off) (hb : 16777216 < off) :
    Calls Try.prog 34 #[.pointer (some a), .int .i64 off, .string s] w fun e w' => e = .returned (.int .i64 1) ∧ w = w' := by
  go_enter Try.func34, Try.ntmps34
  go_wp2
  go_ret
  exact ⟨rfl, rfl⟩
set_option maxHeartbeats 400000 in
theorem write_long (w : World) (a : Addr) (off : Int) (s : ByteArray) (h0 : 0 ≤ off) (h1 : off ≤ 16777216) (hb : 16777216 - off < (s.size : Int)) :
    Calls Try.prog 34 #[.pointer (some a), .int .i64 off, .string s] w fun e w' => e = .returned (.int .i64 1) ∧ w = w' := by
  go_enter Try.func34, Try.ntmps34
  go_wp2
  go_ret
  exact ⟨rfl, rfl⟩

theorem write_any {w : World} {g : Nat} {S : Nat → Prop} {σ : DS} (h : IsDisk w g σ S) (hn : σ.n < 100000) (off : Int) (s : ByteArray) :
    Calls Try.prog 34 #[.pointer (some ⟨g, 0, none⟩), .int .i64 off, .string s] w fun e w' => e = .returned (.int .i64 (σ.writeE off s.data.toList)) ∧ Then w g S (σ.write off s.data.toList) w' := by
  have h0 := h
  obtain ⟨vn, vs, vp, l, xs, d⟩ := h
  have hl : s.data.toList.length = s.size := by simp
  unfold DS.writeE DS.write
  rw [hl]
  by_cases hb : off < 0 ∨ 16777216 < off + (s.size : Int)
  · rw [if_pos hb, if_pos hb]
    have key : Calls Try.prog 34 #[.pointer (some ⟨g, 0, none⟩), .int .i64 off, .string s] w fun e w' => e = .returned (.int .i64 1) ∧ w = w' := by
      by_cases h1 : off < 0
      · exact write_neg w _ off s h1
      · by_cases h2 : 16777216 < off
        · exact write_far w _ off s (by omega) h2
        · exact write_long w _ off s (by omega) (by omega) (by omega)
    refine key.mono ?_
    rintro e w' ⟨rfl, rfl⟩
    exact ⟨rfl, Then.same h0⟩
  · rw [if_neg hb, if_neg hb]
    obtain ⟨k, rfl⟩ := Int.eq_ofNat_of_zero_le (show 0 ≤ off by omega)
    cases ho : σ.off with
    | false =>
      refine (write_yes d ho hn k s (by omega)).mono ?_
      rintro e w' ⟨rfl, h⟩
      exact ⟨rfl, h⟩
    | true =>
      refine (write_no d ho k s (by omega)).mono ?_
      rintro e w' ⟨rfl, rfl⟩
      exact ⟨rfl, Then.same h0⟩
end Go.Proofs.Ytnfmcmjfpbmloaa
