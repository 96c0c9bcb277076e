/-
  The contract of the reference's Crash; the reference's disk as a thing.
-/
import Derived.Test.YtnfmcmjfpbmloaaDkN
namespace Go.Proofs.Ytnfmcmjfpbmloaa
open Go.RowKit
section
variable {w : World} {g : Nat} {σ : DS} {S : Nat → Prop} {vp : Value} {l : Int}

theorem fall_none (q : List Int) (hq : q.length = 0) : ∀ (ps : List (Nat × List UInt8)) (k : Nat) (c : List UInt8), fall q k c ps = c
  | [], _, _ => rfl
  | p :: ps, k, c => by
    have hl : lives q k = false := by unfold lives; simp [hq]
    simp only [fall, hl]
    exact fall_none q hq ps (k + 1) c

theorem flat_part (ps : List (Nat × List UInt8)) (k : Nat) (p : Nat × List UInt8) (h : ps[k]? = some p) : (ps.flatMap refCells)[k * 2]? = some (.int .i64 (p.1 : Int)) ∧ (ps.flatMap refCells)[k * 2 + 1]? = some (.string (str p.2)) := by
  have key : ∀ (l : List (Nat × List UInt8)) (i j : Nat) (a : Nat × List UInt8), l[i]? = some a → j < 2 → (l.flatMap refCells)[i * 2 + j]? = (refCells a)[j]? := by
    intro l
    induction l with
    | nil => intro i j a h; simp at h
    | cons x l ih =>
      intro i j a h hj
      cases i with
      | zero =>
        have : x = a := by simpa using h
        subst this
        rw [List.flatMap_cons, List.getElem?_append_left (by simp [refCells]; omega)]
        simp
      | succ i =>
        rw [List.flatMap_cons, List.getElem?_append_right (by simp [refCells]; omega), show (refCells x).length = 2 from rfl, show (i + 1) * 2 + j - 2 = i * 2 + j by omega]
        exact ih i j a (by simpa using h) hj
  exact ⟨key ps k 0 p h (by omega), key ps k 1 p h (by omega)⟩

set_option maxRecDepth 100000 in
set_option maxHeartbeats 400000 in
theorem rcrash_yes (d : RefAt w g σ S vp l) (B : Option Addr) (cq : Nat) (q : List Int) (hq : Reads w 1 (.slice B q.length cq) q.length (q.map (.int .i64))) :
    Calls Try.prog 31 #[.pointer (some ⟨g, 0, none⟩), .slice B q.length cq] w fun e w' => ∃ g', e = .returned (.pointer (some ⟨g', 0, none⟩)) ∧ w.heap.size ≤ g' ∧ Below w.heap.size w w' ∧ IsRef w' g' (σ.crash q) (· = g') := by
  obtain ⟨Ap, cp, rfl, hcp⟩ := own_slice d.pcs
  have hg0 := lt_of_block d.blk
  have hmax := own_max d.pcs
  have HD := Lib.hid d
  have c1 := d.cell 1
  simp at c1
  have Hq := Lib.hid hq
  clear d hq
  go_enter Try.func31, Try.ntmps31
  go_wp2
  clear c1
  go_loopw [5, 6] (fun c i wr => ∃ (k : Nat), k ≤ σ.pcs.length ∧ i = .int .i64 (k : Int) ∧ c = .string (str (fall q 0 σ.syn (σ.pcs.take k))) ∧ Hid (Below w.heap.size w wr)) (fun _ i _ => σ.pcs.length - (intOf i).toNat)
  case atStart => exact ⟨0, Nat.zero_le _, rfl, rfl, Below.refl _ _⟩
  case round =>
    obtain ⟨k, hk, rfl, rfl, HB⟩ := hrel
    have c2 : wr.cell? ⟨g, 2, none⟩ = some (.slice Ap σ.pcs.length cp) := by
      have := HD.out.cell 2
      simp at this
      exact (HB.out.cell (p := ⟨g, 2, none⟩) hg0).trans this
    have hlen : (fall q 0 σ.syn (σ.pcs.take k)).length ≤ 16777216 := fall_le q _ _ _ HD.out.ok.syn fun p hp => HD.out.ok.pcs p (List.mem_of_mem_take hp)
    by_cases hlt : k < σ.pcs.length ∧ 0 < q.length
    · obtain ⟨hlt, hqp⟩ := hlt
      obtain ⟨gp, cp', e1, _⟩ := own_form HD.out.pcs (by omega)
      injection e1 with e1 e2 e3
      subst e1 e3
      have hgp : gp < w.heap.size := own_lt HD.out.pcs gp rfl
      have hkb : (k : Int) + 1 ≤ 9223372036854775807 := by omega
      obtain ⟨p, hp⟩ : ∃ p, σ.pcs[k]? = some p := ⟨_, List.getElem?_eq_getElem hlt⟩
      obtain ⟨x1, x2⟩ := flat_part σ.pcs k p hp
      have y1 : wr.cell? ⟨gp, k * 2, none⟩ = some (.int .i64 (p.1 : Int)) := by
        rw [HB.out.cell (p := ⟨gp, k * 2, none⟩) hgp, HD.out.pcs.cellAt (k * 2) (by omega), x1]
      have y2 : wr.cell? ⟨gp, k * 2 + 1, none⟩ = some (.string (str p.2)) := by
        rw [HB.out.cell (p := ⟨gp, k * 2 + 1, none⟩) hgp, HD.out.pcs.cellAt (k * 2 + 1) (by omega), x2]
      have hpl := HD.out.ok.pcs p (List.mem_of_getElem? hp)
      obtain ⟨B', cq', e1, _, hqf⟩ := Hq.out
      injection e1 with e1 e2 e3
      subst e1 e3
      obtain ⟨⟨bq, oq, sp⟩, e1, hqc⟩ := hqf hqp
      clear hqf
      subst e1
      have hz := hqc (0 : Nat) (.int .i64 (q.getD 0 0)) (by simp [List.getD, hqp])
      have hbq' : bq < w.heap.size := block_lt_of_cell (a := ⟨bq, oq, sp⟩) hz
      obtain rfl : sp = none := by
        cases sp with
        | none => rfl
        | some x =>
          have : w.cell? ⟨bq, oq, some x⟩ = none := by unfold World.cell?; split <;> simp
          rw [show (⟨bq, oq, some x⟩ : Addr).add 0 = ⟨bq, oq, some x⟩ from rfl, this] at hz
          cases hz
      have hjl := Nat.mod_lt k hqp
      obtain ⟨x, hx⟩ : ∃ x, q.getD (k % q.length) 0 = x := ⟨_, rfl⟩
      have z1 : wr.cell? ⟨bq, oq + k % q.length, none⟩ = some (.int .i64 x) := by
        have := hqc (k % q.length) (.int .i64 x) (by simp [← hx, hjl])
        rw [Addr.add_lit] at this
        exact (HB.out.cell (p := ⟨bq, oq + k % q.length, none⟩) hbq').trans this
      have hbq : bq < wr.heap.size := Nat.lt_of_lt_of_le hbq' HB.out.size
      have hlv : lives q k = (x.tmod 2 != 0) := by
        unfold lives
        rw [hx, decide_eq_true hqp, Bool.true_and]
        rw [Bool.eq_iff_iff]
        simp only [bne_iff_ne, ne_eq, tmod2]
      clear hqc hz hx x1 x2
      obtain ⟨j, hj⟩ : ∃ j : Nat, k % q.length = j := ⟨_, rfl⟩
      have hj' : (k : Int) % (q.length : Int) = (j : Int) := by omega
      rw [hj] at z1 hjl
      clear hj
      have hl1 : (k : Int) < (σ.pcs.length : Int) := by omega
      have hl2 : (0 : Int) < (q.length : Int) := by omega
      have hst := fall_step q σ.syn σ.pcs k p hp
      cases hx2 : (x.tmod 2 != 0) with
      | true =>
        have hst2 : fall q 0 σ.syn (σ.pcs.take (k + 1)) = lay (fall q 0 σ.syn (σ.pcs.take k)) p.1 p.2 := by rw [hst, hlv, hx2]; rfl
        have Hst := Lib.hid hst2
        have HP := Lib.hid (fun W => rput_any W (str (fall q 0 σ.syn (σ.pcs.take k))) (str p.2) p.1 (by omega) (by rw [str_size]; omega) (by rw [str_size]; omega))
        clear hst hst2 hlv hp hpl hlen
        go_wp2_with fail
        go_region_with (go_at_call 54; refine (HP.out _).mono ?_; rintro e w3 ⟨rfl, hb3⟩; have Hb3 := Lib.hid hb3; clear hb3)
        all_goals
          go_wp2
          exact ⟨⟨k + 1, by omega, by go_num, by rw [Hst.out]; rfl, HB.out.trans ((Below.refl _ wr).drew.trans Hb3.out |>.mono HB.out.size)⟩, by simp [intOf]; omega⟩
      | false =>
        have hst2 : fall q 0 σ.syn (σ.pcs.take (k + 1)) = fall q 0 σ.syn (σ.pcs.take k) := by rw [hst, hlv, hx2]; rfl
        have Hst := Lib.hid hst2
        clear hst hst2 hlv hp hpl hlen
        go_wp2_with fail
        exact ⟨⟨k + 1, by omega, by go_num, by rw [Hst.out], HB⟩, by simp [intOf]; omega⟩
    · have hfin : fall q 0 σ.syn (σ.pcs.take k) = fall q 0 σ.syn σ.pcs := by
        by_cases h1 : k < σ.pcs.length
        · have hq0 : q.length = 0 := by omega
          rw [fall_none q hq0, fall_none q hq0]
        · rw [List.take_of_length_le (by omega)]
      have Hfin := Lib.hid hfin
      clear hfin
      have HE : ∀ W : World, W = wr → IsRef (W.alloc (.cells #[.string (str (fall q 0 σ.syn (σ.pcs.take k))), .string (str (fall q 0 σ.syn (σ.pcs.take k))), .slice none 0 0, .int .i64 0, .int .i64 0, .bool false] 87)) W.heap.size (σ.crash q) (· = W.heap.size) := by
        rintro W -
        rw [Hfin.out]
        exact ⟨_, _, ⟨heap_alloc_new W _, fun h => by simp [DS.crash, DS.new] at h, World.ownsRow_nil _ _ _ _, rfl, fun k hk => by simp [Value.ownBlock] at hk, fun k hk => by rw [show k = W.heap.size from hk]; simp, HD.out.ok.crash q⟩⟩
      have HE' := Lib.hid (HE wr rfl)
      clear HE
      by_cases h1 : k < σ.pcs.length
      · have h2 : ¬ (0 < q.length) := by omega
        go_wp2
        go_ret
        exact ⟨_, rfl, HB.out.size, HB.out.alloc HB.out.size _, HE'.out⟩
      · have h2 : ¬ ((k : Int) < (σ.pcs.length : Int)) := by omega
        go_wp2
        go_ret
        exact ⟨_, rfl, HB.out.size, HB.out.alloc HB.out.size _, HE'.out⟩
end

theorem rcrash_any {w : World} {g : Nat} {σ : DS} {S : Nat → Prop} (h : IsRef w g σ S) (v : Value) (q : List Int) (hq : Reads w 1 v q.length (q.map (.int .i64))) :
    Calls Try.prog 31 #[.pointer (some ⟨g, 0, none⟩), v] w fun e w' => ∃ g', e = .returned (.pointer (some ⟨g', 0, none⟩)) ∧ w.heap.size ≤ g' ∧ Below w.heap.size w w' ∧ IsRef w' g' (σ.crash q) (· = g') := by
  obtain ⟨vp, l, d⟩ := h
  have hq0 := hq
  obtain ⟨B, cq, rfl, _⟩ := hq
  exact rcrash_yes d B cq q hq0

/-! ### the reference's disk as a thing -/
section
variable {w0 w : World} {L : List HP} {g : Nat} {σ : DS}
theorem At.ref (h : At w0 w L) (i : Nat) (hi : L[i]? = some (rf g σ)) : ∃ S, IsRef w g σ S := h.get i hi
theorem at_rnew (h : At w0 w L) : Calls Try.prog 22 #[] w fun e w' => e = .returned (.pointer (some ⟨w.heap.size, 0, none⟩)) ∧ At w0 w' (rf w.heap.size DS.new :: L) := by
  refine (rnew_is w).mono ?_
  rintro e w' ⟨rfl, hb, h1⟩
  exact ⟨rfl, h.more hb (P := rf w.heap.size DS.new) h1 fun k hk => Nat.le_of_eq hk.symm⟩
theorem at_rwrite (h : At w0 w L) (i : Nat) (hi : L[i]? = some (rf g σ)) (hn : σ.n < 100000) (off : Int) (s : ByteArray) (hs : s.size ≤ 1000000000) :
    Calls Try.prog 39 #[.pointer (some ⟨g, 0, none⟩), .int .i64 off, .string s] w fun e w' => e = .returned (.int .i64 (σ.writeE off s.data.toList)) ∧ At w0 w' (L.set i (rf g (σ.write off s.data.toList))) :=
  h.step i hi (P' := fun _ => rf g (σ.write off s.data.toList)) fun _ hd => rwrite_any hd hn off s hs
theorem at_rsync (h : At w0 w L) (i : Nat) (hi : L[i]? = some (rf g σ)) (hn : σ.n < 100000) :
    Calls Try.prog 49 #[.pointer (some ⟨g, 0, none⟩)] w fun e w' => e = .returned (.int .i64 σ.syncE) ∧ At w0 w' (L.set i (rf g σ.sync)) :=
  h.step i hi (P' := fun _ => rf g σ.sync) fun _ hd => rsync_any hd (by omega)
theorem at_rfail (h : At w0 w L) (i : Nat) (hi : L[i]? = some (rf g σ)) (n : Int) (hn : n ≤ 9223372036854775807) :
    Calls Try.prog 51 #[.pointer (some ⟨g, 0, none⟩), .int .i64 n] w fun e w' => e = .returned (.tuple #[]) ∧ At w0 w' (L.set i (rf g (σ.fail n))) :=
  h.step i hi (P' := fun _ => rf g (σ.fail n)) fun _ hd => rfail_is hd n hn
theorem at_rread (h : At w0 w L) (i : Nat) (hi : L[i]? = some (rf g σ)) (off n : Int) :
    Calls Try.prog 38 #[.pointer (some ⟨g, 0, none⟩), .int .i64 off, .int .i64 n] w fun e w' => e = .returned (.string (str (σ.read off n))) ∧ At w0 w' L := by
  obtain ⟨S, hd⟩ := h.ref i hi
  refine (rread_any hd off n).mono ?_
  rintro e w' ⟨rfl, m, rfl⟩
  exact ⟨rfl, h.drewN m⟩
theorem at_rsize (h : At w0 w L) (i : Nat) (hi : L[i]? = some (rf g σ)) :
    Calls Try.prog 25 #[.pointer (some ⟨g, 0, none⟩)] w fun e w' => e = .returned (.int .i64 (σ.now.length : Int)) ∧ w = w' := by
  obtain ⟨S, hd⟩ := h.ref i hi
  exact rsize_is hd
theorem at_rcalls (h : At w0 w L) (i : Nat) (hi : L[i]? = some (rf g σ)) :
    Calls Try.prog 27 #[.pointer (some ⟨g, 0, none⟩)] w fun e w' => e = .returned (.int .i64 (σ.n : Int)) ∧ w = w' := by
  obtain ⟨S, hd⟩ := h.ref i hi
  exact rcalls_is hd
theorem at_rcrash (h : At w0 w L) (i : Nat) (hi : L[i]? = some (rf g σ)) (v : Value) (q : List Int) (hq : Reads w 1 v q.length (q.map (.int .i64))) :
    Calls Try.prog 31 #[.pointer (some ⟨g, 0, none⟩), v] w fun e w' => ∃ g', e = .returned (.pointer (some ⟨g', 0, none⟩)) ∧ At w0 w' (rf g' (σ.crash q) :: L) := by
  obtain ⟨S, hd⟩ := h.ref i hi
  refine (rcrash_any hd v q hq).mono ?_
  rintro e w' ⟨g', rfl, hg, hb, h1⟩
  exact ⟨g', rfl, h.more (P := rf g' (σ.crash q)) hb h1 fun k hk => by rw [show k = g' from hk]; exact hg⟩
end
end Go.Proofs.Ytnfmcmjfpbmloaa
