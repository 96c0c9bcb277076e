/-
  The iterator records: its contract.
-/
import Derived.Test.YtnfmcmjfpbmloaaJrB
namespace Go.Proofs.Ytnfmcmjfpbmloaa
open Go.RowKit Go.Shelf
attribute [local go_sem] Oper.semAt_some

theorem callsW {n : Nat} {f : FuncId} {args : Array Value} {w : World} {R : Ending → World → Prop} (h : Calls Try.prog f args w R) : CallsIn Fence.wide n Try.prog f args w R := callsIn_wide.2 h

theorem abides_drewN {β : Type} {B : Nat} {J : β → World → Prop} (h : AbidesFrom B J) {s : β} {W : World} (hs : J s W) (m : Nat) : J s (W.drewN m) :=
  h s W _ none hs ⟨rfl, rfl, rfl, Nat.le_refl _, fun _ _ _ => rfl⟩ (fun r e => by cases e)


def RecPost (J Jx : List Tok → World → Prop) (xs : List Tok) (e : Ending) (W' : World) : Prop := (∃ v, e = .returned v) ∧ ((∃ ys, ys = xs ∧ J ys W') ∨ (∃ pre, pre <+: xs ∧ Jx pre W'))

set_option maxRecDepth 100000 in
set_option maxHeartbeats 2000000 in
theorem rec1_in (n : Nat) (hn : 1 ≤ n) (l b1 b2 g e : Nat) (σ : DS) (S T : Nat → Prop) (hST : ∀ k, S k → ¬ T k) (hT1 : ¬ T b1) (hT2 : ¬ T b2) (he0 : 64 ≤ e) (he : e ≤ 100000000) (J Jx : List Tok → World → Prop) (B : Nat) (hJ : AbidesFrom B J)
    (xs : List Tok) (hxs : xs.map Tok.pair = tokL σ.now 64 e)
    (hY : ∀ pre x W, J pre W → pre.length < xs.length → YieldAt Fence.wide (n - 1) Try.prog l x.vals W fun e W' =>
      (e = .returned (.bool true) ∧ J (pre ++ [x]) W' ∧ Turns T W W') ∨ (e = .returned (.bool false) ∧ Jx (pre ++ [x]) W'))
    (W : World) (h1 : W.heap[b1]? = some (.cells #[.int .i64 (e : Int)] 3 (0, 0))) (h2 : W.heap[b2]? = some (.cells #[.pointer (some ⟨g, 0, none⟩)] 25 (0, 0))) (hD : IsDisk W g σ S) (h0 : J [] W) :
    CallsIn Fence.wide n Try.prog 67 #[.func (.yield l) #[] #[], .pointer (some ⟨b1, 0, none⟩), .pointer (some ⟨b2, 0, none⟩)] W (RecPost J Jx xs) := by
  refine callsIn_of_wp Try.func67 rfl trivial ?_ rfl
  simp only [Try.ntmps67, List.size_toArray, List.length_cons, List.length_nil, Nat.reduceAdd, Nat.reduceSub, Array.replicate_succ, Array.replicate_zero, List.push_toArray, List.append_toArray, List.nil_append, List.cons_append]
  have HX := Lib.hid hxs
  have HD := Lib.hid hD
  have HJ := Lib.hid (And.intro h0 (And.intro h1 h2))
  have HY := Lib.hid hY
  clear hxs hD h0 h1 h2 hY
  gi_wp2
  gi_loopw [4] (fun p wr => ∃ (pre rest : List Tok) (a : Nat), p = .int .i64 (a : Int) ∧ a ≤ e ∧ Hid (xs = pre ++ rest ∧ rest.map Tok.pair = tokL σ.now a e) ∧ Hid (J pre wr ∧ wr.heap[b1]? = some (.cells #[.int .i64 (e : Int)] 3 (0, 0)) ∧ wr.heap[b2]? = some (.cells #[.pointer (some ⟨g, 0, none⟩)] 25 (0, 0)) ∧ IsDisk wr g σ S))
    (fun p _ => e - (intOf p).toNat)
  case atStart =>
    exact ⟨[], xs, 64, rfl, he0, ⟨rfl, HX.out⟩, ⟨HJ.out.1, HJ.out.2.1, HJ.out.2.2, HD.out⟩⟩
  case round =>
    obtain ⟨pre, rest, a, rfl, ha, HR, HS⟩ := hrel
    have c1 : ∀ m, (wr.drewN m).cell? ⟨b1, 0, none⟩ = some (.int .i64 (e : Int)) := fun m => cell_of_row (wr.drewN m) b1 0 _ _ _ HS.out.2.1
    have c2 : ∀ m, (wr.drewN m).cell? ⟨b2, 0, none⟩ = some (.pointer (some ⟨g, 0, none⟩)) := fun m => cell_of_row (wr.drewN m) b2 0 _ _ _ HS.out.2.2.1
    have c10 := c1 0
    have c20 := c2 0
    rw [World.drewN_zero] at c10 c20
    have HC := Lib.hid (And.intro c1 c2)
    clear c1 c2
    by_cases hlt : a < e
    · have hltI : (a : Int) < (e : Int) := by omega
      obtain ⟨x0, hx0⟩ : ∃ x0, num (rd σ.now a 4) 4 = x0 := ⟨_, rfl⟩
      have hx1 : x0 < 4294967296 := by rw [← hx0]; exact num_lt _ 4
      have HR4 := Lib.hid (show valN (str (σ.read (a : Int) 4)).data.toList 4 = (x0 : Int) by rw [str_data, show (4 : Int) = ((4 : Nat) : Int) from rfl, read_rd, valN_num _ 4 (by omega), hx0])
      have HX0 := Lib.hid hx0
      clear hx0
      gi_wp2_with fail
      refine ⟨trivial, (callsW (read_any HS.out.2.2.2 (a : Int) 4)).mono ?_⟩
      rintro e1 w1 ⟨rfl, m, rfl⟩
      have c11 := HC.out.1 m
      have c21 := HC.out.2 m
      have HJ1 := Lib.hid (And.intro (abides_drewN hJ HS.out.1 m) (HS.out.2.2.2.drewN m))
      have HB1 := Lib.hid (And.intro (show (wr.drewN m).heap[b1]? = some (.cells #[.int .i64 (e : Int)] 3 (0, 0)) from HS.out.2.1) (show (wr.drewN m).heap[b2]? = some (.cells #[.pointer (some ⟨g, 0, none⟩)] 25 (0, 0)) from HS.out.2.2.1))
      generalize wr.drewN m = w1 at *
      clear HC c10 c20 HS
      gi_wp2_with fail
      refine ⟨trivial, (callsW (value_any _ 4 (by omega) _)).mono ?_⟩
      rintro e1 w2 ⟨rfl, rfl⟩
      rw [HR4.out]
      clear HR4
      by_cases hend : e < a + 4 + x0
      · have hendI : (e : Int) < (a : Int) + 4 + (x0 : Int) := by omega
        have hx := HR.out
        rw [show tokL σ.now a e = [(str [], false)] by unfold tokL; rw [tok_bad _ _ _ hlt (by rw [HX0.out]; exact hend)]; rfl] at hx
        obtain ⟨y, hy, hyv⟩ := List.map_eq_singleton_iff.1 hx.2
        obtain ⟨fn, tmps, assign, body, hyy, hRR⟩ := HY.out pre y w1 HJ1.out.1 (by rw [hx.1, hy]; simp)
        have hyy' : (Instr.yield l #[.string ⟨#[]⟩, .bool false]).run Try.prog w1 = .ok (.round l fn tmps assign body) w1 := by
          obtain ⟨ys, yo, yh⟩ := y
          simp only [Tok.pair, Prod.mk.injEq] at hyv
          obtain ⟨rfl, rfl⟩ := hyv
          exact hyy
        have HRR := Lib.hid hRR
        have HXX := Lib.hid (show xs = pre ++ [y] by rw [hx.1, hy])
        clear hyy hRR hx hy hyv HR
        gi_wp2
        refine HRR.out.mono ?_
        rintro e3 W3 (⟨rfl, hJ3, _⟩ | ⟨rfl, hJx3⟩)
        · have HF := Lib.hid (show RecPost J Jx xs (.returned (.tuple #[])) W3 from ⟨⟨_, rfl⟩, .inl ⟨_, rfl, by rw [HXX.out]; exact hJ3⟩⟩)
          clear hJ3
          gi_wp2
          refine bodyPost_ret (results_none rfl _ _ _) rfl ?_
          exact HF.out
        · have HF := Lib.hid (show RecPost J Jx xs (.returned (.tuple #[])) W3 from ⟨⟨_, rfl⟩, .inr ⟨_, ⟨[], by rw [HXX.out]; simp⟩, hJx3⟩⟩)
          clear hJx3
          gi_wp2
          refine bodyPost_ret (results_none rfl _ _ _) rfl ?_
          exact HF.out
      · have hendI : ¬ ((e : Int) < (a : Int) + 4 + (x0 : Int)) := by omega
        have hx := HR.out
        rw [show tokL σ.now a e = (str (rd σ.now (a + 4) x0), true) :: tokL σ.now (a + 4 + x0) e by unfold tokL; rw [tok_good _ _ _ hlt (by rw [HX0.out]; exact hend), HX0.out]; rfl] at hx
        obtain ⟨y, ry, hy, hyv, hrv⟩ := List.map_eq_cons_iff.1 hx.2
        have HRD := Lib.hid (show str (σ.read ((a : Int) + 4) (x0 : Int)) = str (rd σ.now (a + 4) x0) by rw [show ((a : Int) + 4) = ((a + 4 : Nat) : Int) by omega, read_rd])
        have HXX := Lib.hid (show xs = pre ++ y :: ry by rw [hx.1, hy])
        have HRV := Lib.hid hrv
        have HYV := Lib.hid hyv
        clear hx hy hrv hyv HR
        gi_wp2_with fail
        refine ⟨trivial, (callsW (read_any HJ1.out.2 ((a : Int) + 4) (x0 : Int))).mono ?_⟩
        rintro e1 w2 ⟨rfl, m2, rfl⟩
        rw [HRD.out]
        have HJ2 := Lib.hid (And.intro (abides_drewN hJ HJ1.out.1 m2) (HJ1.out.2.drewN m2))
        have HB2 := Lib.hid (And.intro (show (w1.drewN m2).heap[b1]? = some (.cells #[.int .i64 (e : Int)] 3 (0, 0)) from HB1.out.1) (show (w1.drewN m2).heap[b2]? = some (.cells #[.pointer (some ⟨g, 0, none⟩)] 25 (0, 0)) from HB1.out.2))
        generalize w1.drewN m2 = w2 at *
        clear HJ1 HB1 HRD c11 c21
        obtain ⟨fn, tmps, assign, body, hyy, hRR⟩ := HY.out pre y w2 HJ2.out.1 (by rw [HXX.out]; simp)
        have hyy' : (Instr.yield l #[.string (str (rd σ.now (a + 4) x0)), .bool true]).run Try.prog w2 = .ok (.round l fn tmps assign body) w2 := by
          have h := HYV.out
          obtain ⟨ys, yo, yh⟩ := y
          simp only [Tok.pair, Prod.mk.injEq] at h
          obtain ⟨rfl, rfl⟩ := h
          exact hyy
        have HRR := Lib.hid hRR
        clear hyy hRR
        generalize str (rd σ.now (a + 4) x0) = sx at *
        gi_wp2
        refine HRR.out.mono ?_
        rintro e3 W3 (⟨rfl, hJ3, ht3⟩ | ⟨rfl, hJx3⟩)
        · have HF : Hid (J (pre ++ [y]) W3 ∧ W3.heap[b1]? = some (.cells #[.int .i64 (e : Int)] 3 (0, 0)) ∧ W3.heap[b2]? = some (.cells #[.pointer (some ⟨g, 0, none⟩)] 25 (0, 0)) ∧ IsDisk W3 g σ S) :=
            ⟨hJ3, ht3.is HB2.out.1 hT1, ht3.is HB2.out.2 hT2, HJ2.out.2.turns ht3 hST⟩
          have HG : Hid (xs = (pre ++ [y]) ++ ry ∧ ry.map Tok.pair = tokL σ.now (a + 4 + x0) e) := ⟨by rw [HXX.out]; simp, HRV.out⟩
          clear hJ3 ht3
          gi_wp2
          go_roundw
          case rel => exact ⟨pre ++ [y], ry, a + 4 + x0, by go_num, by omega, HG, HF⟩
          case measure => simp [intOf]; omega
        · have HF := Lib.hid (show RecPost J Jx xs (.returned (.tuple #[])) W3 from ⟨⟨_, rfl⟩, .inr ⟨_, ⟨ry, by rw [HXX.out]; simp⟩, hJx3⟩⟩)
          clear hJx3
          gi_wp2
          refine bodyPost_ret (results_none rfl _ _ _) rfl ?_
          exact HF.out
    · have hltI : ¬ (a : Int) < (e : Int) := by omega
      gi_wp2
      go_end0
      have h := HR.out
      rw [show tokL σ.now a e = [] by unfold tokL; rw [tok_end _ _ _ hlt]; rfl] at h
      have h2 := List.map_eq_nil_iff.1 h.2
      exact ⟨⟨_, rfl⟩, .inl ⟨pre, by rw [h.1, h2, List.append_nil], HS.out.1⟩⟩

set_option maxHeartbeats 1000000 in
/-- records(d, e): the two boxes, and the function value that captures them. -/
theorem records_any (w : World) (p : Option Addr) (e : Int) :
    Calls Try.prog 60 #[.pointer p, .int .i64 e] w fun r w' => r = .returned (.func (.func 67) #[] #[.pointer (some ⟨w.heap.size + 1, 0, none⟩), .pointer (some ⟨w.heap.size, 0, none⟩)]) ∧ w' = (w.alloc (.cells #[.pointer p] 25)).alloc (.cells #[.int .i64 e] 3) := by
  have hmf : ∀ (fn : Fn) (first cap : Array Value) (w : World), (Instr.makeFunc fn first cap).run Try.prog w = .ok (.func fn first cap) w := fun _ _ _ _ => rfl
  go_enter Try.func60, Try.ntmps60
  go_wp2
  go_ret
  exact ⟨rfl, rfl⟩

theorem rec_stops (n : Nat) (hn : 1 ≤ n) (b1 b2 g e : Nat) (σ : DS) (S T : Nat → Prop) (hST : ∀ k, S k → ¬ T k) (hT1 : ¬ T b1) (hT2 : ¬ T b2) (he0 : 64 ≤ e) (he : e ≤ 100000000)
    (xs : List Tok) (hxs : xs.map Tok.pair = tokL σ.now 64 e) (w : World) (h1 : w.heap[b1]? = some (.cells #[.int .i64 (e : Int)] 3 (0, 0))) (h2 : w.heap[b2]? = some (.cells #[.pointer (some ⟨g, 0, none⟩)] 25 (0, 0))) (hD : IsDisk w g σ S) :
    SeqStopsK Fence.wide n Try.prog 67 #[.pointer (some ⟨b1, 0, none⟩), .pointer (some ⟨b2, 0, none⟩)] Tok.vals (Turns T) (fun ys => ys = xs) (fun pre => pre <+: xs) xs.length w := by
  intro l J Jx W hW hJ _ hY h0
  have ht := Turns.below (S := No) hW
  exact rec1_in n hn l b1 b2 g e σ S T hST hT1 hT2 he0 he J Jx _ hJ xs hxs hY W (ht.is h1 id) (ht.is h2 id) (hD.turns ht fun _ _ => id) h0
end Go.Proofs.Ytnfmcmjfpbmloaa
