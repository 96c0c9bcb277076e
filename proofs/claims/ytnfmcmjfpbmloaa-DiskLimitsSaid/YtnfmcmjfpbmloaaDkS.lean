/-
  The contracts of same and do.
-/
import Derived.Test.YtnfmcmjfpbmloaaDkR
namespace Go.Proofs.Ytnfmcmjfpbmloaa
open Go.RowKit

theorem quiet_same {P : Program} {f : FuncId} {args : Array Value} {w : World} {n : Nat} {v : Value} (h : Calls P f args (w.drewN n) fun e w' => e = .returned v ∧ w.drewN n = w') : Calls P f args (w.drewN n) fun e w'' => e = .returned v ∧ ∃ m, w'' = w.drewN m :=
  h.mono fun _ _ ⟨he, hm⟩ => ⟨he, n, hm.symm⟩

section
variable {w0 w : World} {L : List HP} {gx gd gm : Nat} {σ : DS}

set_option maxRecDepth 100000 in
set_option maxHeartbeats 1000000 in
theorem same_any (h : At w0 w (deskL gx gd gm σ L)) :
    Calls Try.prog 28 #[.pointer (some ⟨gx, 0, none⟩)] w fun e w' => e = .returned (.bool true) ∧ At w0 w' (deskL gx gd gm σ L) := by
  have c0 := h.cell 0 rfl 0 _ rfl
  have c1 := h.cell 0 rfl 1 _ rfl
  obtain ⟨S1, hd⟩ := h.disk 1 rfl
  obtain ⟨S2, hm⟩ := h.ref 2 rfl
  have Hd := Lib.hid (fun n => hd.drewN n)
  have Hm := Lib.hid (fun n => hm.turns (T := No) ((Turns.refl _ w).drewN n) fun _ _ => id)
  have H := Lib.hid h
  clear h hd hm
  go_enter Try.func28, Try.ntmps28
  go_wp2
  go_quiet ((first
    | (go_at_call 24; exact quiet_same (size_is (Hd.out _)))
    | (go_at_call 25; exact quiet_same (rsize_is (Hm.out _)))
    | (go_at_call 26; exact quiet_same (calls_is (Hd.out _)))
    | (go_at_call 27; exact quiet_same (rcalls_is (Hm.out _)))
    | (go_at_call 36; exact Calls.quiet_of (read_any (Hd.out _) _ _))
    | (go_at_call 38; exact Calls.quiet_of (rread_any (Hm.out _) _ _))))
  go_wp2
  go_ret
  exact ⟨rfl, H.out.drewN _⟩

def DS.act (σ : DS) (a : Act) : DS :=
  if a.kind % 8 = 4 then σ.sync else if a.kind % 8 = 5 then σ else if a.kind % 8 = 6 then σ.fail (a.n % 9 - 1) else if a.kind % 8 = 7 then σ.crash (surv a.n) else σ.write a.spot a.txt

theorem act_n (σ : DS) (a : Act) : (σ.act a).n ≤ σ.n + 1 := by
  unfold DS.act
  split
  · exact DS.sync_n σ
  · split
    · omega
    · split
      · exact Nat.le_succ _
      · split
        · exact Nat.zero_le _
        · exact DS.write_n σ _ _

theorem do_any (h : At w0 w (deskL gx gd gm σ L)) (hn : σ.n < 100000) (a : Act) :
    Calls Try.prog 23 #[.pointer (some ⟨gx, 0, none⟩), .agg #[.int .i64 a.kind, .int .i64 a.off, .int .i64 a.n, .string a.text]] w fun e w' => e = .returned (.bool true) ∧ ∃ gd' gm', At w0 w' (deskL gx gd' gm' (σ.act a) L) := by
  unfold DS.act
  by_cases h4 : a.kind % 8 = 4
  · rw [if_pos h4]
    exact (do_sync h hn a h4).mono fun e w' ⟨he, hA⟩ => ⟨he, gd, gm, hA⟩
  rw [if_neg h4]
  by_cases h5 : a.kind % 8 = 5
  · rw [if_pos h5]
    exact (do_read h a h5).mono fun e w' ⟨he, hA⟩ => ⟨he, gd, gm, hA⟩
  rw [if_neg h5]
  by_cases h6 : a.kind % 8 = 6
  · rw [if_pos h6]
    exact (do_fail h a h6).mono fun e w' ⟨he, hA⟩ => ⟨he, gd, gm, hA⟩
  rw [if_neg h6]
  by_cases h7 : a.kind % 8 = 7
  · rw [if_pos h7]
    exact do_crash h a h7
  rw [if_neg h7]
  exact (do_write h hn a (by omega)).mono fun e w' ⟨he, hA⟩ => ⟨he, gd, gm, hA⟩

theorem desk_new (h : At w0 w (bl gx 30 #[.pointer (some ⟨gd, 0, none⟩), .pointer (some ⟨gm, 0, none⟩)] :: rf gm σ :: dk gd σ :: L)) : At w0 w (deskL gx gd gm σ L) := h.perm (.cons _ (.swap _ _ _))
end

/-- An act of a list that came in. -/
theorem act_at {w0 w : World} {L : List HP} {A : Option Addr} {n c : Nat} {l : List Act} (h : At w0 w L) (hr : Reads w0 4 (.slice A n c) n (l.flatMap actCells)) (hl : l.length = n) (k : Nat) (a : Act) (hk : l[k]? = some a) :
    ∃ b off, A = some ⟨b, off, none⟩ ∧ w.cell? ⟨b, off + k * 4, none⟩ = some (.int .i64 a.kind) ∧ w.cell? ⟨b, off + k * 4 + 1, none⟩ = some (.int .i64 a.off) ∧ w.cell? ⟨b, off + k * 4 + 2, none⟩ = some (.int .i64 a.n) ∧ w.cell? ⟨b, off + k * 4 + 3, none⟩ = some (.string a.text) := by
  have hkl : k < l.length := (List.getElem?_eq_some_iff.1 hk).1
  obtain ⟨b, off, rfl, hb, hc⟩ := hr.elem (by omega) (by omega)
  have hlen := length_flatMap actCells 4 (fun _ => rfl) l
  have key : ∀ j, j < 4 → w.cell? ⟨b, off + (k * 4 + j), none⟩ = (actCells a)[j]? := by
    intro j hj
    rw [h.below.cell (p := ⟨b, off + (k * 4 + j), none⟩) hb, hc (k * 4 + j) (by omega), flatMap_at actCells 4 (fun _ => rfl) l k j a hk hj]
  refine ⟨b, off, rfl, ?_, ?_, ?_, ?_⟩
  · exact key 0 (by omega)
  · exact key 1 (by omega)
  · exact key 2 (by omega)
  · exact key 3 (by omega)
end Go.Proofs.Ytnfmcmjfpbmloaa
