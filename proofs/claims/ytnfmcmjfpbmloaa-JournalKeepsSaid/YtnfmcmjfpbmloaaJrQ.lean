/-
  One round of JournalSame: the journal and the reference append.
-/
import Derived.Test.YtnfmcmjfpbmloaaJrO
import Derived.Test.YtnfmcmjfpbmloaaJrP
namespace Go.Proofs.Ytnfmcmjfpbmloaa
open Go.RowKit Go.ChangeShapes Go.WideShapes Go.ChangeAt
open Go.ChangeMaps (open_string shut_string)

theorem rj_front {w0 w : World} {a b : HP} {gm : Nat} {vL vM : Value} {l mb : List (List UInt8)} {br : Bool} {x : Int} {L : List HP} (h : At w0 w (a :: b :: rjL gm vL vM l mb br x L)) : RJ w0 w gm l mb br x (a :: b :: L) :=
  ⟨vL, vM, h.perm ((List.perm_append_comm (l₁ := [a, b]) (l₂ := [bl gm 74 #[vL, vM, .bool br, .int .i64 x], sl vL l, sl vM mb])).append_right L)⟩
theorem rj_back {w0 w : World} {a b : HP} {gm : Nat} {l mb : List (List UInt8)} {br : Bool} {x : Int} {L : List HP} (h : RJ w0 w gm l mb br x (a :: b :: L)) : ∃ A c vM, At w0 w (a :: b :: rjL gm (.slice A l.length c) vM l mb br x L) := by
  obtain ⟨vL, vM, h⟩ := h
  obtain ⟨S, h1, _⟩ := h.get 1 rfl
  obtain ⟨A, c, rfl, _⟩ := own_slice h1
  exact ⟨A, c, vM, h.perm ((List.perm_append_comm (l₁ := [bl gm 74 #[.slice A l.length c, vM, .bool br, .int .i64 x], sl (.slice A l.length c) l, sl vM mb]) (l₂ := [a, b])).append_right L)⟩

theorem strs_at2 {w0 : World} {A : Option Addr} {n c : Nat} {l : List ByteArray} (hr : StrsIn w0 (.slice A n c) l) (hl : l.length = n) (k : Nat) (s : ByteArray) (hk : l[k]? = some s) : ∃ b off, A = some ⟨b, off, none⟩ ∧ (∀ {w' : World} {L' : List HP}, At w0 w' L' → w'.cell? ⟨b, off + k, none⟩ = some (.string s)) ∧ s.size ≤ maxLen := by
  have hkl : k < l.length := (List.getElem?_eq_some_iff.1 hk).1
  have hr1 := hr.1
  rw [hl] at hr1
  obtain ⟨b, off, rfl, hb, hc⟩ := hr1.elem (by omega) (by omega)
  refine ⟨b, off, rfl, fun {w' L'} h' => ?_, hr.2 s (List.mem_of_getElem? hk)⟩
  rw [h'.below.cell (p := ⟨b, off + k, none⟩) hb, hc k (by simp; omega)]
  simp [hk]

theorem rappend_any {w0 w : World} {L : List HP} {gm : Nat} {l : List (List UInt8)} {by' : Int} (h : RJ w0 w gm l [] false by' L) (s : ByteArray) (p : Bool) (hb0 : 0 ≤ by') (hb1 : by' ≤ 1000000) (hs : s.size ≤ 1000) (hl : l.length ≤ 1000) :
    Calls Try.prog 45 #[.pointer (some ⟨gm, 0, none⟩), .string s, .bool p] w fun r w' => r = .returned (.int .i64 (if p then 0 else 70)) ∧ RJ w0 w' gm (if p then l ++ [s.data.toList] else l) (if p then [] else [s.data.toList]) (!p) (if p then by' + s.size + 16 else by') L := by
  cases p with
  | true => exact rappend_yes h s hb0 hb1 hs hl
  | false => exact rappend_no h s hb0 hb1 hs (by simp)

theorem gj_fail {σ : DS} {l : List (List UInt8)} {e : Nat} (h : GJ σ l e) (n : Int) : GJ (σ.fail n) l e := ⟨h.holds, h.pcs, h.syn⟩

/-- Between two rounds: all is well, or an Append has failed. -/
def SameAt (w wr : World) (l : List ByteArray) (jb gd gm k : Nat) : Prop :=
  ∃ (σ : DS) (vL vM : Value), σ.n ≤ 4 * k + 5 ∧ ((∃ e, GJ σ (recs l k) e ∧ At w wr (jn jb gd (recs l k).length (bs (recs l k)) e false :: dk gd σ :: rjL gm vL vM (recs l k) [] false (bs (recs l k)) [])) ∨
    (∃ (j e e2 : Nat) (r0 : List UInt8) (m b x : Int), j ≤ 10 ∧ (recs l j).length ≤ 10 ∧ r0.length ≤ 200 ∧ (Holds σ.now (recs l j) e ∨ Holds σ.now (recs l j ++ [r0]) e2) ∧ At w wr (jn jb gd m b x true :: dk gd σ :: rjL gm vL vM (recs l j) [r0] true (bs (recs l j)) [])))

theorem SameAt.fail {w wr : World} {l : List ByteArray} {jb gd gm k : Nat} (h : SameAt w wr l jb gd gm k) (n : Int) (hn : n ≤ 9223372036854775807) : Calls Try.prog 37 #[.pointer (some ⟨gd, 0, none⟩), .int .i64 n] wr fun r w' => r = .returned (.tuple #[]) ∧ SameAt w w' l jb gd gm k := by
  obtain ⟨σ, vL, vM, hσ, ⟨e, hG, hA⟩ | ⟨j, e, e2, r0, m, b, x, h1, h2, h3, h4, hA⟩⟩ := h
  · refine (at_fail hA 1 rfl n hn).mono ?_
    rintro r w' ⟨rfl, h⟩
    exact ⟨rfl, σ.fail n, vL, vM, hσ, .inl ⟨e, gj_fail hG n, h⟩⟩
  · refine (at_fail hA 1 rfl n hn).mono ?_
    rintro r w' ⟨rfl, h⟩
    exact ⟨rfl, σ.fail n, vL, vM, hσ, .inr ⟨j, e, e2, r0, m, b, x, h1, h2, h3, h4, h⟩⟩
theorem SameAt.at {w wr : World} {l : List ByteArray} {jb gd gm k : Nat} (h : SameAt w wr l jb gd gm k) : ∃ L, At w wr L := by
  obtain ⟨σ, vL, vM, hσ, ⟨e, hG, hA⟩ | ⟨j, e, e2, r0, m, b, x, h1, h2, h3, h4, hA⟩⟩ := h
  · exact ⟨_, hA⟩
  · exact ⟨_, hA⟩
theorem SameAt.drew {w wr : World} {l : List ByteArray} {jb gd gm k : Nat} (h : SameAt w wr l jb gd gm k) : SameAt w wr.drew l jb gd gm k := by
  obtain ⟨σ, vL, vM, hσ, ⟨e, hG, hA⟩ | ⟨j, e, e2, r0, m, b, x, h1, h2, h3, h4, hA⟩⟩ := h
  · exact ⟨σ, vL, vM, hσ, .inl ⟨e, hG, hA.drew⟩⟩
  · exact ⟨σ, vL, vM, hσ, .inr ⟨j, e, e2, r0, m, b, x, h1, h2, h3, h4, hA.drew⟩⟩

/-- Half a round: the journal has appended and answered c; the reference has not yet. -/
def HalfAt (w wr : World) (l : List ByteArray) (s : ByteArray) (jb gd gm k : Nat) (c : Int) : Prop :=
  ∃ (σ : DS) (vL vM : Value), σ.n ≤ 4 * k + 9 ∧ ((∃ e, After (recs l k) e (sh s).data.toList (σ, c) ∧ At w wr ((if c = 0 then jn jb gd (recs l k ++ [(sh s).data.toList]).length (bs (recs l k ++ [(sh s).data.toList])) (e + 4 + (sh s).data.toList.length : Nat) false else jn jb gd (recs l k).length (bs (recs l k)) e true) :: dk gd σ :: rjL gm vL vM (recs l k) [] false (bs (recs l k)) [])) ∨
    (c = 70 ∧ ∃ (j e e2 : Nat) (r0 : List UInt8) (m b x : Int), j ≤ 10 ∧ (recs l j).length ≤ 10 ∧ r0.length ≤ 200 ∧ (Holds σ.now (recs l j) e ∨ Holds σ.now (recs l j ++ [r0]) e2) ∧ At w wr (jn jb gd m b x true :: dk gd σ :: rjL gm vL vM (recs l j) [r0] true (bs (recs l j)) [])))
theorem HalfAt.at {w wr : World} {l : List ByteArray} {s : ByteArray} {jb gd gm k : Nat} {c : Int} (h : HalfAt w wr l s jb gd gm k c) : ∃ L, At w wr L := by
  obtain ⟨σ, vL, vM, hσ, ⟨e, hG, hA⟩ | ⟨_, j, e, e2, r0, m, b, x, h1, h2, h3, h4, hA⟩⟩ := h
  · exact ⟨_, hA⟩
  · exact ⟨_, hA⟩

theorem SameAt.append {w wr : World} {l : List ByteArray} {jb gd gm k : Nat} (h : SameAt w wr l jb gd gm k) (hk : k ≤ 10) (s : ByteArray) : Calls Try.prog 43 #[.pointer (some ⟨jb, 0, none⟩), .string (sh s)] wr fun r w' => ∃ c, r = .returned (.int .i64 c) ∧ HalfAt w w' l s jb gd gm k c := by
  have hsr := sh_size s
  have hbk := bs_recs l k
  obtain ⟨σ, vL, vM, hσ, ⟨e, hG, hA⟩ | ⟨j, e, e2, r0, m, b, x, h1, h2, h3, h4, hA⟩⟩ := h
  · refine (at_append hA hG (sh s) (by omega) (by omega)).mono ?_
    rintro r w' ⟨σ', c, rfl, hAf, hn, _, hA'⟩
    exact ⟨c, rfl, σ', vL, vM, by omega, .inl ⟨e, hAf, hA'⟩⟩
  · refine (append_broken hA (sh s)).mono ?_
    rintro r w' ⟨rfl, hA'⟩
    exact ⟨70, rfl, σ, vL, vM, by omega, .inr ⟨rfl, j, e, e2, r0, m, b, x, h1, h2, h3, h4, hA'⟩⟩

theorem HalfAt.append {w wr : World} {l : List ByteArray} {s : ByteArray} {jb gd gm k : Nat} {c : Int} (h : HalfAt w wr l s jb gd gm k c) (hk : k < 10) (hs : l[k]? = some s) : Calls Try.prog 45 #[.pointer (some ⟨gm, 0, none⟩), .string (sh s), .bool (c == 0)] wr fun r w' => (∃ v, r = .returned v) ∧ SameAt w w' l jb gd gm (k + 1) := by
  have hsr := sh_size s
  have hbk := bs_recs l k
  have hkl : k < l.length := (List.getElem?_eq_some_iff.1 hs).1
  have hlen := recs_len l k (by omega)
  have hsl : (sh s).data.toList.length = (sh s).size := by rw [Array.length_toList]; rfl
  obtain ⟨σ, vL, vM, hσ, ⟨e, hAf, hA⟩ | ⟨rfl, j, e, e2, r0, m, b, x, h1, h2, h3, h4, hA⟩⟩ := h
  · refine (rappend_any (rj_front hA) (sh s) (c == 0) (by omega) (by omega) (by omega) (by omega)).mono ?_
    rintro r w' ⟨rfl, hR⟩
    refine ⟨⟨_, rfl⟩, ?_⟩
    rcases hAf with ⟨hc, hG⟩ | ⟨hc, hn1, _⟩
    · dsimp only at hc
      subst hc
      obtain ⟨A, c', vM', hB⟩ := rj_back hR
      rw [if_pos rfl] at hB
      have e2 : (bs (recs l k) : Int) + ((sh s).size : Int) + 16 = (bs (recs l (k + 1)) : Int) := by rw [recs_succ l k s hs, bs_append]; simp [bs, hsl]; omega
      have hB2 : At w w' (jn jb gd (recs l k ++ [(sh s).data.toList]).length (bs (recs l k ++ [(sh s).data.toList])) ((e + 4 + (sh s).data.toList.length : Nat)) false :: dk gd σ :: rjL gm (.slice A (recs l k ++ [(sh s).data.toList]).length c') vM' (recs l k ++ [(sh s).data.toList]) [] false ((bs (recs l k) : Int) + ((sh s).size : Int) + 16) []) := hB
      rw [e2, ← recs_succ l k s hs] at hB2
      rw [← recs_succ l k s hs] at hG
      exact ⟨σ, _, vM', by omega, .inl ⟨_, hG, hB2⟩⟩
    · dsimp only at hc
      subst hc
      obtain ⟨A, c', vM', hB⟩ := rj_back hR
      exact ⟨σ, _, vM', by omega, .inr ⟨k, e, _, (sh s).data.toList, _, _, _, by omega, by omega, by omega, hn1, hB⟩⟩
  · refine (rappend_broken (rj_front hA) (sh s) _).mono ?_
    rintro r w' ⟨rfl, hR⟩
    obtain ⟨A, c', vM', hB⟩ := rj_back hR
    exact ⟨⟨_, rfl⟩, σ, _, vM', by omega, .inr ⟨j, e, e2, r0, m, b, x, h1, h2, h3, h4, hB⟩⟩

end Go.Proofs.Ytnfmcmjfpbmloaa
