/-
  Contents of any kind; an append that is guarded.
-/
import Derived.Test.YtnfmcmjfpbmloaaJrN
namespace Go.Proofs.Ytnfmcmjfpbmloaa
open Go.RowKit

theorem tok_bs (c : List UInt8) : ∀ (f a e : Nat), e ≤ a + f → (∀ p ∈ tok c a e, p.2 = true) → bs ((tok c a e).map Prod.fst) ≤ 4 * (e - a)
  | 0, a, e, h, _ => by rw [tok_end c a e (by omega)]; simp [bs]
  | f + 1, a, e, h, hok => by
    by_cases h1 : a < e
    · by_cases h2 : e < a + 4 + num (rd c a 4) 4
      · rw [tok_bad c a e h1 h2] at hok
        have := hok _ (List.mem_singleton.2 rfl)
        cases this
      · rw [tok_good c a e h1 h2] at hok ⊢
        have ih := tok_bs c f _ e (by omega) fun p hp => hok p (List.mem_cons_of_mem _ hp)
        have hlen := length_rd c (a + 4) (num (rd c a 4) 4)
        simp only [List.map_cons, bs]
        omega
    · rw [tok_end c a e h1]; simp [bs]
theorem Holds.bs_le {c : List UInt8} {l : List (List UInt8)} {e : Nat} (h : Holds c l e) : bs l ≤ 4 * (e - 64) := by
  have := tok_bs c e 64 e (by omega) h.oks
  rw [h.2.2] at this
  simpa [List.map_map, Function.comp_def] using this

/-- Contents that hold no records are refused. -/
theorem at_openN {w0 w : World} {L : List HP} {g : Nat} {σ : DS} (h : At w0 w (dk g σ :: L)) (hn : σ.n < 100000) (ho : σ.off = false) (hH : ¬ ∃ l e, Holds σ.now l e) :
    Calls Try.prog 41 #[.pointer (some ⟨g, 0, none⟩)] w (OpenNo w0 (dk g σ.sync :: L) 11) := by
  by_cases hk : headOk σ.now
  · obtain ⟨e, he⟩ : ∃ e : Nat, 64 + valN (rd σ.now 0 8) 8 = (e : Int) := ⟨(64 + valN (rd σ.now 0 8) 8).toNat, by have := hk.1; omega⟩
    have he2 : e ≤ 16777280 := by have := hk.2.1; omega
    obtain ⟨xs, hxs⟩ := toks_exist (tok σ.now 64 e) (fun p hp => by have := tok_size σ.now e 64 e (by omega) p hp; omega)
    refine (open_loop h hn ho hk e he xs hxs).mono ?_
    rintro r w' (⟨_, h1⟩ | ⟨hall, _⟩)
    · exact h1
    · exfalso
      refine hH ⟨(tok σ.now 64 e).map Prod.fst, e, hk, he, ?_⟩
      rw [List.map_map]
      conv => lhs; rw [← List.map_id (tok σ.now 64 e)]
      apply List.map_congr_left
      intro p hp
      have : (str p.1, p.2) ∈ xs.map Tok.pair := by rw [hxs]; exact List.mem_map_of_mem (f := fun p => (str p.1, p.2)) hp
      obtain ⟨x, hx, hxp⟩ := List.mem_map.1 this
      have h2 := hall x hx
      have h3 : p.2 = x.ok := by
        have := congrArg Prod.snd hxp
        exact this.symm
      show p = (p.1, true)
      rw [← h2, ← h3]
  · exact open_head h hn ho hk

theorem wpList_append_want {P : Program} (w : World) {ops : Array Oper} {rest : List Oper} {o : Oper} {a : Go.Act} {Q : Exit → Go.Act → World → Prop} (hw : Region.wanted o (yielded ops a.tmps) = true) (s x : Operand) (t : TypeId)
    (ho : o.op = .call { callee := .builtin .append, args := #[s, x], argTypes := #[t, t] })
    (e : TypeId) (i : TypeInfo) (z : Value) (size bytes : Nat) (ht : P.underlying t = some (.slice e)) (hi : P.info? e = some i) (hz : i.zero = some z)
    (hsize : i.size = size) (hby : i.bytes = bytes) (hzs : z.cells.size = size) (hsz : 0 < size)
    (v : Value) (n : Nat) (xs : List Value) (hs : a.eval s = v) (hown : w.ownsRow 0 e size v n xs)
    (vx : Value) (m : Nat) (news : List Value) (hx : a.eval x = vx) (hr : Reads w size vx m news) (h1 : ∀ u ∈ news, u.oneCell' = true)
    (h63 : n + m ≤ maxLen) (hbytes : (n + m) * bytes ≤ 140737488355328)
    (h : ∀ v' w', w'.ownsRow 0 e size v' (n + m) (xs ++ news) → w.grownBy w' v.ownBlock → (v'.ownBlock = v.ownBlock ∨ v'.ownBlock = some w.heap.size) → wpList P ops Q rest (a.put o.dst v') w') : wpList P ops Q (o :: rest) a w :=
  BigFrame.wpList_want hw fun _ hK => wp_append_onto w s x t ho e i z size bytes ht hi hz hsize hby hzs hsz v n xs hs hown vx m news hx hr h1 h63 hbytes fun v' w' h2 h3 h4 => hK _ _ (h v' w' h2 h3 h4)

/-- A text, cut to its first 300 bytes. -/
def cut300 (s : ByteArray) : ByteArray := s.extract 0 (min s.size 300)
theorem cut300_size (s : ByteArray) : (cut300 s).size ≤ 300 := by unfold cut300; simp; omega
end Go.Proofs.Ytnfmcmjfpbmloaa
