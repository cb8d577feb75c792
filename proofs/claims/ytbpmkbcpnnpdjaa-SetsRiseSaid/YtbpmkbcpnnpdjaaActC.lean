/-
  The acts of the sets' laws: their cells; the rest of a slice; what is written last.
-/
import Derived.Test.YtbpmkbcpnnpdjaaSets2
import Derived.Test.YtbpmkbcpnnpdjaaDrawK
set_option linter.unusedVariables false
namespace Go.Proofs.Ytbpmkbcpnnpdjaa
open Go.RowKit Assoc SP

abbrev PAct := Int × Int × Int × Int
def encP : Enc PAct := encI4 .i64 .u64 .u64 .i64
theorem elem_act : Elem Try.prog 22 28 4 32 := .mk' (z := ((Try.prog.info? 28).bind (·.zero)).getD undef) Try.underlying22 (by kernel_rfl) (by kernel_rfl) (by omega)
theorem pact_cells {w : World} {A : Option Addr} {n c k : Nat} {L : List PAct} {a : PAct} (h : Rd encP w (.slice A n c) L) (hk : L[k]? = some a) : ∃ ad : Addr, A = some ad ∧ ad.block < w.heap.size ∧
    w.cell? (ad.add (k * 4)) = some (.int .i64 a.1) ∧ w.cell? ⟨(ad.add (k * 4)).block, (ad.add (k * 4)).off + 1, none⟩ = some (.int .u64 a.2.1) ∧ w.cell? ⟨(ad.add (k * 4)).block, (ad.add (k * 4)).off + 2, none⟩ = some (.int .u64 a.2.2.1) ∧ w.cell? ⟨(ad.add (k * 4)).block, (ad.add (k * 4)).off + 3, none⟩ = some (.int .i64 a.2.2.2) := by
  obtain ⟨ad, h1, h2, hc⟩ := h.at_ hk
  refine ⟨ad, h1, h2, hc 0 _ rfl, ?_, ?_, ?_⟩
  · have := hc 1 _ rfl; rwa [show k * encP.s + 1 = k * 4 + (0 + 1) from rfl, add_more] at this
  · have := hc 2 _ rfl; rwa [show k * encP.s + 2 = k * 4 + (1 + 1) from rfl, add_more] at this
  · have := hc 3 _ rfl; rwa [show k * encP.s + 3 = k * 4 + (2 + 1) from rfl, add_more] at this
/-- l[k:], where there is more. -/
theorem cut_rest {P : Program} {t e : TypeId} {s bytes : Nat} (ET : Elem P t e s bytes) (ad : Addr) (n c k : Nat) (hk : k < n) (hc : n ≤ c) (W : World) :
    (Instr.slice t (.slice (some ad) n c) (some (.int .i64 k)) none none).run P W = .ok (.slice (some (ad.add (k * s))) (n - k) (c - k)) W := by
  obtain ⟨i, z, hi, hz, hz1, hz2, hzs⟩ := ET.info
  have h : ¬ c = k := by omega
  simp [Instr.slice, run_underlying ET.und, Instr.sliceBounds, Instr.sliceBound, asIntOf, sizeOf, typeInfo, hi, hz1, h]
  omega
theorem rd_rest {α : Type} {E : Enc α} {w : World} {ad : Addr} {n c k : Nat} {L : List α} (h : Rd E w (.slice (some ad) n c) L) (hn : L.length = n) (hk : k < n) (hc : n ≤ c) : Rd E w (.slice (some (ad.add (k * E.s))) (n - k) (c - k)) (L.drop k) := by
  have := h.drop k (by omega) hc (c - k)
  rwa [if_neg (by omega)] at this
theorem take_more {α : Type} {L : List α} {k : Nat} {x : α} (h : L[k]? = some x) : L.take (k + 1) = L.take k ++ [x] := by
  obtain ⟨hk, rfl⟩ := List.getElem?_eq_some_iff.1 h
  exact List.take_succ_eq_append_getElem hk
/-- What is written behind some writes. -/
def wrF (W : AL) (a : PAct) : AL := put W a.2.1 a.2.2.1
def wrL (l : List PAct) : AL := l.foldl wrF []
theorem wrL_snoc (l : List PAct) (a : PAct) : wrL (l ++ [a]) = put (wrL l) a.2.1 a.2.2.1 := by unfold wrL; rw [List.foldl_append]; rfl
theorem wrF_srt (l : List PAct) {W : AL} (h : Srt W) : Srt (l.foldl wrF W) := by
  induction l generalizing W with
  | nil => exact h
  | cons a l ih => exact ih (srt_put h _ _)
theorem wrL_srt (l : List PAct) : Srt (wrL l) := wrF_srt l .nil
theorem wrF_len (l : List PAct) {W : AL} (h : Srt W) : (l.foldl wrF W).length ≤ W.length + l.length := by
  induction l generalizing W with
  | nil => simp
  | cons a l ih =>
    have h1 := ih (srt_put h a.2.1 a.2.2.1)
    have h2 := len_put h a.2.1 a.2.2.1
    have h3 : (put W a.2.1 a.2.2.1).length ≤ W.length + 1 := by rw [h2]; split <;> omega
    simp only [List.foldl_cons, List.length_cons]
    unfold wrF at h1 ⊢
    omega
theorem wrL_len (l : List PAct) : (wrL l).length ≤ l.length := by have := wrF_len l .nil; simpa [wrL] using this
/-- The last value of a cell. -/
def lastOf (c x : Int) (l : List PAct) : Int := l.foldl (fun x a => if a.2.1 = c then a.2.2.1 else x) x
theorem lastOf_snoc (c x : Int) (l : List PAct) (a : PAct) : lastOf c x (l ++ [a]) = if a.2.1 = c then a.2.2.1 else lastOf c x l := by unfold lastOf; rw [List.foldl_append]; rfl
theorem get_fold (c x : Int) (l : List PAct) {W : AL} (h : Srt W) (hg : get W c = some x) : get (l.foldl wrF W) c = some (lastOf c x l) := by
  induction l generalizing W x with
  | nil => exact hg
  | cons a l ih =>
    simp only [List.foldl_cons]
    unfold lastOf
    simp only [List.foldl_cons]
    refine ih _ (srt_put h _ _) ?_
    unfold wrF
    rw [get_put h]
    by_cases e : a.2.1 = c
    · rw [if_pos e.symm, if_pos e]
    · rw [if_neg (fun e' => e e'.symm), if_neg e, hg]
theorem get_last {L : List PAct} {k : Nat} {a : PAct} (h : L[k]? = some a) : get (wrL L) a.2.1 = some (lastOf a.2.1 a.2.2.1 (L.drop k)) := by
  obtain ⟨hk, ha⟩ := List.getElem?_eq_some_iff.1 h
  have hd : L.drop k = a :: L.drop (k + 1) := by rw [← ha]; exact List.drop_eq_getElem_cons hk
  have e : wrL L = (L.drop (k + 1)).foldl wrF (wrF ((L.take k).foldl wrF []) a) := by
    unfold wrL
    conv => lhs; rw [← List.take_append_drop k L]
    rw [List.foldl_append, hd]
    rfl
  rw [e, hd]
  clear hd e h
  have hs := wrF_srt (L.take k) Srt.nil
  unfold lastOf
  simp only [List.foldl_cons, if_true]
  refine get_fold _ _ _ (srt_put hs _ _) ?_
  exact (get_put hs a.2.1 a.2.2.1 a.2.1).trans (if_pos rfl)
end Go.Proofs.Ytbpmkbcpnnpdjaa
