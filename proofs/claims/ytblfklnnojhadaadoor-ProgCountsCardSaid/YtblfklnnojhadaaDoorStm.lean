/-
  Statements as trees; how they lie in memory.
-/
import Derived.Test.YtblfklnnojhadaaDoorApp
import Derived.Test.YtblfklnnojhadaaDoorProg
set_option linter.unusedVariables false
namespace Go.Proofs.YtblfklnnojhadaaDoor
open Go.RowKit

/-- A statement: kind, collection, register, the two arguments, Body, Else. -/
inductive Stm where
  | mk (kind coll reg ar an br bn : Int) (body els : List Stm)
deriving Inhabited

/-- The cells of a statement, its Body and Else being these values. -/
def stmCells (kind coll reg ar an br bn : Int) (vb ve : Value) : List Value := [.int .i64 kind, .int .i64 coll, .int .i64 reg, .int .i64 ar, .int .i64 an, .int .i64 br, .int .i64 bn, vb, ve]

/-- A slice value that holds these statements, in blocks ahead of B. -/
inductive Stms (w : World) (B : Nat) : Value → List Stm → Prop
  | mk (A : Option Addr) (n c : Nat) (l : List Stm) (vb ve : Nat → Value) (hn : l.length = n) (hc : n ≤ c) (hm : c ≤ 9223372036854775807)
      (hcell : ∀ k kind coll reg ar an br bn body els, l[k]? = some (.mk kind coll reg ar an br bn body els) →
        ∃ ad : Addr, A = some ad ∧ ad.block < B ∧ ∀ j u, (stmCells kind coll reg ar an br bn (vb k) (ve k))[j]? = some u → w.cell? (ad.add (k * 9 + j)) = some u)
      (hb : ∀ k kind coll reg ar an br bn body els, l[k]? = some (.mk kind coll reg ar an br bn body els) → Stms w B (vb k) body)
      (he : ∀ k kind coll reg ar an br bn body els, l[k]? = some (.mk kind coll reg ar an br bn body els) → Stms w B (ve k) els) : Stms w B (.slice A n c) l

theorem Stms.keep {w w' : World} {B : Nat} {v : Value} {l : List Stm} (h : Stms w B v l) (hk : ∀ p : Addr, p.block < B → w'.cell? p = w.cell? p) : Stms w' B v l := by
  induction h with
  | mk A n c l vb ve hn hc hm hcell hb he ihb ihe =>
    refine .mk A n c l vb ve hn hc hm (fun k a1 a2 a3 a4 a5 a6 a7 a8 a9 h => ?_) (fun k a1 a2 a3 a4 a5 a6 a7 a8 a9 h => ihb k a1 a2 a3 a4 a5 a6 a7 a8 a9 h) (fun k a1 a2 a3 a4 a5 a6 a7 a8 a9 h => ihe k a1 a2 a3 a4 a5 a6 a7 a8 a9 h)
    obtain ⟨ad, e, hl, hcc⟩ := hcell k a1 a2 a3 a4 a5 a6 a7 a8 a9 h
    exact ⟨ad, e, hl, fun j u hu => (hk _ (by rw [block_add]; exact hl)).trans (hcc j u hu)⟩
theorem Stms.more {w : World} {B B' : Nat} {v : Value} {l : List Stm} (h : Stms w B v l) (hB : B ≤ B') : Stms w B' v l := by
  induction h with
  | mk A n c l vb ve hn hc hm hcell hb he ihb ihe =>
    refine .mk A n c l vb ve hn hc hm (fun k a1 a2 a3 a4 a5 a6 a7 a8 a9 h => ?_) (fun k a1 a2 a3 a4 a5 a6 a7 a8 a9 h => ihb k a1 a2 a3 a4 a5 a6 a7 a8 a9 h) (fun k a1 a2 a3 a4 a5 a6 a7 a8 a9 h => ihe k a1 a2 a3 a4 a5 a6 a7 a8 a9 h)
    obtain ⟨ad, e, hl, hcc⟩ := hcell k a1 a2 a3 a4 a5 a6 a7 a8 a9 h
    exact ⟨ad, e, by omega, hcc⟩
theorem Stms.slice {w : World} {B : Nat} {v : Value} {l : List Stm} (h : Stms w B v l) : ∃ A n c, v = .slice A n c := by
  cases h with
  | mk A n c => exact ⟨A, n, c, rfl⟩
theorem Stms.belowW {w w' : World} {B : Nat} {v : Value} {l : List Stm} (h : Stms w B v l) (hb : Below B w w') : Stms w' B v l := h.keep fun p hp => hb.cell hp

/-- How many statements there are, those in others counted. -/
def Stm.size : Stm → Nat
  | .mk _ _ _ _ _ _ _ body els => 1 + sizes body + sizes els
where sizes : List Stm → Nat
  | [] => 0
  | s :: l => s.size + sizes l

def Stm.body : Stm → List Stm
  | .mk _ _ _ _ _ _ _ b _ => b
def Stm.els : Stm → List Stm
  | .mk _ _ _ _ _ _ _ _ e => e
/-- The value of a statement. -/
def StmV (w : World) (B : Nat) : Stm → Value → Prop
  | .mk kind coll reg ar an br bn body els, v => ∃ vb ve, v = .agg (stmCells kind coll reg ar an br bn vb ve).toArray ∧ Stms w B vb body ∧ Stms w B ve els

/-- All statements of some, those in others behind the ones that they are in, and how deep each lies. -/
def Stm.lines (deep : Nat) : Stm → List (Stm × Nat)
  | .mk kind coll reg ar an br bn body els => (.mk kind coll reg ar an br bn body els, deep) :: (lines_ (deep + 1) body ++ lines_ (deep + 1) els)
where lines_ (deep : Nat) : List Stm → List (Stm × Nat)
  | [] => []
  | s :: l => s.lines deep ++ lines_ deep l
abbrev sizes := Stm.size.sizes
abbrev linesOf := Stm.lines.lines_
theorem sizes_nil : sizes [] = 0 := rfl
theorem sizes_cons (s : Stm) (l : List Stm) : sizes (s :: l) = s.size + sizes l := rfl
theorem size_mk (a1 a2 a3 a4 a5 a6 a7 : Int) (b e : List Stm) : (Stm.mk a1 a2 a3 a4 a5 a6 a7 b e).size = 1 + sizes b + sizes e := by simp [Stm.size, sizes]
theorem lines_nil (d : Nat) : linesOf d [] = [] := rfl
theorem lines_cons (d : Nat) (s : Stm) (l : List Stm) : linesOf d (s :: l) = s.lines d ++ linesOf d l := rfl
theorem line_mk (d : Nat) (a1 a2 a3 a4 a5 a6 a7 : Int) (b e : List Stm) : (Stm.mk a1 a2 a3 a4 a5 a6 a7 b e).lines d = (.mk a1 a2 a3 a4 a5 a6 a7 b e, d) :: (linesOf (d + 1) b ++ linesOf (d + 1) e) := by simp [Stm.lines, linesOf]
theorem sizes_append (l m : List Stm) : sizes (l ++ m) = sizes l + sizes m := by
  induction l with
  | nil => simp [sizes_nil]
  | cons s l ih => rw [List.cons_append, sizes_cons, sizes_cons, ih]; omega
theorem lines_append (d : Nat) (l m : List Stm) : linesOf d (l ++ m) = linesOf d l ++ linesOf d m := by
  induction l with
  | nil => rfl
  | cons s l ih => rw [List.cons_append, lines_cons, lines_cons, ih, List.append_assoc]
theorem sizes_get {l : List Stm} {k : Nat} {s : Stm} (h : l[k]? = some s) : s.size ≤ sizes l := by
  induction l generalizing k with
  | nil => simp at h
  | cons a l ih =>
    rw [sizes_cons]
    cases k with
    | zero => simp at h; subst h; omega
    | succ k => have := ih (by simpa using h); omega
theorem lines_take {l : List Stm} {k : Nat} {s : Stm} (d : Nat) (h : l[k]? = some s) : linesOf d (l.take (k + 1)) = linesOf d (l.take k) ++ s.lines d := by
  have : l.take (k + 1) = l.take k ++ [s] := by
    rw [List.take_add_one, h]; rfl
  rw [this, lines_append, lines_cons, lines_nil, List.append_nil]
theorem sizes_take {l : List Stm} {k : Nat} {s : Stm} (h : l[k]? = some s) : sizes (l.take (k + 1)) = sizes (l.take k) + s.size := by
  have : l.take (k + 1) = l.take k ++ [s] := by
    rw [List.take_add_one, h]; rfl
  rw [this, sizes_append, sizes_cons, sizes_nil]
  omega
theorem sizes_take_le (l : List Stm) (k : Nat) : sizes (l.take k) ≤ sizes l := by
  conv => rhs; rw [← List.take_append_drop k l, sizes_append]
  omega
end Go.Proofs.YtblfklnnojhadaaDoor
