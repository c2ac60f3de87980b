/- Words beside the print's own: a range over a string, whose iterator is a block of its own. -/
import Derived.Test.YtlemgfcopedjhaaXWords
import Derived.Laws.RangeAny
namespace Go.Proofs.YtlemgfcopedjhaaW.PrintMore
open Go.RowKit Go.Proofs.YtlemgfcopedjhaaW.PrintLast Go.Proofs.YtlemgfcopedjhaaW.PrintWords
section
variable {P : Program} {ops : Array Oper} {rest : List Oper} {Q : Exit → Act → World → Prop}
/-! A range over a string: its iterator is a block of its own. -/
/-- The place that a number tells. -/
def ip (x : Int) : Nat := x.toNat
theorem ip_nat (n : Nat) : ip (n : Int) = n := rfl
theorem range_event {o : Oper} {a : Act} {W : World} (hgd : o.guard = none) {N : Tmp} (_hd : o.dst = some N) {s : ByteArray} {t : TypeId} {x : Operand} (hop : o.op = .range t x) (hx : a.eval x = .string s) (ht : P.underlying t = some .string)
    (h : ∀ g, g = W.heap.size → ∀ w1, w1.heap[g]? = some (.stringIter s (ip 0)) → Below W.heap.size W w1 → wpList P ops Q rest (a.put o.dst (.pointer (some ⟨g, 0, none⟩))) w1) : wpList P ops Q (o :: rest) a W := by
  refine Kd.event_run hgd (v := .pointer (some ⟨W.heap.size, 0, none⟩)) (w1 := W.iter s 0) ?_ (h _ rfl _ (World.iter_heap W s 0) (below_alloc (Below.refl _ _) _))
  have hr := run_range_string (P := P) W t s ht
  simp only [execOp, hop, hx, Sem.run_bind, hr]
  rfl
theorem turned_block (W : World) (g : Nat) (o : Obj) : W.grownBy { W with heap := W.heap.setIfInBounds g o } (some g) := by
  refine ⟨rfl, rfl, rfl, by simp, fun k _ hk => ?_⟩
  have : g ≠ k := fun e => hk (by rw [e])
  simp [this]
theorem run_next_more (W : World) (g : Nat) (s : ByteArray) (p : Nat) (ty : TypeId) (hit : W.heap[g]? = some (.stringIter s p)) (h : p < s.size) :
    (Instr.next (.pointer (some ⟨g, 0, none⟩)) true ty).run P W = .ok (.tuple #[.bool true, .int .i64 p, .int .i32 (Utf8.decode s p).1]) { W with heap := W.heap.setIfInBounds g (.stringIter s (p + (Utf8.decode s p).2)) } := by
  simp only [Instr.next, getObj, setObj, Sem.run_bind, Sem.run, hit, Result.andThen, h, if_true]
  simp [goInt]
theorem run_next_over (W : World) (g : Nat) (s : ByteArray) (p : Nat) (ty : TypeId) (hit : W.heap[g]? = some (.stringIter s p)) (h : ¬ p < s.size) :
    (Instr.next (.pointer (some ⟨g, 0, none⟩)) true ty).run P W = .ok (.tuple #[.bool false]) W := by
  simp [Instr.next, getObj, Sem.run, hit, h]
theorem next_more {o : Oper} {a : Act} {W : World} (hgd : o.guard = none) {N : Tmp} (_hd : o.dst = some N) {g : Nat} {s : ByteArray} {p : Int} {x : Operand} (hop : o.op = .next x true) (hx : a.eval x = .pointer (some ⟨g, 0, none⟩)) (hit : W.heap[g]? = some (.stringIter s (ip p))) (hlt : ((ip p) : Int) < (s.size : Int))
    (h : ∀ w1, w1.heap[g]? = some (.stringIter s (ip (((ip p) : Int) + ((Utf8.decode s (ip p)).2 : Int)))) → W.grownBy w1 (some g) → wpList P ops Q rest (a.put o.dst (.tuple #[.bool true, .int .i64 ((ip p) : Int), .int .i32 ((Utf8.decode s (ip p)).1 : Int)])) w1) : wpList P ops Q (o :: rest) a W := by
  have hl : (ip p) < s.size := Int.ofNat_lt.1 hlt
  have hg : g < W.heap.size := (Array.getElem?_eq_some_iff.1 hit).1
  refine Kd.event_run hgd (v := .tuple #[.bool true, .int .i64 ((ip p) : Int), .int .i32 ((Utf8.decode s (ip p)).1 : Int)]) (w1 := { W with heap := W.heap.setIfInBounds g (.stringIter s ((ip p) + (Utf8.decode s (ip p)).2)) }) ?_ (h _ ?_ (turned_block W g _))
  · have hr := run_next_more (P := P) W g s (ip p) o.type hit hl
    simp only [execOp, hop, hx, Sem.run_bind, hr]
    rfl
  · have e : ip (((ip p) : Int) + ((Utf8.decode s (ip p)).2 : Int)) = (ip p) + (Utf8.decode s (ip p)).2 := by show Int.toNat _ = _; omega
    rw [e]
    simp [hg]
theorem next_over {o : Oper} {a : Act} {W : World} (hgd : o.guard = none) {N : Tmp} (_hd : o.dst = some N) {g : Nat} {s : ByteArray} {p : Int} {x : Operand} (hop : o.op = .next x true) (hx : a.eval x = .pointer (some ⟨g, 0, none⟩)) (hit : W.heap[g]? = some (.stringIter s (ip p))) (hlt : ¬ ((ip p) : Int) < (s.size : Int))
    (h : wpList P ops Q rest (a.put o.dst (.tuple #[.bool false])) W) : wpList P ops Q (o :: rest) a W := by
  have hl : ¬ (ip p) < s.size := fun h_ => hlt (Int.ofNat_lt.2 h_)
  refine Kd.event_run hgd (v := .tuple #[.bool false]) (w1 := W) ?_ h
  have hr := run_next_over (P := P) W g s (ip p) o.type hit hl
  simp only [execOp, hop, hx, Sem.run_bind, hr]
  rfl
end
theorem bits_u8_63 (x : Int) : Go.bits .and .u8 (x % 256) 63 = x % 64 := by rw [u8_and63 _ (by omega) (by omega)]; omega
theorem bits_u8_128 (x : Int) : Go.bits .or .u8 128 (x % 64) = 128 + x % 64 := u8_or128 _ (by omega) (by omega)
section
variable {W W1 : World} {g : Nat} {s : ByteArray} {n : Nat}
theorem it_far {o : Obj} (h : W.heap[g]? = some o) {p : Addr} (hp : g ≠ p.block) (u : Value) : (W.setCell p u).heap[g]? = some o := (Below.heap_setCell W p u g hp).trans h
theorem below_turned {B : Nat} {w0 : World} (h : Below B w0 W) (hg : W.grownBy W1 (some g)) (hB : B ≤ g) (hs : B ≤ W.heap.size) : Below B w0 W1 :=
  ⟨hg.os.trans h.os, hg.tape.trans h.tape, hg.output.trans h.output, Nat.le_trans h.size hg.size, fun k hk => (hg.block k (Nat.lt_of_lt_of_le hk hs) (fun e => by injection e with e; omega)).trans (h.block k hk)⟩
theorem it_ne {α : Type} {d : Kd α} {e base : Nat} {ok : Nat → Prop} {v : Value} {xs : List α} (h : d.R e W base ok v xs) (hb : W.heap[g]? = some (.stringIter s n)) : some g ≠ v.ownBlock := by
  intro h_
  obtain ⟨inner, ho⟩ := Kd.R_own h
  obtain ⟨cells, hc⟩ := own_typed ho g h_.symm
  rw [hc] at hb
  injection hb with hb
  cases hb
theorem R_turned {α : Type} {d : Kd α} {e base : Nat} {ok : Nat → Prop} {v : Value} {xs : List α} (h : d.R e W base ok v xs) (hE : d.E = []) (hb : W.heap[g]? = some (.stringIter s n)) (hg : W.grownBy W1 (some g)) : d.R e W1 base ok v xs :=
  Kd.R_grown2 h hE hg (fun k e_ => by injection e_ with e_; subst e_; exact it_ne h hb)
end
end Go.Proofs.YtlemgfcopedjhaaW.PrintMore
