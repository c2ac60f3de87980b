/-
  For AstSame: texts of the road to it, 2 of 16.
-/
import Derived.Test.YtappiofmkoelnaaGreatDoorKAstSame0
import Derived.Laws.StructEq
section
namespace Go.Proofs.YtappiofmkoelnaaGreatDoorW.Ah
set_option linter.unusedVariables false
set_option linter.unusedSimpArgs false
theorem RepV.sc_inv {E : Env} {v u : Value} (h : RepV E (.sc v) u) : u = v := by simpa [RepV] using h
theorem run_intBin {P : Program} {op : BinOp} {k : IntKind} {x y : Int} {v : Value} (h : intBin op k x y = some v) (t : TypeId) (w : World) :
  (binOp op t (.int k x) (.int k y)).run P w = .ok v w := by
 cases op <;> simp only [intBin] at h <;> (try cases h) <;> (try simp [binOp, Op.intArith, Op.intBits, Op.intCmp])
 ·split at h
  ·cases h
  ·rename_i h0; cases h; simp [Op.intDiv, h0]
 ·split at h
  ·cases h
  ·rename_i h0; cases h; simp [Op.intDiv, h0]
theorem run_shiftBin {P : Program} {op : BinOp} {k k' : IntKind} {x y : Int} {v : Value} (h : shiftBin op k x y = some v) (t : TypeId) (w : World) :
  (binOp op t (.int k x) (.int k' y)).run P w = .ok v w := by
 unfold shiftBin at h
 split at h
 ·cases h
 ·rename_i h0
  cases op <;> simp only at h <;> cases h <;> simp [binOp, Op.shift, h0]
theorem run_strBin {P : Program} {op : BinOp} {x y : ByteArray} {v : Value} (h : strBin op x y = some v) (t : TypeId) (w : World) :
  (binOp op t (.string x) (.string y)).run P w = .ok v w := by
 cases op <;> simp only [strBin] at h <;> (try cases h) <;> (try simp [binOp, Op.stringOp])
 split at h
 ·cases h
 ·rename_i h0; cases h; simpa using h0
theorem eqf_step {P : Program} {w : World} {d : Nat} {xs ys : Array Value} {f : Field} {fs : List Field} {a b : Value} {r s : Bool} (hn : f.name ≠ "_")
  (ha : (part f.type xs f.offset).run P w = .ok a w) (hb : (part f.type ys f.offset).run P w = .ok b w) (he : (Op.equalIn d f.type a b).run P w = .ok r w) (hr : (Op.eqFields d xs ys fs).run P w = .ok s w) :
  (Op.eqFields d xs ys (f :: fs)).run P w = .ok (r && s) w := by
 rw [Op.eqFields]
 simp only [if_pos hn, Sem.run_bind, ha, hb, he, Result.andThen_ok]
 cases r
 ·simp
 ·simpa using hr
def eqRow (d e z : Nat) (xs ys : Array Value) : List Nat → Sem Bool
 | [] => pure true
 | i :: l => do
  let a ← part e xs (i * z)
  let b ← part e ys (i * z)
  let r ← Op.equalIn d e a b
  if (!r) = true then pure false else eqRow d e z xs ys l
theorem run_equalIn_arr {P : Program} (w : World) (d t n e z : Nat) (xs ys : Array Value) (ht : P.underlying t = some (.array n e)) (hz : ∀ w, (sizeOf e).run P w = .ok z w) :
  (Op.equalIn (d + 1) t (.agg xs) (.agg ys)).run P w = (eqRow d e z xs ys (List.range' 0 n)).run P w := by
 simp only [Op.equalIn, Sem.run_bind, run_underlying ht, Result.andThen_ok, hz]
 rw [Std.Legacy.Range.forIn_eq_forIn_range']
 simp only [Std.Legacy.Range.size, Nat.sub_zero, Nat.add_sub_cancel, Nat.div_one]
 generalize List.range' 0 n = l
 clear ht
 induction l generalizing w with
 | nil => simp [eqRow]
 | cons k l ih =>
  simp only [List.forIn_cons, eqRow, Sem.run_bind]
  generalize (part e xs (k * z)).run P w = r1
  cases r1 with
  | ok a w1 =>
   simp only [Result.andThen_ok]
   generalize (part e ys (k * z)).run P w1 = r2
   cases r2 with
   | ok b w2 =>
    simp only [Result.andThen_ok]
    generalize (Op.equalIn d e a b).run P w2 = r3
    cases r3 with
    | ok r w3 =>
     cases r
     ·simp only [Result.andThen_ok, Bool.not_false, if_true, Sem.run_pure]
     ·simp only [Result.andThen_ok, Bool.not_true, Bool.false_eq_true, if_false, Sem.run_pure]
      exact ih w3
    | halt x w3 => simp [Result.andThen]
   | halt x w2 => simp [Result.andThen]
  | halt x w1 => simp [Result.andThen]
theorem slice_shape {E : Env} : ∀ {a : AV} {v : Value}, RepV E a v → (match a with | .osl .. | .esl _ => true | .ssl _ n _ => decide (n ≠ 0) | _ => false) = true → ∃ x n c, v = .slice (some x) n c
 | .osl .., _, h, _ => by simp only [RepV] at h; obtain ⟨_, a, cap, rfl, _⟩ := h; exact ⟨_, _, _, rfl⟩
 | .ssl .., _, h, hn => by obtain ⟨a, cap, rfl, _, _, hb⟩ := ssl_shape h; obtain ⟨b, rfl⟩ := hb (by simpa using hn); exact ⟨_, _, _, rfl⟩
 | .esl .., _, h, _ => by simp only [RepV] at h; obtain ⟨a, cap, rfl, _⟩ := h; exact ⟨_, _, _, rfl⟩
theorem run_eqT {P : Program} {T : Tab} (hT : TOk P T) {E : Env} : ∀ (d t : Nat) (x y : AV) (u v : Value) (r : Bool), RepV E x u → RepV E y v → eqT T d t x y = some r →
  ∀ w, (Op.equalIn d t u v).run P w = .ok r w
 | 0, _, _, _, _, _, _, _, _, h => by simp [eqT] at h
 | d + 1, t, x, y, u, v, r, hx, hy, h => by
  intro w
  simp only [eqT] at h
  cases ht : T t with
  | none => rw [ht] at h; cases h
  | some i =>
   rw [ht] at h
   simp only at h
   have row := hT.row ht
   split at h
   case h_1 a b hk => cases h; rw [RepV.sc_inv hx, RepV.sc_inv hy]; simp [Op.equalIn, run_under (row.bool hk)]
   case h_2 k' k a k2 b hk =>
    split at h
    ·rename_i e; cases h; subst e; rw [RepV.sc_inv hx, RepV.sc_inv hy]; simp [Op.equalIn, run_under (row.int hk)]
    ·cases h
   case h_3 a b hk => cases h; rw [RepV.sc_inv hx, RepV.sc_inv hy]; simp [Op.equalIn, run_under (row.str hk)]
   case h_4 fs xs ys hk =>
    split at h
    ·rename_i he
     obtain ⟨hs, _, hn⟩ := (hT t i ht).eq he
     obtain ⟨fs', hu, hfs⟩ := row.struct hk
     simp only [RepV] at hx hy
     obtain ⟨us, rfl, _, hus⟩ := hx
     obtain ⟨vs, rfl, _, hvs⟩ := hy
     have hf : P.fieldsOf t = fs' := by simp [Program.fieldsOf, hu]
     rw [run_equalIn_struct (P := P) w d t us vs (by rw [hf]; exact hu) hs, hf]
     have hn' : ∀ f ∈ fs'.toList, f.name ≠ "_" := hn fs' hu
     subst hfs
     clear hf hu hk
     generalize fs'.toList = l at h hn'
     induction l generalizing r with
     | nil => simp [eqT.eqFs] at h; subst h; simp [Op.eqFields]
     | cons f l ih =>
      simp only [List.map_cons, eqT.eqFs] at h
      split at h
      case h_2 => cases h
      case h_1 a b ha hb =>
       split at h
       case h_2 => cases h
       case h_1 r1 s1 hr hs1 =>
        cases h
        obtain ⟨a', ha', hra⟩ := run_part hT hus ha
        obtain ⟨b', hb', hrb⟩ := run_part hT hvs hb
        exact eqf_step (hn' f (by simp)) (ha' w) (hb' w) (run_eqT hT d f.type a b a' b' r1 hra hrb hr w) (ih s1 hs1 (fun g hg => hn' g (by simp [hg])))
    ·cases h
   case h_5 n e xs ys hk =>
    split at h
    ·rename_i he
     cases hj : T e with
     | none => rw [hj] at h; cases h
     | some j =>
      rw [hj] at h
      simp only [RepV] at hx hy
      obtain ⟨us, rfl, _, hus⟩ := hx
      obtain ⟨vs, rfl, _, hvs⟩ := hy
      rw [run_equalIn_arr w d t n e j.size us vs (row.arr hk) (hT.row hj).size]
      generalize List.range' 0 n = l at h
      simp only at h
      induction l generalizing r with
      | nil => simp [eqT.eqEls] at h; subst h; simp [eqRow]
      | cons k l ih =>
       simp only [eqT.eqEls] at h
       split at h
       case h_2 => cases h
       case h_1 a b ha hb =>
        split at h
        case h_2 => cases h
        case h_1 r1 s1 hr hs1 =>
         cases h
         obtain ⟨a', ha', hra⟩ := run_part hT hus ha
         obtain ⟨b', hb', hrb⟩ := run_part hT hvs hb
         have e1 := run_eqT hT d e a b a' b' r1 hra hrb hr w
         rw [eqRow]
         simp only [Sem.run_bind, ha', hb', e1, Result.andThen_ok]
         cases r1
         ·simp
         ·simpa using ih s1 hs1
    ·cases h
   case h_6 e hk => cases h; rw [RepV.sc_inv hx, RepV.sc_inv hy]; simp [Op.equalIn, run_under (row.slice hk)]
   case h_7 | h_8 => cases h; rw [RepV.sc_inv hx]; obtain ⟨x, n, c, rfl⟩ := slice_shape hy rfl; simp [Op.equalIn, run_under (row.slice ‹_›)]
   case h_9 =>
    split at h
    ·cases h
    ·rename_i h0; cases h; rw [RepV.sc_inv hx]; obtain ⟨x, n, c, rfl⟩ := slice_shape hy (by simpa using h0); simp [Op.equalIn, run_under (row.slice ‹_›)]
   case h_10 | h_11 => cases h; rw [RepV.sc_inv hy]; obtain ⟨x, n, c, rfl⟩ := slice_shape hx rfl; simp [Op.equalIn, run_under (row.slice ‹_›)]
   case h_12 =>
    split at h
    ·cases h
    ·rename_i h0; cases h; rw [RepV.sc_inv hy]; obtain ⟨x, n, c, rfl⟩ := slice_shape hx (by simpa using h0); simp [Op.equalIn, run_under (row.slice ‹_›)]
   case h_13 e hk => cases h; rw [RepV.sc_inv hx, RepV.sc_inv hy]; simp [Op.equalIn, run_under (row.ptr hk)]
   case h_14 => cases h; rw [RepV.sc_inv hx]; simp only [RepV] at hy; obtain ⟨_, a, rfl, _⟩ := hy; simp [Op.equalIn, run_under (row.ptr ‹_›)]
   case h_15 => cases h; rw [RepV.sc_inv hy]; simp only [RepV] at hx; obtain ⟨_, a, rfl, _⟩ := hx; simp [Op.equalIn, run_under (row.ptr ‹_›)]
   case h_16 => cases h; rw [RepV.sc_inv hx]; simp only [RepV] at hy; obtain ⟨b, o, c, ty, fz, rfl, _⟩ := hy; simp [Op.equalIn, run_under (row.ptr ‹_›)]
   case h_17 => cases h; rw [RepV.sc_inv hy]; simp only [RepV] at hx; obtain ⟨b, o, c, ty, fz, rfl, _⟩ := hx; simp [Op.equalIn, run_under (row.ptr ‹_›)]
   case h_18 hk => cases h; rw [RepV.sc_inv hx, RepV.sc_inv hy]; obtain ⟨a, b, c, hu⟩ := row.func hk; simp [Op.equalIn, run_under hu]
   case h_19 hk => cases h; rw [RepV.sc_inv hx]; simp only [RepV] at hy; obtain ⟨_, _, rfl, _⟩ := hy; obtain ⟨a, b, c, hu⟩ := row.func hk; simp [Op.equalIn, run_under hu]
   case h_20 hk => cases h; rw [RepV.sc_inv hy]; simp only [RepV] at hx; obtain ⟨_, _, rfl, _⟩ := hx; obtain ⟨a, b, c, hu⟩ := row.func hk; simp [Op.equalIn, run_under hu]
   case h_21 => cases h
inductive EqShape : Value → Value → Prop
 | bool (a b : Bool) : EqShape (.bool a) (.bool b)
 | agg (a b : Array Value) : EqShape (.agg a) (.agg b)
 | slice (a b : Option Addr) (m n c d : Nat) : EqShape (.slice a m c) (.slice b n d)
 | ptr (a b : Option Addr) : (a = none ∨ b = none) → EqShape (.pointer a) (.pointer b)
 | fn0 : EqShape .nilFunc .nilFunc
 | fn1 (f : Fn) (x y : Array Value) : EqShape .nilFunc (.func f x y)
 | fn2 (f : Fn) (x y : Array Value) : EqShape (.func f x y) .nilFunc
theorem eqT_shape {T : Tab} {E : Env} {d t : Nat} {x y : AV} {u v : Value} {r : Bool} (hx : RepV E x u) (hy : RepV E y v) (h : eqT T d t x y = some r) :
  (∃ k a l b, x = .sc (.int k a) ∧ y = .sc (.int l b)) ∨ (∃ a b, x = .sc (.string a) ∧ y = .sc (.string b)) ∨ (EqShape u v ∧ ∀ a b, u = .agg a → v = .agg b → ∃ i, T t = some i ∧ i.eq = true) := by
 cases d with
 | zero => simp [eqT] at h
 | succ d =>
  simp only [eqT] at h
  cases ht : T t with
  | none => rw [ht] at h; cases h
  | some i =>
   rw [ht] at h
   simp only at h
   split at h
   case h_1 => rw [RepV.sc_inv hx, RepV.sc_inv hy]; exact .inr (.inr ⟨.bool _ _, fun _ _ e => by cases e⟩)
   case h_2 => exact .inl ⟨_, _, _, _, rfl, rfl⟩
   case h_3 => exact .inr (.inl ⟨_, _, rfl, rfl⟩)
   case h_4 fs xs ys hk =>
    split at h
    ·rename_i he
     simp only [RepV] at hx hy
     obtain ⟨us, rfl, _, hus⟩ := hx
     obtain ⟨vs, rfl, _, hvs⟩ := hy
     exact .inr (.inr ⟨.agg _ _, fun _ _ _ _ => ⟨i, rfl, he⟩⟩)
    ·cases h
   case h_5 n e xs ys hk =>
    split at h
    ·rename_i he
     simp only [RepV] at hx hy
     obtain ⟨us, rfl, _, hus⟩ := hx
     obtain ⟨vs, rfl, _, hvs⟩ := hy
     exact .inr (.inr ⟨.agg _ _, fun _ _ _ _ => ⟨i, rfl, he⟩⟩)
    ·cases h
   case h_21 => cases h
   case h_6 => rw [RepV.sc_inv hx, RepV.sc_inv hy]; exact .inr (.inr ⟨.slice _ _ _ _ _ _, fun _ _ e => by cases e⟩)
   case h_7 | h_8 => rw [RepV.sc_inv hx]; obtain ⟨x, n, c, rfl⟩ := slice_shape hy rfl; exact .inr (.inr ⟨.slice _ _ _ _ _ _, fun _ _ e => by cases e⟩)
   case h_9 => rw [RepV.sc_inv hx]; obtain ⟨x, c, rfl, _⟩ := ssl_shape hy; exact .inr (.inr ⟨.slice _ _ _ _ _ _, fun _ _ e => by cases e⟩)
   case h_10 | h_11 => rw [RepV.sc_inv hy]; obtain ⟨x, n, c, rfl⟩ := slice_shape hx rfl; exact .inr (.inr ⟨.slice _ _ _ _ _ _, fun _ _ e => by cases e⟩)
   case h_12 => rw [RepV.sc_inv hy]; obtain ⟨x, c, rfl, _⟩ := ssl_shape hx; exact .inr (.inr ⟨.slice _ _ _ _ _ _, fun _ _ e => by cases e⟩)
   case h_13 => rw [RepV.sc_inv hx, RepV.sc_inv hy]; exact .inr (.inr ⟨.ptr _ _ (.inl rfl), fun _ _ e => by cases e⟩)
   case h_14 => rw [RepV.sc_inv hx]; simp only [RepV] at hy; obtain ⟨_, a, rfl, _⟩ := hy; exact .inr (.inr ⟨.ptr _ _ (.inl rfl), fun _ _ e => by cases e⟩)
   case h_15 => rw [RepV.sc_inv hy]; simp only [RepV] at hx; obtain ⟨_, a, rfl, _⟩ := hx; exact .inr (.inr ⟨.ptr _ _ (.inr rfl), fun _ _ e => by cases e⟩)
   case h_16 => rw [RepV.sc_inv hx]; simp only [RepV] at hy; obtain ⟨b, o, c, ty, fz, rfl, _⟩ := hy; exact .inr (.inr ⟨.ptr _ _ (.inl rfl), fun _ _ e => by cases e⟩)
   case h_17 => rw [RepV.sc_inv hy]; simp only [RepV] at hx; obtain ⟨b, o, c, ty, fz, rfl, _⟩ := hx; exact .inr (.inr ⟨.ptr _ _ (.inr rfl), fun _ _ e => by cases e⟩)
   case h_18 => rw [RepV.sc_inv hx, RepV.sc_inv hy]; exact .inr (.inr ⟨.fn0, fun _ _ e => by cases e⟩)
   case h_19 => rw [RepV.sc_inv hx]; simp only [RepV] at hy; obtain ⟨_, _, rfl, _⟩ := hy; exact .inr (.inr ⟨.fn1 _ _ _, fun _ _ e => by cases e⟩)
   case h_20 => rw [RepV.sc_inv hy]; simp only [RepV] at hx; obtain ⟨_, _, rfl, _⟩ := hx; exact .inr (.inr ⟨.fn2 _ _ _, fun _ _ e => by cases e⟩)
theorem run_eqBin {P : Program} {T : Tab} (hT : TOk P T) {t : Nat} {u v : Value} {r : Bool} (hs : EqShape u v) (ha : ∀ a b, u = .agg a → v = .agg b → ∃ i, T t = some i ∧ i.eq = true)
  (a b : Operand) (w : World) (hm : (Op.equal t u v).run P w = .ok r w) :
  (eqGuard .eql t a b u v >>= fun _ => binOp .eql t u v).run P w = .ok (.bool r) w ∧ (eqGuard .neq t a b u v >>= fun _ => binOp .neq t u v).run P w = .ok (.bool !r) w := by
 cases hs with
 | agg x y =>
  obtain ⟨i, hi, hq⟩ := ha x y rfl rfl
  obtain ⟨_, hg, _⟩ := (hT t i hi).eq hq
  constructor <;> simp [eqGuard, hg, binOp, hm]
 | ptr x y h =>
  rcases h with rfl | rfl
  ·cases y <;> (constructor <;> simp [eqGuard, binOp, hm])
  ·cases x <;> (constructor <;> simp [eqGuard, binOp, hm])
 | _ => constructor <;> simp [eqGuard, binOp, hm]
theorem run_binAV {P : Program} {T : Tab} (hT : TOk P T) {E : Env} {op : BinOp} {t : Nat} {x y : AV} {u v : Value} {r : AV} (hx : RepV E x u) (hy : RepV E y v) (h : binAV T op t x y = some r) (a b : Operand) (w : World) :
  ∃ z, (eqGuard op t a b u v >>= fun _ => binOp op t u v).run P w = .ok z w ∧ RepV E r z := by
 unfold binAV at h
 split at h
 case h_1 k a' _ b' =>
  rw [RepV.sc_inv hx, RepV.sc_inv hy]
  cases hs : shiftBin .shl k a' b' with
  | none => rw [hs] at h; cases h
  | some z => rw [hs] at h; cases h; exact ⟨z, by simp only [Sem.run_bind]; rw [show (eqGuard .shl t a b (.int k a') (.int _ b')).run P w = .ok () w from rfl, Result.andThen_ok, run_shiftBin hs], by simp [RepV]⟩
 case h_2 k a' _ b' =>
  rw [RepV.sc_inv hx, RepV.sc_inv hy]
  cases hs : shiftBin .shr k a' b' with
  | none => rw [hs] at h; cases h
  | some z => rw [hs] at h; cases h; exact ⟨z, by simp only [Sem.run_bind]; rw [show (eqGuard .shr t a b (.int k a') (.int _ b')).run P w = .ok () w from rfl, Result.andThen_ok, run_shiftBin hs], by simp [RepV]⟩
 case h_3 k a' k' b' _ _ =>
  rw [RepV.sc_inv hx, RepV.sc_inv hy]
  split at h
  ·rename_i e
   subst e
   cases hs : intBin op k a' b' with
   | none => rw [hs] at h; cases h
   | some z =>
    rw [hs] at h; cases h
    refine ⟨z, ?_, by simp [RepV]⟩
    simp only [Sem.run_bind]
    rw [show (eqGuard op t a b (.int k a') (.int k b')).run P w = .ok () w by cases op <;> rfl, Result.andThen_ok, run_intBin hs]
  ·cases h
 case h_4 a' b' =>
  rw [RepV.sc_inv hx, RepV.sc_inv hy]
  cases hs : strBin op a' b' with
  | none => rw [hs] at h; cases h
  | some z =>
   rw [hs] at h; cases h
   refine ⟨z, ?_, by simp [RepV]⟩
   simp only [Sem.run_bind]
   rw [show (eqGuard op t a b (.string a') (.string b')).run P w = .ok () w by cases op <;> rfl, Result.andThen_ok, run_strBin hs]
 case h_5 h1 h2 =>
  cases hs : eqT T Op.maxDepth t x y with
  | none => rw [hs] at h; cases h
  | some z =>
   rw [hs] at h; cases h
   rcases eqT_shape hx hy hs with ⟨k, a', l, b', rfl, rfl⟩ | ⟨a', b', rfl, rfl⟩ | ⟨hsh, hag⟩
   ·exact absurd rfl (h1 _ _ _ _ rfl)
   ·exact absurd rfl (h2 _ _ rfl)
   ·exact ⟨_, (run_eqBin hT hsh hag a b w (run_eqT hT _ _ _ _ _ _ _ hx hy hs w)).1, by simp [RepV]⟩
 case h_6 h1 h2 =>
  cases hs : eqT T Op.maxDepth t x y with
  | none => rw [hs] at h; cases h
  | some z =>
   rw [hs] at h; cases h
   rcases eqT_shape hx hy hs with ⟨k, a', l, b', rfl, rfl⟩ | ⟨a', b', rfl, rfl⟩ | ⟨hsh, hag⟩
   ·exact absurd rfl (h1 _ _ _ _ rfl)
   ·exact absurd rfl (h2 _ _ rfl)
   ·exact ⟨_, (run_eqBin hT hsh hag a b w (run_eqT hT _ _ _ _ _ _ _ hx hy hs w)).2, by simp [RepV]⟩
 case h_7 => cases h
end Go.Proofs.YtappiofmkoelnaaGreatDoorW.Ah
end
