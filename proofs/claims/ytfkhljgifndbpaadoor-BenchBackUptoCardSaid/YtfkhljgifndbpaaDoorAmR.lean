/-
  The abstract machine, part R: the rules of a walk, gathered. For any program.
-/
import Derived.Test.YtfkhljgifndbpaaDoorAmZ
namespace Go.Am

theorem if_then {α : Type} {c : Prop} [Decidable c] {x : Option α} (h : c) : (if c then x else none) = x := by simp [h]
theorem if_else {α : Type} {c : Prop} [Decidable c] {x : Option α} (h : ¬ c) : (if c then none else x) = x := by simp [h]
theorem detV_ev (call : CallR) (op : AOp) (e : Env) (H : Heap) (v : Value) (H' : Heap) : detV call op e H v H' ↔ outK call H (fun a b => a = v ∧ b = H') (outV op e H) := Iff.rfl
theorem natlt0 (n : Nat) : ((n : Int) < 0) ↔ False := ⟨fun h => by omega, False.elim⟩
theorem natge0 (n : Nat) : (0 ≤ (n : Int)) ↔ True := ⟨fun _ => trivial, fun _ => by omega⟩
theorem mmV_nil (m : Bool) (v : Value) : mmV m v [] = some v := by simp only [mmV]
theorem mmV_max (k k' : IntKind) (a b : Int) (l : List Value) : mmV true (.int k a) (.int k' b :: l) = mmV true (.int k (max a b)) l := by
  simp only [mmV, if_true]
  congr 2
  by_cases h : b > a
  · rw [if_pos h, Int.max_def, if_pos (by omega)]
  · rw [if_neg h, Int.max_def]; split <;> omega
theorem mmV_min (k k' : IntKind) (a b : Int) (l : List Value) : mmV false (.int k a) (.int k' b :: l) = mmV false (.int k (min a b)) l := by
  simp only [mmV, Bool.false_eq_true, if_false]
  congr 2
  by_cases h : b < a
  · rw [if_pos h, Int.min_def, if_neg (by omega)]
  · rw [if_neg h, Int.min_def, if_pos (by omega)]
theorem ift_true {α : Type} {t : Bool} {x y : α} (h : t = true) : (if t = true then x else y) = x := by simp [h]
theorem ift_false {α : Type} {t : Bool} {x y : α} (h : t = false) : (if t = true then x else y) = y := by simp [h]
theorem BrW_yes {t : Bool} (A B : LP) (h : t = true) : @BrW t A B ↔ A.run := by subst h; exact BrW_true A B
theorem BrW_no {t : Bool} (A B : LP) (h : t = false) : @BrW t A B ↔ B.run := by subst h; exact BrW_false A B
theorem len_app (H l : Heap) : (H ++ l).length = H.length + l.length := by simp
theorem get_new0 (H : Heap) (o : AObj) (l : Heap) : (H ++ o :: l)[H.length]? = some o := by simp
theorem get_new (H : Heap) (l : Heap) (i : Nat) : (H ++ l)[H.length + i]? = l[i]? := by rw [List.getElem?_append_right (by omega)]; simp
theorem get_old {H : Heap} {k : Nat} {o : AObj} (h : H[k]? = some o) (l : Heap) : (H ++ l)[k]? = some o := by
  rw [List.getElem?_append_left (List.getElem?_eq_some_iff.1 h).1]; exact h
theorem set_new0 (H : Heap) (o x : AObj) (l : Heap) : (H ++ o :: l).set H.length x = H ++ x :: l := by simp
theorem set_new (H : Heap) (l : Heap) (i : Nat) (x : AObj) : (H ++ l).set (H.length + i) x = H ++ l.set i x := by
  rw [List.set_append_right _ _ (by omega)]; simp
theorem get_set_hit {H : Heap} {k : Nat} {o x : AObj} (h : H[k]? = some o) : (H.set k x)[k]? = some x := by
  have := (List.getElem?_eq_some_iff.1 h).1
  simp [this]
theorem get_set_miss {H : Heap} {j k : Nat} {x : AObj} (h : j ≠ k) : (H.set j x)[k]? = H[k]? := by simp [h]
theorem getD_at {l : List Int} {i : Nat} (h : i < l.length) : l[i]? = some (l.getD i 0) := by simp [h]

theorem heap_assoc (H l m : Heap) : (H ++ l) ++ m = H ++ (l ++ m) := List.append_assoc H l m

attribute [go_sem ↓] thenK_normal thenK_ret thenK_exit blockK_normal blockK_ret blockW_exit retW_normal retW_ret run_mk
attribute [go_sem] bndE_nil bndE_cons bnd_int bnd_bool bnd_str bnd_nil bnd_nilp bnd_slice bnd_ptr bnd_fn
attribute [go_sem] Ww_draw Ww_alt_one Ww_alt_cons drawW_nil drawW_quiet drawW_cut drawW_loud drawW_guard outDW_val outDW_call outDW_maybe pendI_true pendI_false allD_nil allD_cons pendD_nil pendD_yes pendD_no detV_ev
attribute [go_sem] BrW_true BrW_false ift_true ift_false BrW_yes BrW_no outK_val ofO_some opsW_nil opsW_cons opsW_guard gW_yes gW_no gW_tuple outW_val outW_call outW_maybe bothW_false
  Ww_skip Ww_ops Ww_fork Ww_seq Ww_cond cW_bool Ww_block Ww_loop Ww_exit Ww_ret Ww_keep
  vW_some resW_nil resW_tmp loadO_some resW_cell tupled_one tupled_nil tupled_two
  get_cons get_nil set_cons set_nil keep_cons keepC_some keepC_none keep_nil argEnv_nil argEnv_cons ev_tmp ev_const putE_some putE_none
  outV opV evs evo atV ldV partV loadV cellsV fillV binV unV sliceV lowV highV appendV mmV_nil mmV_max mmV_min wr
  heap_assoc len_app get_new0 get_new set_new0 set_new

attribute [go_sem] natlt0 natge0 true_or or_true Nat.le_refl Nat.zero_le Nat.sub_zero Bool.false_eq_true false_implies implies_true eq_self if_true if_false and_true true_and Nat.mul_one Nat.one_mul Nat.zero_add Nat.add_zero Nat.zero_mul List.length_cons List.length_nil List.getElem?_cons_zero List.getElem?_cons_succ
  Int.toNat_natCast decide_true decide_false Bool.not_true Bool.not_false Bool.not_not Option.some.injEq beq_self_eq_true bne_self_eq_false List.take_succ_cons List.drop_succ_cons List.take_zero List.drop_nil List.drop_zero List.set_cons_zero List.set_cons_succ List.toList_toArray List.nil_append List.cons_append Option.map_some if_then if_else reduceCtorEq

end Go.Am
