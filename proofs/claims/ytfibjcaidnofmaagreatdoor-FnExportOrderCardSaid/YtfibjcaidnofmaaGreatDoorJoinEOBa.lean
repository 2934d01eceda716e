/- A whole block loaded, a whole block stored: for values of many cells. Over any program. -/
import Derived.Test.YtfibjcaidnofmaaGreatDoorJoinEOAi
import Derived.Laws.Tables
import Derived.Deep.DeepCutAuto
import Derived.Deep.CutBlock
import Derived.Test.YtfibjcaidnofmaaGreatDoorJoinEOAy
import Derived.Test.YtfibjcaidnofmaaGreatDoorJoinEOAu
namespace Go.Proofs.YtfibjcaidnofmaaGreatDoor
open Go.RowKit

section
variable {P : Program}
theorem out_setRow (w : World) (g : Nat) (cs : Array Value) : Out [g] w (w.setRow g cs) :=
  ⟨rfl, rfl, rfl, by simp, fun b _ hb => setRow_other w g b cs (by simpa using hb)⟩

/-- The store of a struct at the head of a block that holds just it. -/
theorem wpList_storeAll {ops : Array Oper} {rest : List Oper} {o : Oper} {a : Go.Act} {w : World} {Q : Exit → Go.Act → World → Prop} (hgd : o.guard = none) (ty : TypeId) (x y : Operand) (ho : o.op = .store ty x y)
    (g : Nat) (cells : Array Value) (hx : a.eval x = .pointer (some ⟨g, 0, none⟩)) (hy : a.eval y = .agg cells) {t : TypeId} {old : Array Value} (hg : Blk w g t old) (hi : (P.info? ty).map (·.size) = some cells.size)
    (hold : old.size = cells.size) (h1 : ∀ u ∈ cells.toList, u.oneCell' = true)
    (h : ∀ w', Blk w' g t cells → Out [g] w w' → w'.heap.size = w.heap.size → wpList P ops Q rest (a.put o.dst undef) w') : wpList P ops Q (o :: rest) a w :=
  wpList_store_row hgd ty x y ho g cells hx hy t old hg hi hold (Array.all_eq_true_iff_forall_mem.2 fun u hu => h1 u (by simpa using hu)) (h _ (setRow_heap w g old cells t (0, 0) hg) (out_setRow w g cells) (by simp))
end

theorem Out.below1 {g B : Nat} {w w' : World} (h : Out [g] w w') (hB : B ≤ g) (hs : B ≤ w.heap.size) : Below B w w' :=
  ⟨h.os, h.tape, h.output, h.size, fun b hb => h.block b (by omega) (by simp; omega)⟩
/-- The value owns what hangs on it; which blocks, the predicate S says. -/
def OwnS {α : Type} (s : Sh α) (w : World) (S : Nat → Prop) (vs : List Value) (x : α) : Prop := ∃ F, s.O w F vs x ∧ F.Nodup ∧ ∀ b ∈ F, S b
section
variable {α β : Type} {s : Sh α} {s' : Sh β} {w : World} {lo hi : Nat} {vs ws : List Value} {x : α} {y : β} {S S' : Nat → Prop}
theorem OwnS.own (h : OwnS s w S vs x) (hs : ∀ b, S b → lo ≤ b ∧ b < hi) : Own s w lo hi vs x := by
  obtain ⟨F, h1, h2, h3⟩ := h
  exact ⟨F, h1, h2, fun b hb => hs b (h3 b hb)⟩
theorem OwnS.one {enc : α → Value} {d : α} {m : Nat → α} {co : α → Nat} {h1 : ∀ x, (enc x).oneCell' = true} (w : World) (x : α) : OwnS (Sh.one enc d m co h1) w (fun _ => False) [enc x] x :=
  ⟨[], ⟨rfl, rfl⟩, List.nodup_nil, fun b hb => by cases hb⟩
theorem OwnS.prod (h1 : OwnS s w S vs x) (h2 : OwnS s' w S' ws y) (hd : ∀ b, S b → S' b → False) : OwnS (s.prod s') w (fun b => S b ∨ S' b) (vs ++ ws) (x, y) := by
  obtain ⟨F1, o1, n1, r1⟩ := h1
  obtain ⟨F2, o2, n2, r2⟩ := h2
  refine ⟨F1 ++ F2, ⟨vs, ws, F1, F2, rfl, rfl, o1, o2⟩, List.nodup_append.2 ⟨n1, n2, fun c hc c' hc' e => ?_⟩, fun c hc => ?_⟩
  · subst e; exact hd c (r1 c hc) (r2 c hc')
  · rcases List.mem_append.1 hc with hc | hc
    · exact .inl (r1 c hc)
    · exact .inr (r2 c hc)
end

end Go.Proofs.YtfibjcaidnofmaaGreatDoor

/- Reading a node's line: what the program's reader and the reference's read; one law. -/
namespace Go.Proofs.YtfibjcaidnofmaaGreatDoor
open Go.RowKit

def nmCh (c : UInt8) : Bool := !(c == 40 || c == 61)
def dropH (c : UInt8) (l : List UInt8) : List UInt8 := match l with
  | [] => []
  | x :: r => if x = c then r else x :: r
theorem dropH_yes (c : UInt8) (r : List UInt8) : dropH c (c :: r) = r := by unfold dropH; exact if_pos rfl
theorem dropH_no (c : UInt8) (l : List UInt8) (h : ∀ r, l ≠ c :: r) : dropH c l = l := by
  unfold dropH
  split
  · rfl
  · rename_i x r
    exact if_neg (fun e => h r (by rw [e]))
def mkB (l : List UInt8) : ByteArray := ⟨l.toArray⟩
theorem mkB_data (s : ByteArray) : mkB s.data.toList = s := by
  cases s with | mk d => unfold mkB; simp
/-- .. as the program reads them, at most k more. -/
def openCh (l : List UInt8) : Bool := [40].isPrefixOf l || [44].isPrefixOf l
def subsI : Nat → List UInt8 → Option (List ByteArray × List UInt8)
  | 0, l => if openCh l then none else some ([], l)
  | k + 1, l => if openCh l then (subsI k (sI (l.drop 1)).2).map (fun p => (mkB (sI (l.drop 1)).1 :: p.1, p.2)) else some ([], l)
def rlI (T : List UInt8) : Option Nod :=
  if (dropH 94 T).dropWhile nmCh = [] then none
  else (subsI 4 ((dropH 94 T).dropWhile nmCh)).map fun p => ⟨mkB ((dropH 94 T).takeWhile nmCh), p.1, mkB (sI (dropH 61 (dropH 41 p.2))).1⟩
def rdlI (T : List UInt8) : Option Nod := match rlI T with
  | none => none
  | some n => if nodeLineP n = T ∧ T ≠ [] then some n else none

theorem name_nm (s : ByteArray) (h : nameB s = true) : ∀ c ∈ s.data.toList, nmCh c = true := by
  unfold nameB at h
  simp only [Bool.and_eq_true, decide_eq_true_eq] at h
  have h2 := h.2
  unfold nameTo at h2
  intro c hc
  obtain ⟨j, hj, e⟩ := List.getElem_of_mem hc
  have hjs : j < s.size := by simpa using hj
  have h3 := (List.all_eq_true.1 h2) j (List.mem_range.2 hjs)
  have hg : s.get! j = c := by
    have : s.get! j = s.data.toList[j] := by
      unfold ByteArray.get!
      simp [getElem!_pos s.data j (by simpa using hjs)]
    rw [this, e]
  rw [hg] at h3
  unfold nmCh
  cases h40 : c == 40
  · cases h61 : c == 61
    · rfl
    · have e61 : c = 61 := by simpa using h61
      subst e61
      revert h3
      unfold nameCh letterB digitB
      simp
  · have e40 : c = 40 := by simpa using h40
    subst e40
    revert h3
    unfold nameCh letterB digitB
    simp
theorem joinT_one (a : ByteArray) : joinT [a] = plainP a.data.toList := by
  unfold joinT; exact join_one _ _
theorem joinT_two (a b : ByteArray) (L : List ByteArray) : joinT (a :: b :: L) = plainP a.data.toList ++ 44 :: joinT (b :: L) := by
  unfold joinT
  rw [List.map_cons, List.map_cons, Lib.join_cons, Lib.join_cons]
  unfold Lib.joinTail
  rw [List.map_cons, List.flatten_cons, List.append_assoc]
  rfl
theorem num_no (c : UInt8) (h : c = 44 ∨ c = 41) : ∀ (c' : UInt8) (r r' : List UInt8), c :: r' = c' :: r → numCh c' = false := by
  intro c' r r' e
  injection e with e1 _
  subst e1
  rcases h with rfl | rfl <;> decide
theorem no_head (c d : UInt8) (h : c ≠ d) (r' : List UInt8) : ∀ r, c :: r' ≠ d :: r := fun r e => by injection e with e1 _; exact h e1
theorem sI_sub (a : ByteArray) (c : UInt8) (hc : c = 44 ∨ c = 41) (r : List UInt8) : sI (plainP a.data.toList ++ c :: r) = (a.data.toList, c :: r) :=
  sI_plain a.data.toList (c :: r) (no_head c 34 (by rcases hc with rfl | rfl <;> decide) r) (no_head c 95 (by rcases hc with rfl | rfl <;> decide) r) (fun c' r' e => num_no c hc c' r' r e)
theorem sI_val (a : ByteArray) : sI (plainP a.data.toList) = (a.data.toList, []) := by
  have h := sI_plain a.data.toList [] (fun r e => by cases e) (fun r e => by cases e) (fun c r e => by cases e)
  rw [List.append_nil] at h; exact h
theorem openCh_yes (c : UInt8) (hc : c = 40 ∨ c = 44) (r : List UInt8) : openCh (c :: r) = true := by
  unfold openCh; rcases hc with rfl | rfl <;> simp [List.isPrefixOf]
theorem openCh_no (c : UInt8) (hc : c ≠ 40) (hc2 : c ≠ 44) (r : List UInt8) : openCh (c :: r) = false := by
  unfold openCh
  simp [List.isPrefixOf]
  exact ⟨fun e => hc e.symm, fun e => hc2 e.symm⟩
theorem subsI_join (z : List UInt8) : ∀ (L : List ByteArray) (c : UInt8) (k : Nat), (c = 40 ∨ c = 44) → L ≠ [] → L.length ≤ k → subsI k (c :: (joinT L ++ 41 :: z)) = some (L, 41 :: z)
  | [], _, _, _, h, _ => absurd rfl h
  | _ :: _, _, 0, _, _, h => by simp at h
  | [a], c, k + 1, hc, _, _ => by
    unfold subsI
    rw [if_pos (openCh_yes c hc _)]
    show (subsI k (sI (joinT [a] ++ 41 :: z)).2).map _ = _
    rw [List.drop_succ_cons, List.drop_zero, joinT_one, sI_sub a 41 (.inr rfl) z]
    have h0 : subsI k (41 :: z) = some ([], 41 :: z) := by
      cases k <;> (unfold subsI; rw [if_neg (by rw [openCh_no 41 (by decide) (by decide)]; exact Bool.false_ne_true)])
    show (subsI k (41 :: z)).map _ = _
    rw [h0]
    show some ([mkB a.data.toList], _) = _
    rw [mkB_data]
  | a :: b :: L, c, k + 1, hc, _, hk => by
    have ih := subsI_join z (b :: L) 44 k (.inr rfl) (by simp) (by simp at hk ⊢; omega)
    unfold subsI
    rw [if_pos (openCh_yes c hc _), List.drop_succ_cons, List.drop_zero, joinT_two, List.append_assoc, List.cons_append, sI_sub a 44 (.inl rfl) _]
    show (subsI k (44 :: (joinT (b :: L) ++ 41 :: z))).map _ = _
    rw [ih]
    show some (mkB a.data.toList :: _, _) = _
    rw [mkB_data]

theorem line_parts (x : Nod) (h : nodB x = true) :
    dropH 94 (lineT x) = x.name.data.toList ++ (subsT x.subs ++ 61 :: plainP x.value.data.toList) ∧
    (dropH 94 (lineT x)).takeWhile nmCh = x.name.data.toList ∧ (dropH 94 (lineT x)).dropWhile nmCh = subsT x.subs ++ 61 :: plainP x.value.data.toList := by
  have h1 : dropH 94 (lineT x) = x.name.data.toList ++ (subsT x.subs ++ 61 :: plainP x.value.data.toList) := dropH_yes _ _
  have hn : ∀ c ∈ x.name.data.toList, nmCh c = true := by
    unfold nodB at h
    simp only [Bool.and_eq_true] at h
    exact name_nm _ h.1.1
  have h2 := takeWhile_all nmCh (subsT x.subs ++ 61 :: plainP x.value.data.toList) (fun c r e => by
    unfold subsT at e
    split at e
    · rw [List.nil_append] at e; injection e with e _; subst e; rfl
    · rw [List.cons_append] at e; injection e with e _; subst e; rfl) _ hn
  rw [h1]
  exact ⟨rfl, h2⟩
theorem rlI_line (x : Nod) (h : nodB x = true) : rlI (lineT x) = some x := by
  obtain ⟨_, h2, h3⟩ := line_parts x h
  have h4 := (nodB_facts h).2.1
  obtain ⟨nm, L, v⟩ := x
  generalize hT : lineT ⟨nm, L, v⟩ = T at *
  unfold rlI
  rw [h2, h3]
  cases L with
  | nil =>
    show (if 61 :: plainP v.data.toList = [] then none else (subsI 4 (61 :: plainP v.data.toList)).map _) = _
    rw [if_neg (by simp)]
    have h0 : subsI 4 (61 :: plainP v.data.toList) = some ([], 61 :: plainP v.data.toList) := by
      unfold subsI; rw [if_neg (by rw [openCh_no 61 (by decide) (by decide)]; exact Bool.false_ne_true)]
    rw [h0]
    show some (Nod.mk (mkB nm.data.toList) [] (mkB (sI (dropH 61 (dropH 41 (61 :: plainP v.data.toList)))).1)) = _
    rw [dropH_no 41 _ (no_head 61 41 (by decide) _), dropH_yes, sI_val, mkB_data, mkB_data]
  | cons a L =>
    have hsub : subsT (a :: L) ++ 61 :: plainP v.data.toList = 40 :: (joinT (a :: L) ++ 41 :: (61 :: plainP v.data.toList)) := by
      unfold subsT; rw [if_neg (by simp)]; simp
    show (if subsT (a :: L) ++ 61 :: plainP v.data.toList = [] then none else (subsI 4 (subsT (a :: L) ++ 61 :: plainP v.data.toList)).map _) = _
    rw [hsub, if_neg (by simp), subsI_join _ (a :: L) 40 4 (.inl rfl) (by simp) h4]
    show some (Nod.mk (mkB nm.data.toList) (a :: L) (mkB (sI (dropH 61 (dropH 41 (41 :: (61 :: plainP v.data.toList))))).1)) = _
    rw [dropH_yes, dropH_yes, sI_val, mkB_data, mkB_data]
/-- What is read has a line. -/
theorem rdl_ok (T : List UInt8) (x : Nod) (h : rdlI T = some x) : nodB x = true := by
  unfold rdlI at h
  split at h
  · cases h
  · split at h
    · rename_i n _ hn
      injection h with h
      subst h
      cases hb : nodB n
      · exfalso
        unfold nodeLineP at hn
        rw [hb] at hn
        exact hn.2 hn.1.symm
      · rfl
    · cases h
end Go.Proofs.YtfibjcaidnofmaaGreatDoor

/- The reference's ReadLine walked. -/
namespace Go.Proofs.YtfibjcaidnofmaaGreatDoor
open Go.RowKit

end Go.Proofs.YtfibjcaidnofmaaGreatDoor
