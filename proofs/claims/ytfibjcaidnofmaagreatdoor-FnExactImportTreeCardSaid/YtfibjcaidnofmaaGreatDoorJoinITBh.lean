/- Reading a node's line: what the program's reader and the reference's read; one law. -/
import Derived.Test.YtfibjcaidnofmaaGreatDoorJoinITBf
import Derived.Test.YtfibjcaidnofmaaGreatDoorJoinITAy
namespace Go.Proofs.YtfibjcaidnofmaaGreatDoor
open Go.RowKit

def nmCh (c : UInt8) : Bool := !(c == 40 || c == 61)
def dropH (c : UInt8) (l : List UInt8) : List UInt8 := match l with
  | [] => []
  | x :: r => if x = c then r else x :: r
theorem dropH_yes (c : UInt8) (r : List UInt8) : dropH c (c :: r) = r := by unfold dropH; exact if_pos rfl
theorem dropH_no (c : UInt8) (l : List UInt8) (h : ∀ r, l ≠ c :: r) : dropH c l = l := by
  unfold dropH
  split
  · rfl
  · rename_i x r
    exact if_neg (fun e => h r (by rw [e]))
def mkB (l : List UInt8) : ByteArray := ⟨l.toArray⟩
theorem mkB_data (s : ByteArray) : mkB s.data.toList = s := by
  cases s with | mk d => unfold mkB; simp
/-- The subscripts behind the bracket, as the reference reads them. -/
def subsS (F : Nat) : Nat → List UInt8 → List ByteArray × List UInt8
  | 0, l => ([], l)
  | f + 1, l => if [44].isPrefixOf (tS F l).2 then (mkB (tS F l).1 :: (subsS F f ((tS F l).2.drop 1)).1, (subsS F f ((tS F l).2.drop 1)).2) else ([mkB (tS F l).1], (tS F l).2)
/-- .. as the program reads them, at most k more. -/
def openCh (l : List UInt8) : Bool := [40].isPrefixOf l || [44].isPrefixOf l
def subsI : Nat → List UInt8 → Option (List ByteArray × List UInt8)
  | 0, l => if openCh l then none else some ([], l)
  | k + 1, l => if openCh l then (subsI k (sI (l.drop 1)).2).map (fun p => (mkB (sI (l.drop 1)).1 :: p.1, p.2)) else some ([], l)
def rlS (T : List UInt8) : Nod :=
  if [40].isPrefixOf ((dropH 94 T).dropWhile nmCh) then
    ⟨mkB ((dropH 94 T).takeWhile nmCh), (subsS (T.length + 1) (T.length + 1) (((dropH 94 T).dropWhile nmCh).drop 1)).1, mkB (tS (T.length + 1) (dropH 61 (dropH 41 (subsS (T.length + 1) (T.length + 1) (((dropH 94 T).dropWhile nmCh).drop 1)).2))).1⟩
  else ⟨mkB ((dropH 94 T).takeWhile nmCh), [], mkB (tS (T.length + 1) (dropH 61 ((dropH 94 T).dropWhile nmCh))).1⟩
def rlI (T : List UInt8) : Option Nod :=
  if (dropH 94 T).dropWhile nmCh = [] then none
  else (subsI 4 ((dropH 94 T).dropWhile nmCh)).map fun p => ⟨mkB ((dropH 94 T).takeWhile nmCh), p.1, mkB (sI (dropH 61 (dropH 41 p.2))).1⟩
def rdlS (T : List UInt8) : Option Nod := if 60000 < T.length then none else if nodeLineP (rlS T) = T ∧ T ≠ [] then some (rlS T) else none
def rdlI (T : List UInt8) : Option Nod := match rlI T with
  | none => none
  | some n => if nodeLineP n = T ∧ T ≠ [] then some n else none

theorem name_nm (s : ByteArray) (h : nameB s = true) : ∀ c ∈ s.data.toList, nmCh c = true := by
  unfold nameB at h
  simp only [Bool.and_eq_true, decide_eq_true_eq] at h
  have h2 := h.2
  unfold nameTo at h2
  intro c hc
  obtain ⟨j, hj, e⟩ := List.getElem_of_mem hc
  have hjs : j < s.size := by simpa using hj
  have h3 := (List.all_eq_true.1 h2) j (List.mem_range.2 hjs)
  have hg : s.get! j = c := by
    have : s.get! j = s.data.toList[j] := by
      unfold ByteArray.get!
      simp [getElem!_pos s.data j (by simpa using hjs)]
    rw [this, e]
  rw [hg] at h3
  unfold nmCh
  cases h40 : c == 40
  · cases h61 : c == 61
    · rfl
    · have e61 : c = 61 := by simpa using h61
      subst e61
      revert h3
      unfold nameCh letterB digitB
      simp
  · have e40 : c = 40 := by simpa using h40
    subst e40
    revert h3
    unfold nameCh letterB digitB
    simp
theorem joinT_one (a : ByteArray) : joinT [a] = plainP a.data.toList := by
  unfold joinT; exact join_one _ _
theorem joinT_two (a b : ByteArray) (L : List ByteArray) : joinT (a :: b :: L) = plainP a.data.toList ++ 44 :: joinT (b :: L) := by
  unfold joinT
  rw [List.map_cons, List.map_cons, Lib.join_cons, Lib.join_cons]
  unfold Lib.joinTail
  rw [List.map_cons, List.flatten_cons, List.append_assoc]
  rfl
theorem num_no (c : UInt8) (h : c = 44 ∨ c = 41) : ∀ (c' : UInt8) (r r' : List UInt8), c :: r' = c' :: r → numCh c' = false := by
  intro c' r r' e
  injection e with e1 _
  subst e1
  rcases h with rfl | rfl <;> decide
theorem no_head (c d : UInt8) (h : c ≠ d) (r' : List UInt8) : ∀ r, c :: r' ≠ d :: r := fun r e => by injection e with e1 _; exact h e1
theorem tS_sub (F : Nat) (a : ByteArray) (c : UInt8) (hc : c = 44 ∨ c = 41) (r : List UInt8) (hF : a.size < F) : tS F (plainP a.data.toList ++ c :: r) = (a.data.toList, c :: r) :=
  tS_plain a.data.toList (c :: r) F (by rw [len_list]; exact hF) (no_head c 34 (by rcases hc with rfl | rfl <;> decide) r) (no_head c 95 (by rcases hc with rfl | rfl <;> decide) r) (fun c' r' e => num_no c hc c' r' r e)
theorem sI_sub (a : ByteArray) (c : UInt8) (hc : c = 44 ∨ c = 41) (r : List UInt8) : sI (plainP a.data.toList ++ c :: r) = (a.data.toList, c :: r) :=
  sI_plain a.data.toList (c :: r) (no_head c 34 (by rcases hc with rfl | rfl <;> decide) r) (no_head c 95 (by rcases hc with rfl | rfl <;> decide) r) (fun c' r' e => num_no c hc c' r' r e)
theorem tS_val (F : Nat) (a : ByteArray) (hF : a.size < F) : tS F (plainP a.data.toList) = (a.data.toList, []) := by
  have h := tS_plain a.data.toList [] F (by rw [len_list]; exact hF) (fun r e => by cases e) (fun r e => by cases e) (fun c r e => by cases e)
  rw [List.append_nil] at h; exact h
theorem sI_val (a : ByteArray) : sI (plainP a.data.toList) = (a.data.toList, []) := by
  have h := sI_plain a.data.toList [] (fun r e => by cases e) (fun r e => by cases e) (fun c r e => by cases e)
  rw [List.append_nil] at h; exact h
theorem subsS_join (F : Nat) (z : List UInt8) : ∀ (L : List ByteArray) (a : ByteArray) (f : Nat), L.length < f → (∀ y ∈ a :: L, y.size < F) → subsS F f (joinT (a :: L) ++ 41 :: z) = (a :: L, 41 :: z)
  | [], a, 0, h, _ => by simp at h
  | [], a, f + 1, _, hF => by
    unfold subsS
    rw [joinT_one, tS_sub F a 41 (.inr rfl) z (hF a (List.mem_cons_self ..))]
    show (if [44].isPrefixOf (41 :: z) then _ else _) = _
    rw [if_neg (by simp [List.isPrefixOf])]
    show ([mkB a.data.toList], _) = _
    rw [mkB_data]
  | b :: L, a, 0, h, _ => by simp at h
  | b :: L, a, f + 1, h, hF => by
    have ih := subsS_join F z L b f (by simp at h ⊢; omega) (fun y hy => hF y (List.mem_cons_of_mem _ hy))
    unfold subsS
    rw [joinT_two, List.append_assoc, List.cons_append, tS_sub F a 44 (.inl rfl) _ (hF a (List.mem_cons_self ..))]
    show (if [44].isPrefixOf (44 :: (joinT (b :: L) ++ 41 :: z)) then _ else _) = _
    rw [if_pos (by simp [List.isPrefixOf])]
    show (mkB a.data.toList :: (subsS F f (joinT (b :: L) ++ 41 :: z)).1, (subsS F f (joinT (b :: L) ++ 41 :: z)).2) = _
    rw [ih, mkB_data]
theorem openCh_yes (c : UInt8) (hc : c = 40 ∨ c = 44) (r : List UInt8) : openCh (c :: r) = true := by
  unfold openCh; rcases hc with rfl | rfl <;> simp [List.isPrefixOf]
theorem openCh_no (c : UInt8) (hc : c ≠ 40) (hc2 : c ≠ 44) (r : List UInt8) : openCh (c :: r) = false := by
  unfold openCh
  simp [List.isPrefixOf]
  exact ⟨fun e => hc e.symm, fun e => hc2 e.symm⟩
theorem subsI_join (z : List UInt8) : ∀ (L : List ByteArray) (c : UInt8) (k : Nat), (c = 40 ∨ c = 44) → L ≠ [] → L.length ≤ k → subsI k (c :: (joinT L ++ 41 :: z)) = some (L, 41 :: z)
  | [], _, _, _, h, _ => absurd rfl h
  | _ :: _, _, 0, _, _, h => by simp at h
  | [a], c, k + 1, hc, _, _ => by
    unfold subsI
    rw [if_pos (openCh_yes c hc _)]
    show (subsI k (sI (joinT [a] ++ 41 :: z)).2).map _ = _
    rw [List.drop_succ_cons, List.drop_zero, joinT_one, sI_sub a 41 (.inr rfl) z]
    have h0 : subsI k (41 :: z) = some ([], 41 :: z) := by
      cases k <;> (unfold subsI; rw [if_neg (by rw [openCh_no 41 (by decide) (by decide)]; exact Bool.false_ne_true)])
    show (subsI k (41 :: z)).map _ = _
    rw [h0]
    show some ([mkB a.data.toList], _) = _
    rw [mkB_data]
  | a :: b :: L, c, k + 1, hc, _, hk => by
    have ih := subsI_join z (b :: L) 44 k (.inr rfl) (by simp) (by simp at hk ⊢; omega)
    unfold subsI
    rw [if_pos (openCh_yes c hc _), List.drop_succ_cons, List.drop_zero, joinT_two, List.append_assoc, List.cons_append, sI_sub a 44 (.inl rfl) _]
    show (subsI k (44 :: (joinT (b :: L) ++ 41 :: z))).map _ = _
    rw [ih]
    show some (mkB a.data.toList :: _, _) = _
    rw [mkB_data]

theorem line_parts (x : Nod) (h : nodB x = true) :
    dropH 94 (lineT x) = x.name.data.toList ++ (subsT x.subs ++ 61 :: plainP x.value.data.toList) ∧
    (dropH 94 (lineT x)).takeWhile nmCh = x.name.data.toList ∧ (dropH 94 (lineT x)).dropWhile nmCh = subsT x.subs ++ 61 :: plainP x.value.data.toList := by
  have h1 : dropH 94 (lineT x) = x.name.data.toList ++ (subsT x.subs ++ 61 :: plainP x.value.data.toList) := dropH_yes _ _
  have hn : ∀ c ∈ x.name.data.toList, nmCh c = true := by
    unfold nodB at h
    simp only [Bool.and_eq_true] at h
    exact name_nm _ h.1.1
  have h2 := takeWhile_all nmCh (subsT x.subs ++ 61 :: plainP x.value.data.toList) (fun c r e => by
    unfold subsT at e
    split at e
    · rw [List.nil_append] at e; injection e with e _; subst e; rfl
    · rw [List.cons_append] at e; injection e with e _; subst e; rfl) _ hn
  rw [h1]
  exact ⟨rfl, h2⟩
theorem line_sizes (x : Nod) : (∀ y ∈ x.subs, y.size < (lineT x).length + 1) ∧ x.subs.length < (lineT x).length + 1 ∧ x.value.size < (lineT x).length + 1 := by
  have hv := plainP_ge x.value.data.toList
  rw [len_list] at hv
  have hl : (lineT x).length = 1 + (x.name.data.toList.length + ((subsT x.subs).length + (1 + (plainP x.value.data.toList).length))) := by
    unfold lineT
    simp only [List.length_cons, List.length_append]; omega
  have hj : ∀ L : List ByteArray, (∀ y ∈ L, y.size ≤ (joinT L).length) ∧ L.length ≤ (joinT L).length + 1 := by
    intro L
    induction L with
    | nil => exact ⟨fun y hy => absurd hy List.not_mem_nil, Nat.zero_le _⟩
    | cons a L ih =>
      have ha := plainP_ge a.data.toList
      rw [len_list] at ha
      cases L with
      | nil =>
        rw [joinT_one]
        exact ⟨fun y hy => by rw [List.mem_singleton] at hy; subst hy; exact ha, by simp⟩
      | cons b L =>
        rw [joinT_two, List.length_append, List.length_cons]
        refine ⟨fun y hy => ?_, ?_⟩
        · rcases List.mem_cons.1 hy with rfl | hy
          · omega
          · have := ih.1 y hy; omega
        · have := ih.2; simp only [List.length_cons] at this ⊢; omega
  have hs : x.subs = [] ∨ (subsT x.subs).length = (joinT x.subs).length + 2 := by
    by_cases h0 : x.subs = []
    · exact .inl h0
    · refine .inr ?_
      unfold subsT
      rw [if_neg h0]
      simp
  rcases hs with h0 | hs
  · rw [h0]
    exact ⟨fun y hy => absurd hy List.not_mem_nil, by simp, by omega⟩
  · exact ⟨fun y hy => by have := (hj x.subs).1 y hy; omega, by have := (hj x.subs).2; omega, by omega⟩
theorem rlS_line (x : Nod) (h : nodB x = true) : rlS (lineT x) = x := by
  obtain ⟨_, h2, h3⟩ := line_parts x h
  obtain ⟨z1, z2, z3⟩ := line_sizes x
  obtain ⟨nm, L, v⟩ := x
  generalize hT : lineT ⟨nm, L, v⟩ = T at *
  unfold rlS
  rw [h2, h3]
  show (if [40].isPrefixOf (subsT L ++ 61 :: plainP v.data.toList) then _ else _) = _
  cases L with
  | nil =>
    show (if [40].isPrefixOf (61 :: plainP v.data.toList) then _ else Nod.mk (mkB nm.data.toList) [] (mkB (tS (T.length + 1) (dropH 61 (61 :: plainP v.data.toList))).1)) = _
    rw [if_neg (by simp [List.isPrefixOf]), dropH_yes, tS_val _ v z3, mkB_data, mkB_data]
  | cons a L =>
    have hsub : subsT (a :: L) ++ 61 :: plainP v.data.toList = 40 :: (joinT (a :: L) ++ 41 :: (61 :: plainP v.data.toList)) := by
      unfold subsT; rw [if_neg (by simp)]; simp
    show (if [40].isPrefixOf (subsT (a :: L) ++ 61 :: plainP v.data.toList) then Nod.mk (mkB nm.data.toList) (subsS (T.length + 1) (T.length + 1) ((subsT (a :: L) ++ 61 :: plainP v.data.toList).drop 1)).1 (mkB (tS (T.length + 1) (dropH 61 (dropH 41 (subsS (T.length + 1) (T.length + 1) ((subsT (a :: L) ++ 61 :: plainP v.data.toList).drop 1)).2))).1) else _) = _
    rw [hsub, if_pos (by simp [List.isPrefixOf]), List.drop_succ_cons, List.drop_zero, subsS_join _ _ L a _ (by have : (a :: L).length < T.length + 1 := z2; simp at this; omega) z1]
    show Nod.mk (mkB nm.data.toList) (a :: L) (mkB (tS (T.length + 1) (dropH 61 (dropH 41 (41 :: (61 :: plainP v.data.toList))))).1) = _
    rw [dropH_yes, dropH_yes, tS_val _ v z3, mkB_data, mkB_data]
theorem rlI_line (x : Nod) (h : nodB x = true) : rlI (lineT x) = some x := by
  obtain ⟨_, h2, h3⟩ := line_parts x h
  have h4 := (nodB_facts h).2.1
  obtain ⟨nm, L, v⟩ := x
  generalize hT : lineT ⟨nm, L, v⟩ = T at *
  unfold rlI
  rw [h2, h3]
  cases L with
  | nil =>
    show (if 61 :: plainP v.data.toList = [] then none else (subsI 4 (61 :: plainP v.data.toList)).map _) = _
    rw [if_neg (by simp)]
    have h0 : subsI 4 (61 :: plainP v.data.toList) = some ([], 61 :: plainP v.data.toList) := by
      unfold subsI; rw [if_neg (by rw [openCh_no 61 (by decide) (by decide)]; exact Bool.false_ne_true)]
    rw [h0]
    show some (Nod.mk (mkB nm.data.toList) [] (mkB (sI (dropH 61 (dropH 41 (61 :: plainP v.data.toList)))).1)) = _
    rw [dropH_no 41 _ (no_head 61 41 (by decide) _), dropH_yes, sI_val, mkB_data, mkB_data]
  | cons a L =>
    have hsub : subsT (a :: L) ++ 61 :: plainP v.data.toList = 40 :: (joinT (a :: L) ++ 41 :: (61 :: plainP v.data.toList)) := by
      unfold subsT; rw [if_neg (by simp)]; simp
    show (if subsT (a :: L) ++ 61 :: plainP v.data.toList = [] then none else (subsI 4 (subsT (a :: L) ++ 61 :: plainP v.data.toList)).map _) = _
    rw [hsub, if_neg (by simp), subsI_join _ (a :: L) 40 4 (.inl rfl) (by simp) h4]
    show some (Nod.mk (mkB nm.data.toList) (a :: L) (mkB (sI (dropH 61 (dropH 41 (41 :: (61 :: plainP v.data.toList))))).1)) = _
    rw [dropH_yes, dropH_yes, sI_val, mkB_data, mkB_data]
theorem line_short (x : Nod) (h : nodB x = true) : (lineT x).length ≤ 60000 := by
  have h1 := preT_len x h x.subs.length (Nat.le_refl _)
  have h2 := (nodB_facts h).2.1
  have h3 := (nodB_facts h).2.2.2
  have h4 := plainP_len x.value.data.toList
  rw [len_list] at h4
  rw [lineT_pre, List.length_append, List.length_append, List.length_append]
  split <;> simp <;> omega
theorem rdl_same (T : List UInt8) : rdlS T = rdlI T := by
  by_cases hx : ∃ x, nodB x = true ∧ lineT x = T
  · obtain ⟨x, hb, rfl⟩ := hx
    have hn : nodeLineP x = lineT x := by unfold nodeLineP; rw [if_pos hb]
    have hne : lineT x ≠ [] := by unfold lineT; simp
    unfold rdlS rdlI
    rw [if_neg (by have := line_short x hb; omega), rlS_line x hb, rlI_line x hb]
  · have hno : ∀ n, ¬ (nodeLineP n = T ∧ T ≠ []) := by
      rintro n ⟨h1, h2⟩
      unfold nodeLineP at h1
      split at h1
      · rename_i hb; exact hx ⟨n, hb, h1⟩
      · exact h2 h1.symm
    unfold rdlS rdlI
    rw [if_neg (hno _)]
    split
    · split
      · rfl
      · rename_i n _; rw [if_neg (hno n)]
    · split
      · rfl
      · rename_i n _; rw [if_neg (hno n)]
/-- What is read has a line. -/
theorem rdl_ok (T : List UInt8) (x : Nod) (h : rdlI T = some x) : nodB x = true := by
  unfold rdlI at h
  split at h
  · cases h
  · split at h
    · rename_i n _ hn
      injection h with h
      subst h
      cases hb : nodB n
      · exfalso
        unfold nodeLineP at hn
        rw [hb] at hn
        exact hn.2 hn.1.symm
      · rfl
    · cases h
end Go.Proofs.YtfibjcaidnofmaaGreatDoor

/- The reference's ReadLine walked. -/
namespace Go.Proofs.YtfibjcaidnofmaaGreatDoor
open Go.RowKit

theorem tS_place (T : ByteArray) : ∀ (f p : Nat), p ≤ T.size → ∃ q, p ≤ q ∧ q ≤ T.size ∧ T.data.toList.drop q = (tS f (T.data.toList.drop p)).2
  | 0, p, hp => ⟨p, Nat.le_refl _, hp, rfl⟩
  | f + 1, p, hp => by
    have tail : ∀ (a : List UInt8) (m : Nat), p ≤ m → m ≤ T.size → ∃ q, p ≤ q ∧ q ≤ T.size ∧ T.data.toList.drop q = (tT f (a, T.data.toList.drop m)).2 := by
      intro a m h1 h2
      by_cases h95 : ∃ r, T.data.toList.drop m = 95 :: r
      · obtain ⟨r, hr⟩ := h95
        have hm : m < T.size := by
          rcases Nat.lt_or_ge m T.size with h' | h'
          · exact h'
          · rw [List.drop_of_length_le (by rw [Array.length_toList]; exact h')] at hr; cases hr
        have hr2 := drop_at T m hm
        rw [hr] at hr2
        injection hr2 with _ e2
        obtain ⟨q, q1, q2, q3⟩ := tS_place T f (m + 1) hm
        refine ⟨q, by omega, q2, ?_⟩
        rw [hr, tT_more, e2]
        exact q3
      · exact ⟨m, h1, h2, by rw [tT_stop f a _ (fun r e => h95 ⟨r, e⟩)]⟩
    cases h : [34].isPrefixOf (T.data.toList.drop p)
    · cases h2 : [36, 67, 40].isPrefixOf (T.data.toList.drop p)
      · rw [tS_n f _ h h2]
        refine ⟨p + ((T.data.toList.drop p).takeWhile numCh).length, by omega, ?_, ?_⟩
        · have h3 := congrArg List.length (List.takeWhile_append_dropWhile (p := numCh) (l := T.data.toList.drop p))
          rw [List.length_append, List.length_drop, Array.length_toList] at h3
          have h4 : ((T.data.toList.drop p).takeWhile numCh).length + ((T.data.toList.drop p).dropWhile numCh).length = T.size - p := h3
          omega
        · rw [← List.drop_drop]
          have h3 := List.takeWhile_append_dropWhile (p := numCh) (l := T.data.toList.drop p)
          generalize (T.data.toList.drop p).takeWhile numCh = A at *
          show List.drop A.length (List.drop p T.data.toList) = (T.data.toList.drop p).dropWhile numCh
          generalize (T.data.toList.drop p).dropWhile numCh = B at *
          rw [← h3, List.drop_left]
      · rw [tS_c f _ h h2]
        have hp3 := pre_place T p _ h2 hp
        obtain ⟨m, m1, m2, m3⟩ := cS_place T (T.data.toList.drop p).length (p + 3) hp3
        rw [List.drop_drop]
        obtain ⟨q, hq⟩ := tail (cS (T.data.toList.drop p).length (T.data.toList.drop (p + 3))).1 m (by omega) m2
        refine ⟨q, hq.1, hq.2.1, ?_⟩
        rw [hq.2.2, m3]
    · rw [tS_q f _ h]
      have hp1 := pre_place T p _ h hp
      obtain ⟨m, m1, m2, m3⟩ := qS_place T (p + 1) hp1
      rw [List.drop_drop]
      obtain ⟨q, hq⟩ := tail (qS (T.data.toList.drop (p + 1))).1 m (by omega) m2
      refine ⟨q, hq.1, hq.2.1, ?_⟩
      rw [hq.2.2, m3]

theorem tS_len : ∀ (f : Nat) (l : List UInt8), (tS f l).1.length ≤ 2 * l.length
  | 0, l => Nat.zero_le _
  | f + 1, l => by
    have tail : ∀ (a m : List UInt8), a.length + m.length ≤ l.length → (tT f (a, m)).1.length ≤ 2 * l.length := by
      intro a m h1
      by_cases h95 : ∃ r, m = 95 :: r
      · obtain ⟨r, rfl⟩ := h95
        rw [tT_more, List.length_append]
        have := tS_len f r
        rw [List.length_cons] at h1
        omega
      · rw [tT_stop f a _ (fun r e => h95 ⟨r, e⟩)]
        show a.length ≤ _
        omega
    cases h : [34].isPrefixOf l
    · cases h2 : [36, 67, 40].isPrefixOf l
      · rw [tS_n f _ h h2]
        have := (List.takeWhile_sublist numCh (l := l)).length_le
        show (l.takeWhile numCh).length ≤ _
        omega
      · rw [tS_c f _ h h2]
        have h3 := cS_sum l.length (l.drop 3)
        have h4 := (List.isPrefixOf_iff_prefix.1 h2).length_le
        rw [List.length_drop] at h3
        simp only [List.length_cons, List.length_nil] at h4
        exact tail _ _ (by omega)
    · rw [tS_q f _ h]
      have h3 := qS_sum _ (l.drop 1) (Nat.le_refl _)
      rw [List.length_drop] at h3
      exact tail _ _ (by omega)

theorem textS_at (B : Nat) (T : ByteArray) (a f : Nat) (ha : a ≤ T.size) (hf : T.size - a < f) (hT : T.size ≤ 1048576) (w : World) (hB : RdAt w B T a) :
    ∃ q, a ≤ q ∧ q ≤ T.size ∧ T.data.toList.drop q = (tS f (T.data.toList.drop a)).2 ∧ (tS f (T.data.toList.drop a)).1.length ≤ 2 * T.size ∧
      Calls Tryz.prog 111 #[.pointer (some ⟨B, 0, none⟩)] w fun e w' => e = .returned (.string (mkB (tS f (T.data.toList.drop a)).1)) ∧ RdAt w' B T q ∧ Within B (B + 1) w w' := by
  obtain ⟨q, h1, h2, h3⟩ := tS_place T f a ha
  have hc := textS_any B T a f ha hf hT w hB
  have hlen : T.size - (tS f (T.data.toList.drop a)).2.length = q := by rw [← h3, len_at T q h2]
  rw [hlen] at hc
  refine ⟨q, h1, h2, h3, ?_, hc.mono fun e w' ⟨e1, e2, e3, _⟩ => ⟨e1, e2, e3⟩⟩
  have h4 := tS_len f (T.data.toList.drop a)
  rw [List.length_drop, Array.length_toList] at h4
  have h5 : (tS f (T.data.toList.drop a)).1.length ≤ 2 * (T.size - a) := h4
  omega

/-- One byte asked for: where the reader stands behind it. -/
theorem more_at (B : Nat) (T : ByteArray) (c : UInt8) (a : Nat) (ha : a ≤ T.size) (hT : T.size ≤ 1048576) (w : World) (hB : RdAt w B T a) :
    ∃ q, a ≤ q ∧ q ≤ T.size ∧ T.data.toList.drop q = dropH c (T.data.toList.drop a) ∧ ([c].isPrefixOf (T.data.toList.drop a) = true → q = a + 1) ∧
      Calls Tryz.prog 110 #[.pointer (some ⟨B, 0, none⟩), .string ⟨#[c]⟩] w fun e w' => e = .returned (.bool ([c].isPrefixOf (T.data.toList.drop a))) ∧ RdAt w' B T q ∧ Within B (B + 1) w w' := by
  have hm := more_any B T ⟨#[c]⟩ a ha hT (by show 1 ≤ 8; omega) w hB
  have he : (⟨#[c]⟩ : ByteArray).data.toList = [c] := rfl
  rw [he] at hm
  cases hc : [c].isPrefixOf (T.data.toList.drop a)
  · rw [hc, if_neg (by decide)] at hm
    refine ⟨a, Nat.le_refl _, ha, ?_, fun h => absurd h Bool.false_ne_true, hm⟩
    rw [dropH_no c _ (fun r e => by rw [(one_pre c _).2 ⟨r, e⟩] at hc; cases hc)]
  · rw [hc, if_pos rfl] at hm
    have h1 := pre_place T a _ hc ha
    obtain ⟨r, hr⟩ := (one_pre c _).1 hc
    have h2 := drop_at T a h1
    rw [hr] at h2
    injection h2 with _ e2
    refine ⟨a + 1, by omega, h1, ?_, fun _ => rfl, hm⟩
    rw [hr, dropH_yes, e2]

/-- What stands behind the name: the subscripts, and what is left ahead of the value. -/
def rlR (T : List UInt8) : List ByteArray × List UInt8 :=
  if [40].isPrefixOf ((dropH 94 T).dropWhile nmCh) then ((subsS (T.length + 1) (T.length + 1) (((dropH 94 T).dropWhile nmCh).drop 1)).1, dropH 41 (subsS (T.length + 1) (T.length + 1) (((dropH 94 T).dropWhile nmCh).drop 1)).2)
  else ([], (dropH 94 T).dropWhile nmCh)
theorem rlS_R (T : List UInt8) : rlS T = ⟨mkB ((dropH 94 T).takeWhile nmCh), (rlR T).1, mkB (tS (T.length + 1) (dropH 61 (rlR T).2)).1⟩ := by
  unfold rlS rlR
  split <;> rfl
/-- Behind a subscript: a comma and more, or the end. -/
def sT (F f : Nat) (l : List UInt8) : List ByteArray × List UInt8 := if [44].isPrefixOf l then subsS F f (l.drop 1) else ([], l)
theorem subsS_step (F f : Nat) (l : List UInt8) : subsS F (f + 1) l = (mkB (tS F l).1 :: (sT F f (tS F l).2).1, (sT F f (tS F l).2).2) := by
  unfold sT
  rw [subsS]
  split <;> rfl
end Go.Proofs.YtfibjcaidnofmaaGreatDoor
