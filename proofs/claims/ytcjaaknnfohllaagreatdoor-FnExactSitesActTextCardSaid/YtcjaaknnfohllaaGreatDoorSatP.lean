/- The words of an operation of sites: plain forms; rows of texts that take in another row. -/
import Derived.Test.YtcjaaknnfohllaaGreatDoorSitesAct
import Derived.Test.YtcjaaknnfohllaaGreatDoorNodS
import Derived.Test.YtcjaaknnfohllaaGreatDoorFrmS
namespace Go.Proofs.YtcjaaknnfohllaaGreatDoor
open Go.RowKit

def plainW (s : ByteArray) : ByteArray := ⟨(plainP s.data.toList).toArray⟩
def decW (n : Int) : ByteArray := ⟨(Lib.itoa n).toArray⟩
def wJob : ByteArray := ⟨#[106, 111, 98]⟩
def wIn : ByteArray := ⟨#[105, 110]⟩
def wStep : ByteArray := ⟨#[115, 116, 101, 112]⟩
def wTick : ByteArray := ⟨#[116, 105, 99, 107]⟩
def wFlush : ByteArray := ⟨#[102, 108, 117, 115, 104]⟩
def wPages : ByteArray := ⟨#[112, 97, 103, 101, 115]⟩
def wCheck : ByteArray := ⟨#[99, 104, 101, 99, 107]⟩
def wCrash : ByteArray := ⟨#[99, 114, 97, 115, 104]⟩
def wShip : ByteArray := ⟨#[115, 104, 105, 112]⟩
def wArrive : ByteArray := ⟨#[97, 114, 114, 105, 118, 101]⟩
def wLose : ByteArray := ⟨#[108, 111, 115, 101]⟩
def wTwice : ByteArray := ⟨#[116, 119, 105, 99, 101]⟩
def wCopy : ByteArray := ⟨#[99, 111, 112, 121]⟩
def wSwitch : ByteArray := ⟨#[115, 119, 105, 116, 99, 104]⟩
def inW (l : List ByteArray) : List ByteArray := if l = [] then [] else wIn :: l.map plainW
def jobW (x : Act) : List ByteArray := x.r :: x.l :: (x.args.map plainW ++ inW x.input)
def mainW (x : Act) : List ByteArray :=
  if x.k = 1 then wJob :: jobW x
  else if x.k = 2 then [wStep, decW x.a]
  else if x.k = 3 then [wTick]
  else if x.k = 4 then [wFlush]
  else if x.k = 5 then [wPages, decW x.a]
  else if x.k = 6 then [wCheck]
  else wCrash :: (x.a :: x.keep).map decW
def sitesW (kind at_ : Int) (x : Act) : List ByteArray :=
  if kind = 1 then mainW x
  else if kind = 2 then [wShip]
  else if kind = 3 then [wArrive, decW at_]
  else if kind = 4 then [wLose, decW at_]
  else if kind = 5 then [wTwice, decW at_]
  else if kind = 6 then [wCopy]
  else [wSwitch]
def noSp (s : ByteArray) : Bool := s.data.toList.all (· != 32)
def joinW (l : List ByteArray) : List UInt8 := Lib.join (l.map (·.data.toList)) [32]
def sitesT (kind at_ : Int) (x : Act) : List UInt8 :=
  if sitesB kind at_ x then (if (sitesW kind at_ x).all noSp then joinW (sitesW kind at_ x) else []) else []

theorem dec_noSp (u : Nat) : ∀ c ∈ Lib.decDigits u, c ≠ 32 := fun c hc e => by
  have := decDigits_dig u c hc
  rw [e] at this
  revert this; decide
theorem decW_noSp (n : Int) : noSp (decW n) = true := by
  unfold noSp decW
  rw [List.all_eq_true]
  intro c hc
  rw [bne_iff_ne]
  have hc' : c ∈ Lib.itoa n := by simpa using hc
  unfold Lib.itoa at hc'
  split at hc'
  · rcases List.mem_cons.1 hc' with h | h
    · rw [h]; decide
    · exact dec_noSp _ c h
  · exact dec_noSp _ c hc'
theorem name_noSp (s : ByteArray) (h : nameB s = true) : noSp s = true := by
  unfold nameB at h
  simp only [Bool.and_eq_true, decide_eq_true_eq] at h
  have h2 := h.2
  unfold nameTo at h2
  unfold noSp
  rw [List.all_eq_true]
  intro c hc
  obtain ⟨j, hj, e⟩ := List.getElem_of_mem hc
  have hjs : j < s.size := by simpa using hj
  have h3 := (List.all_eq_true.1 h2) j (List.mem_range.2 hjs)
  rw [bne_iff_ne]
  intro e32
  have hg : (s.get! j).toNat = 32 := by
    have : s.get! j = s.data.toList[j] := by
      unfold ByteArray.get!
      simp [getElem!_pos s.data j (by simpa using hjs)]
    rw [this, e, e32]; rfl
  rw [hg] at h3
  revert h3
  unfold nameCh letterB digitB
  simp
theorem main_noSp (x : Act) (h1 : x.k ≠ 1) : (mainW x).all noSp = true := by
  unfold mainW
  rw [if_neg h1]
  have hd := decW_noSp x.a
  split
  · simp only [List.all_cons, List.all_nil, hd]; rfl
  · split
    · rfl
    · split
      · rfl
      · split
        · simp only [List.all_cons, List.all_nil, hd]; rfl
        · split
          · rfl
          · rw [List.all_cons, List.map_cons, List.all_cons, hd, List.all_eq_true.2 (fun y hy => by obtain ⟨z, _, e⟩ := List.mem_map.1 hy; rw [← e]; exact decW_noSp z)]
            rfl
theorem job_noSp (x : Act) (hr : nameB x.r = true) (hl : nameB x.l = true) : (wJob :: jobW x).all noSp = ((x.args.map plainW).all noSp && (x.input.map plainW).all noSp) := by
  unfold jobW inW
  rw [List.all_cons, List.all_cons, List.all_cons, name_noSp _ hr, name_noSp _ hl, List.all_append]
  show (true && (true && (true && _))) = _
  rw [Bool.true_and, Bool.true_and, Bool.true_and]
  by_cases h : x.input = []
  · rw [if_pos h, h]; rfl
  · rw [if_neg h, List.all_cons]
    show (_ && (true && _)) = _
    rw [Bool.true_and]
theorem plainW_size (s : ByteArray) : (plainW s).size ≤ 9 * s.size + 2 := by
  have := plainP_len s.data.toList
  rw [len_list] at this
  show (plainP s.data.toList).toArray.size ≤ _
  rw [List.size_toArray]; exact this

/-- append(out, xs...): a row taken in, be it empty or not. -/
theorem wpList_appR {P : Program} {α : Type} {enc : α → Value} {d : α} {ops : Array Oper} {rest : List Oper} {o : Oper} {a : Go.Act} {Q : Exit → Go.Act → World → Prop} (hgd : o.guard = none) (s x : Operand) (t e : TypeId)
    (ho : o.op = .call { callee := .builtin .append, args := #[s, x], argTypes := #[t, t] }) (ht : P.underlying t = some (.slice e))
    {z : Value} {by_ : Nat} (hzz : z.cells.size = 1) (hby : by_ ≤ 16) (hone : ∀ x : α, (enc x).oneCell' = true) (hinfo : (P.info? e).map (fun i => (i.zero, i.size, i.bytes)) = some (some z, 1, by_))
    (w : World) (base : Nat) (v : Value) (xs ys : List α) (hs : a.eval s = v) (hown : OwnR enc w base e v xs) (A : Option Addr) (c lo hi : Nat)
    (hx : a.eval x = .slice A ys.length c) (hr : RowR enc d w lo hi A ys.length ys) (hlen : xs.length + ys.length ≤ 1000000000) (hbase : base ≤ w.heap.size)
    (h : ∀ v' w', OwnR enc w' base e v' (xs ++ ys) → Below base w w' → wpList P ops Q rest (a.put o.dst v') w') : wpList P ops Q (o :: rest) a w := by
  obtain ⟨i0, hi0, hz0, hz1, hz2⟩ := info_parts hinfo
  by_cases h0 : ys = []
  · subst h0
    have hrun : (Builtin.append_ #[t, t] o.type #[v, .slice A 0 c]).run P w = .ok v w := by
      rcases hown.2.2 with ⟨rfl, hz⟩ | ⟨g, cap, cur, rfl, _, _, hnc, _⟩
      · cases A <;> simp [Builtin.append_, run_underlying ht, sizeOf, typeInfo, hi0, Builtin.lenOf, Builtin.firstCells, loadCells, loadCellsFrom]
      · cases A <;> simp [Builtin.append_, run_underlying ht, sizeOf, typeInfo, hi0, Builtin.lenOf, Builtin.firstCells, loadCells, loadCellsFrom, storeCells] <;> omega
    refine wpList_plain hgd fun K hK => ?_
    unfold Oper.wp execOp
    rw [List.length_nil] at hx
    simp only [ho, resolve, invoke, builtin, Sem.run_bind, Sem.run_pure, Result.andThen_ok, List.map_toArray, List.map_cons, List.map_nil, hs, hx, hrun]
    exact hK _ _ (h v w (by rw [List.append_nil]; exact hown) (Below.refl _ _))
  · have hp := List.length_pos_iff.2 h0
    obtain ⟨b, off, rfl, _, _, hc⟩ := hr.2 hp
    have hadd : ∀ j, (⟨b, off, none⟩ : Addr).add j = ⟨b, off + j, none⟩ := fun j => by unfold Addr.add; split <;> simp_all
    refine wpList_append_own w hgd s x t ho base e i0 _ 1 by_ ht hi0 hz0 hz1 hz2 hzz (by decide) v xs.length (xs.map enc) hs hown.2 ⟨b, off, none⟩ ys.length c (ys.map enc) hx (by rw [List.length_map, Nat.mul_one]) (fun j u hj => ?_) (fun u hu => by obtain ⟨y, _, e⟩ := List.mem_map.1 hu; rw [← e]; exact hone y) (by unfold maxLen; omega) (Nat.le_trans (Nat.mul_le_mul_left _ hby) (by omega)) hbase ?_
    · rw [List.getElem?_map] at hj
      rcases Nat.lt_or_ge j ys.length with hlt | hge
      · rw [List.getElem?_eq_getElem hlt] at hj
        injection hj with hj
        rw [hadd, hc j hlt, ← hj, List.getD_eq_getElem?_getD, List.getElem?_eq_getElem hlt]
        rfl
      · rw [List.getElem?_eq_none hge] at hj; cases hj
    · intro v' w' h1 h2 _
      have hB : Below base w w' := (Below.refl base w).grown h2 hbase (fun k hk => (hown.2.lt k hk).1)
      refine h v' w' ⟨?_, ?_⟩ hB
      · rcases h1.2 with ⟨e1, e2⟩ | ⟨g, cap, cur, e1, _⟩
        · exact ⟨none, 0, by rw [e1, List.length_append, e2]⟩
        · exact ⟨some ⟨g, 0, none⟩, cap, by rw [e1, List.length_append]⟩
      · rw [List.length_append, List.map_append]; exact h1
/-- A literal row. -/
theorem OwnR.lit_ {α : Type} {enc : α → Value} (w : World) (base : Nat) (t : TypeId) (ys : List α) (hl : ys.length ≤ 1000000) (hb : base ≤ w.heap.size) : OwnR enc (w.alloc (.cells (ys.map enc).toArray t)) base t (.slice (some ⟨w.heap.size, 0, none⟩) ys.length ys.length) ys :=
  ⟨⟨_, _, rfl⟩, by simpa using World.ownsRow_lit (base := base) (e := t) (size := 1) w (ys.map enc).toArray ys.length hb (by unfold maxLen; omega) (by simp)⟩
theorem joinW_snoc (fs : List ByteArray) (x : ByteArray) : joinW (fs ++ [x]) = (if fs = [] then [] else joinW fs ++ [32]) ++ x.data.toList := by
  unfold joinW
  by_cases h : fs = []
  · subst h; rw [if_pos rfl]; exact join_one _ _
  · rw [if_neg h, List.map_append]
    show Lib.join (fs.map (·.data.toList) ++ [x.data.toList]) [32] = _
    rw [join_snoc _ _ _ (by intro e; exact h (List.map_eq_nil_iff.1 e)), List.append_assoc]
theorem take_one_more {α : Type} (xs : List α) (d : α) (k : Nat) (h : k < xs.length) : xs.take (k + 1) = xs.take k ++ [xs.getD k d] := by
  rw [List.take_add_one, List.getElem?_eq_getElem h, List.getD_eq_getElem?_getD, List.getElem?_eq_getElem h]
  rfl
theorem joinW_take (xs : List ByteArray) (k : Nat) (h : k < xs.length) : joinW (xs.take (k + 1)) = (if k = 0 then [] else joinW (xs.take k) ++ [32]) ++ (xs.getD k ByteArray.empty).data.toList := by
  rw [take_one_more xs ByteArray.empty k h, joinW_snoc]
  by_cases h0 : k = 0
  · subst h0; rw [if_pos rfl, if_pos (by rfl)]
  · rw [if_neg h0, if_neg (by
      intro e
      have := congrArg List.length e
      rw [List.length_take, List.length_nil] at this
      omega)]
theorem joinW_len (xs : List ByteArray) (hb : ∀ x ∈ xs, x.size ≤ 1000) : ∀ k, k ≤ xs.length → (joinW (xs.take k)).length ≤ 1001 * k
  | 0, _ => Nat.le_refl _
  | k + 1, h => by
    have h1 := joinW_len xs hb k (by omega)
    have h2 := hb (xs.getD k ByteArray.empty) (by rw [List.getD_eq_getElem?_getD, List.getElem?_eq_getElem (show k < xs.length by omega)]; exact List.getElem_mem _)
    rw [joinW_take xs k (by omega), List.length_append, len_list]
    split
    · simp only [List.length_nil]; omega
    · rw [List.length_append, List.length_singleton]; omega
end Go.Proofs.YtcjaaknnfohllaaGreatDoor
