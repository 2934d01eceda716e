/- A tree as text: the plain form; the reference's ExportTree walked. -/
import Derived.Test.YtfibjcaidnofmaaGreatDoorJoinEOAw
import Derived.Test.YtfibjcaidnofmaaGreatDoorJoinEOAy
import Derived.Test.YtfibjcaidnofmaaGreatDoorJoinEOAd
import Derived.Test.YtfibjcaidnofmaaGreatDoorJoinEOBd
import Derived.Test.YtfibjcaidnofmaaGreatDoorJoinEOBa
namespace Go.Proofs.YtfibjcaidnofmaaGreatDoor
open Go.RowKit

def headT (n : Nat) : List UInt8 := [110, 111, 100, 101, 115, 32] ++ Lib.decDigits n ++ [10]
def linesTo (ns : List Nod) (k : Nat) : List UInt8 := headT ns.length ++ ((ns.take k).map fun x => lineT x ++ [10]).flatten
def exportP (ns : List Nod) : List UInt8 := if treB ns then linesTo ns ns.length else []
def exportC (ns : List Nod) : Int := if treB ns then 0 else 1
theorem linesTo_zero (ns : List Nod) : linesTo ns 0 = headT ns.length := by unfold linesTo; simp
theorem linesTo_succ (ns : List Nod) (k : Nat) (h : k < ns.length) : linesTo ns (k + 1) = linesTo ns k ++ (lineT (ns.getD k nodD) ++ [10]) := by
  unfold linesTo
  rw [List.take_succ_eq_append_getElem h, List.getD_eq_getElem?_getD, List.getElem?_eq_getElem h, List.map_append, List.flatten_append, List.map_cons, List.map_nil, List.flatten_cons, List.flatten_nil, List.append_nil, ← List.append_assoc]
  rfl
theorem treB_len {ns : List Nod} (h : treB ns = true) : ns.length ≤ 120 := by
  unfold treB at h
  exact of_decide_eq_true (Bool.and_eq_true_iff.1 h).1
theorem treB_nod {ns : List Nod} (h : treB ns = true) (k : Nat) (hk : k < ns.length) : nodB (ns.getD k nodD) = true := by
  unfold treB at h
  exact treTo_nod ns ns.length k hk (Bool.and_eq_true_iff.1 h).2
theorem lineT_len (x : Nod) (h : nodB x = true) : (lineT x).length ≤ 2000 := by
  obtain ⟨h1, h2, h3, h4⟩ := nodB_facts h
  have h5 := preT_len x h x.subs.length (Nat.le_refl _)
  have h6 := plainP_len x.value.data.toList
  rw [len_list] at h6
  rw [lineT_pre, List.length_append, List.length_append, List.length_append, List.length_cons, List.length_nil]
  have h7 : (if x.subs.length = 0 then [] else [41] : List UInt8).length ≤ 1 := by split <;> simp
  omega
theorem headT_len (n : Nat) (h : n ≤ 120) : (headT n).length ≤ 20 := by
  unfold headT
  have := decDigits_len 2 n (by omega)
  rw [List.length_append, List.length_append]
  simp only [List.length_cons, List.length_nil]
  omega
theorem linesTo_len (ns : List Nod) (h : treB ns = true) : ∀ k, k ≤ ns.length → (linesTo ns k).length ≤ 20 + 2001 * k
  | 0, _ => by rw [linesTo_zero]; exact headT_len _ (treB_len h)
  | k + 1, hk => by
    have h1 := linesTo_len ns h k (by omega)
    have h2 := lineT_len _ (treB_nod h k (by omega))
    rw [linesTo_succ ns k (by omega), List.length_append, List.length_append, List.length_cons, List.length_nil]
    omega
theorem head_bytes (n : Nat) : ((⟨#[110, 111, 100, 101, 115, 32]⟩ : ByteArray) ++ decT n ++ (⟨#[10]⟩ : ByteArray)).data.toList = headT n := by
  rw [ByteArray.data_append, ByteArray.data_append, Array.toList_append, Array.toList_append]
  rfl
theorem OwnB.mono {w : World} {base base' : Nat} {v : Value} {xs : List UInt8} (h : OwnB w base v xs) (hb : base' ≤ base) : OwnB w base' v xs := by
  obtain ⟨g, cap, cur, fz, h1, h2, r⟩ := h
  exact ⟨g, cap, cur, fz, h1, Nat.le_trans hb h2, r⟩

set_option maxHeartbeats 8000000 in
set_option maxRecDepth 100000 in
theorem specExportTree_any (ns : List Nod) (v : Value) (lo hi : Nat) (w : World) (hx : TreR w lo hi v ns) (hhi : hi ≤ w.heap.size) (hs : NodsSmall ns) :
    Calls Tryz.prog 13 #[v] w fun e w' => e = .returned (.tuple #[.string ⟨(exportP ns).toArray⟩, .int .i64 (exportC ns)]) ∧ Below w.heap.size w w' := by
  obtain ⟨A, c, rfl, hA⟩ := hx
  have hbo := (Below.refl w.heap.size w).alloc (Nat.le_refl _) (.cells #[.slice A ns.length c] 26)
  have HBK := Lib.hid (Blk.new w 26 #[.slice A ns.length c])
  have hsz0 : (w.alloc (.cells #[.slice A ns.length c] 26)).heap.size = w.heap.size + 1 := by simp
  have HA := Lib.hid (hA.below hbo hhi)
  have HD := Lib.hid hbo
  have HC := Lib.hid (specTreeOk_any ns (.agg #[.slice A ns.length c]) lo hi _ ⟨A, c, rfl, hA.below hbo hhi⟩ (by omega) hs)
  have HS := Lib.hid hs.2
  clear hA hbo hs
  cases hB : treB ns
  · rw [hB] at HC
    have HR := Lib.hid (show exportP ns = [] by unfold exportP; rw [hB]; rfl)
    have HR2 := Lib.hid (show exportC ns = 1 by unfold exportC; rw [hB]; rfl)
    rw [HR.out, HR2.out]
    clear hB
    go_enter Tryz.func13, Tryz.ntmps13
    go_wp2_with fail
    refine HC.out.mono ?_; rintro e1 w1 ⟨rfl, hb1⟩
    go_wp2_with fail
    go_ret2
    exact ⟨rfl, HD.out.trans (hb1.mono HD.out.size)⟩
  · rw [hB] at HC
    have HR := Lib.hid (show exportP ns = linesTo ns ns.length by unfold exportP; rw [hB]; rfl)
    have HR2 := Lib.hid (show exportC ns = 0 by unfold exportC; rw [hB]; rfl)
    rw [HR.out, HR2.out]
    have h120 := treB_len hB
    have HLN := Lib.hid (linesTo_len ns hB)
    have HNB := Lib.hid (fun k hk => treB_nod hB k hk)
    have HL0 := Lib.hid ((linesTo_zero ns).trans (head_bytes ns.length).symm)
    have HDC := Lib.hid (fun W => l21Dec_any ns.length (by omega) W)
    have hdz : (decT ns.length).size ≤ 3 := decT_size 2 ns.length (by omega)
    clear hB HR HR2
    go_enter Tryz.func13, Tryz.ntmps13
    go_wp2_with fail
    refine HC.out.mono ?_; rintro e1 w1 ⟨rfl, hb1⟩
    have hsz1 := hb1.size
    have B1 := HBK.out.below hb1 (by omega)
    have c1 := B1.cell
    have HB1 := Lib.hid B1
    have HBL := Lib.hid (HD.out.trans (hb1.mono HD.out.size))
    have HA1 := Lib.hid (HA.out.below hb1 (by omega))
    have hgt : w.heap.size < w1.heap.size := by omega
    clear hb1 B1 HC HBK HA
    generalize w.alloc (.cells #[.slice A ns.length c] 26) = w0 at *
    have HSZ0 := Lib.hid hsz0; clear hsz0
    go_wp2_with fail
    refine (HDC.out _).mono ?_; rintro e2 w2 ⟨rfl, hb2⟩
    obtain ⟨bv, w3, hcv, hown0, hb3⟩ := own_text w2 ((⟨#[110, 111, 100, 101, 115, 32]⟩ : ByteArray) ++ decT ns.length ++ (⟨#[10]⟩ : ByteArray)) (by rw [ByteArray.size_append, ByteArray.size_append]; show 6 + _ + 1 ≤ _; omega)
    rw [← HL0.out] at hown0
    have HO0 := Lib.hid (hown0.mono hb2.size)
    have HB3 := Lib.hid (hb2.trans (hb3.mono hb2.size))
    have c3 := (HB1.out.below HB3.out hgt).cell
    clear hown0 hb2 hb3 c1
    generalize decT ns.length = D at *
    go_wp2_with fail
    clear hcv
    go_loopw [4, 5] (fun v i wr => ∃ k : Nat, k ≤ ns.length ∧ i = .int .i64 k ∧ OwnB wr w1.heap.size v (linesTo ns k) ∧ Below w1.heap.size w1 wr) (fun _ i _ => ns.length - (intOf i).toNat)
    case atStart => exact ⟨0, Nat.zero_le _, rfl, HO0.out, HB3.out⟩
    case round =>
      clear c3
      obtain ⟨k, hk, rfl, hown, hbr⟩ := hrel
      have hlk := HLN.out k hk
      have hszr := hbr.size
      have HBR := Lib.hid hbr
      have hAr := HA1.out.below hbr (by omega)
      have c2 := (HB1.out.below hbr hgt).cell
      by_cases hlt : k < ns.length
      · obtain ⟨b, off, rfl, hbl, hbh, L1, d1, e0, e1, e2, hL⟩ := hAr.at_ hlt
        have i1 : (k : Int) < (ns.length : Int) := by omega
        have i0 : (0 : Int) ≤ (k : Int) := by omega
        have HN := Lib.hid (linesTo_succ ns k hlt)
        have hnb := HNB.out k hlt
        have HX := Lib.hid (HS.out _ (nod_mem (d := nodD) hlt))
        have hll := lineT_len _ hnb
        generalize ns.getD k nodD = X at *
        have HNL := Lib.hid (show Calls Tryz.prog 38 #[.agg #[.string X.name, .slice L1 X.subs.length d1, .string X.value]] wr fun e w' => e = .returned (.string ⟨(lineT X).toArray⟩) ∧ Below wr.heap.size wr w' by
          have := specNodeLine_any X _ lo hi wr ⟨L1, d1, rfl, hL⟩ (by omega) HX.out
          rw [show nodeLineP X = lineT X by unfold nodeLineP; rw [hnb]; rfl] at this
          exact this)
        clear hL hnb hbr
        generalize lineT X = T at *
        have hts : ((⟨T.toArray⟩ : ByteArray) ++ (⟨#[10]⟩ : ByteArray)).size ≤ 2001 := by
          rw [ByteArray.size_append]
          show T.toArray.size + 1 ≤ _
          rw [List.size_toArray]; omega
        have HTS := Lib.hid hts; clear hts
        have HTL := Lib.hid (show ((⟨T.toArray⟩ : ByteArray) ++ (⟨#[10]⟩ : ByteArray)).data.toList = T ++ [10] by
          rw [show (⟨#[10]⟩ : ByteArray) = ⟨([10] : List UInt8).toArray⟩ from rfl, mk_app])
        go_wp2_with fail
        refine HNL.out.mono ?_; rintro e5 w5 ⟨rfl, hb5⟩
        have hown2 := hown.below hb5
        have hs5 := hb5.size
        go_wp2_with (first
          | fail
          | (at_builtin; refine wpList_appT rfl (.tmp 23) (.tmp 30) rfl w5 w1.heap.size _ _ ((⟨T.toArray⟩ : ByteArray) ++ (⟨#[10]⟩ : ByteArray)) rfl hown2 rfl (by omega) (by have := HTS.out; omega) (by omega) ?_; intro v6 w6 hown6 hb6))
        go_roundw
        case rel => exact ⟨k + 1, by omega, by go_num, by rw [HN.out, ← HTL.out]; exact hown6, HBR.out.trans ((hb5.mono hszr).trans hb6)⟩
        case measure => simp [intOf]; omega
      · have i1 : ¬ (k : Int) < (ns.length : Int) := by omega
        obtain rfl : k = ns.length := by omega
        have hcv := text_own hown
        go_wp2_with fail
        go_ret2
        exact ⟨rfl, HBL.out.trans (HBR.out.mono HBL.out.size)⟩
end Go.Proofs.YtfibjcaidnofmaaGreatDoor

/- A tree's text, read again: plain. What may be shown; lines in any order. -/
namespace Go.Proofs.YtfibjcaidnofmaaGreatDoor

/-! ### All of it may be shown -/
theorem shows_of {c : UInt8} (h1 : 32 ≤ c.toNat) (h2 : c.toNat ≤ 126) : showsC c = true := by unfold showsC; rw [decide_eq_true_eq]; exact ⟨h1, h2⟩
theorem shows_dig {c : UInt8} (h : isDig c = true) : showsC c = true := by
  unfold isDig at h; rw [decide_eq_true_eq] at h
  exact shows_of (by omega) (by omega)
theorem shows_num {c : UInt8} (h : numCh c = true) : showsC c = true := by
  unfold numCh at h
  rcases Bool.or_eq_true_iff.1 h with h | h
  · rcases Bool.or_eq_true_iff.1 h with h | h
    · exact shows_dig h
    · obtain rfl : c = 45 := by simpa using h
      rfl
  · obtain rfl : c = 46 := by simpa using h
    rfl
theorem shows_join {L : List (List UInt8)} {d : UInt8} (hd : showsC d = true) (h : ∀ l ∈ L, ∀ c ∈ l, showsC c = true) : ∀ c ∈ Go.Lib.join L [d], showsC c = true := by
  cases L with
  | nil => intro c hc; cases hc
  | cons x xs =>
    rw [join_cons]
    intro c hc
    rcases List.mem_append.1 hc with hc | hc
    · exact h x (List.mem_cons_self ..) c hc
    · obtain ⟨l, hl, hc⟩ := List.mem_flatten.1 hc
      obtain ⟨y, hy, rfl⟩ := List.mem_map.1 hl
      rcases List.mem_append.1 hc with hc | hc
      · rw [List.mem_singleton.1 hc]; exact hd
      · exact h y (List.mem_cons_of_mem _ hy) c hc
theorem runOf_same {l : List UInt8} : ∀ c ∈ runOf l, ∀ x, l.head? = some x → showsC c = showsC x := by
  cases l with
  | nil => intro c hc; cases hc
  | cons a l =>
    intro c hc x hx
    obtain rfl : a = x := by simpa using hx
    rcases List.mem_cons.1 hc with rfl | hc
    · rfl
    · have := mem_takeWhile_dig _ l c hc
      simpa using this
theorem runsP_run : ∀ (k : Nat) (l : List UInt8), ∀ r ∈ runsP k l, ∃ l', r = runOf l'
  | 0, l, r, h => by cases h
  | k + 1, [], r, h => by cases h
  | k + 1, c :: l, r, h => by
    rcases List.mem_cons.1 h with rfl | h
    · exact ⟨_, rfl⟩
    · exact runsP_run k _ r h
theorem shows_form (l : List UInt8) : ∀ c ∈ formP (runOf l), showsC c = true := by
  cases l with
  | nil => intro c hc; cases hc
  | cons a l =>
    have hrun : runOf (a :: l) = a :: l.takeWhile (fun x => showsC x == showsC a) := rfl
    have hsame : ∀ c ∈ runOf (a :: l), showsC c = showsC a := fun c hc => runOf_same c hc a rfl
    rw [hrun] at hsame ⊢
    intro c hc
    have hc : c ∈ (if showsC a then quoteP (a :: l.takeWhile (fun x => showsC x == showsC a)) else codesP (a :: l.takeWhile (fun x => showsC x == showsC a))) := hc
    split at hc
    · rename_i ha
      unfold quoteP at hc
      rcases List.mem_cons.1 hc with rfl | hc
      · rfl
      rcases List.mem_append.1 hc with hc | hc
      · obtain ⟨y, hy, hc⟩ := List.mem_flatMap.1 hc
        split at hc
        · simp at hc; rw [hc]; rfl
        · rw [List.mem_singleton.1 hc, hsame y hy, ha]
      · rw [List.mem_singleton.1 hc]; rfl
    · unfold codesP at hc
      rcases List.mem_cons.1 hc with rfl | hc
      · rfl
      rcases List.mem_cons.1 hc with rfl | hc
      · rfl
      rcases List.mem_cons.1 hc with rfl | hc
      · rfl
      rcases List.mem_append.1 hc with hc | hc
      · refine shows_join (d := 44) rfl (fun l' hl' c hc => ?_) c hc
        obtain ⟨y, _, rfl⟩ := List.mem_map.1 hl'
        exact shows_dig (decDigits_dig _ c hc)
      · rw [List.mem_singleton.1 hc]; rfl
theorem shows_plain (l : List UInt8) : ∀ c ∈ plainP l, showsC c = true := by
  intro c hc
  unfold plainP at hc
  split at hc
  · rename_i h
    unfold canonB at h
    rw [decide_eq_true_eq] at h
    rw [← h] at hc
    exact shows_num (numText_ch _ c hc)
  · split at hc
    · simp at hc; rw [hc]; rfl
    · refine shows_join (d := 95) rfl (fun l' hl' c hc => ?_) c hc
      obtain ⟨r, hr, rfl⟩ := List.mem_map.1 hl'
      obtain ⟨l2, rfl⟩ := runsP_run _ _ r hr
      exact shows_form l2 c hc
theorem shows_name (s : ByteArray) (h : nameB s = true) : ∀ c ∈ s.data.toList, showsC c = true := by
  unfold nameB at h
  simp only [Bool.and_eq_true, decide_eq_true_eq] at h
  have h2 := h.2
  unfold nameTo at h2
  intro c hc
  obtain ⟨j, hj, e⟩ := List.getElem_of_mem hc
  have hjs : j < s.size := by simpa using hj
  have h3 := (List.all_eq_true.1 h2) j (List.mem_range.2 hjs)
  have hg : s.get! j = c := by
    have : s.get! j = s.data.toList[j] := by
      unfold ByteArray.get!
      simp [getElem!_pos s.data j (by simpa using hjs)]
    rw [this, e]
  rw [hg] at h3
  unfold nameCh letterB digitB at h3
  simp only [Bool.or_eq_true, Bool.and_eq_true, decide_eq_true_eq] at h3
  exact shows_of (by omega) (by omega)
theorem shows_line (x : Nod) (h : nodB x = true) : ∀ c ∈ lineT x, showsC c = true := by
  have hn : nameB x.name = true := by
    unfold nodB at h
    simp only [Bool.and_eq_true] at h
    exact h.1.1
  intro c hc
  unfold lineT at hc
  rcases List.mem_cons.1 hc with rfl | hc
  · rfl
  rcases List.mem_append.1 hc with hc | hc
  · exact shows_name _ hn c hc
  rcases List.mem_append.1 hc with hc | hc
  · unfold subsT at hc
    split at hc
    · cases hc
    · rcases List.mem_cons.1 hc with rfl | hc
      · rfl
      rcases List.mem_append.1 hc with hc | hc
      · refine shows_join (d := 44) rfl (fun l' hl' c hc => ?_) c hc
        obtain ⟨y, _, rfl⟩ := List.mem_map.1 hl'
        exact shows_plain _ c hc
      · rw [List.mem_singleton.1 hc]; rfl
  · rcases List.mem_cons.1 hc with rfl | hc
    · rfl
    · exact shows_plain _ c hc
theorem line_no10 (x : Nod) (h : nodB x = true) : ∀ c ∈ lineT x, c ≠ 10 := fun c hc e => by
  have := shows_line x h c hc
  subst e; revert this; decide
theorem rdlI_line (x : Nod) (h : nodB x = true) : rdlI (lineT x) = some x := by
  unfold rdlI
  rw [rlI_line x h]
  show (if nodeLineP x = lineT x ∧ lineT x ≠ [] then some x else none) = _
  rw [if_pos ⟨by unfold nodeLineP; rw [if_pos h], by unfold lineT; simp⟩]

/-! ### Lines in any order -/
def headL (n : Nat) : List UInt8 := [110, 111, 100, 101, 115, 32] ++ Lib.decDigits n
def bodyT (ns : List Nod) : List UInt8 := (ns.map fun x => lineT x ++ [10]).flatten
def textT (n : Nat) (ns : List Nod) : List UInt8 := headL n ++ 10 :: bodyT ns
theorem linesTo_text (ns : List Nod) : linesTo ns ns.length = textT ns.length ns := by
  unfold linesTo headT textT headL bodyT
  rw [List.take_length]
  simp
theorem headL_no10 (n : Nat) : ∀ c ∈ headL n, c ≠ 10 := by
  intro c hc
  unfold headL at hc
  rcases List.mem_append.1 hc with hc | hc
  · intro e; subst e; revert hc; decide
  · have h1 := decDigits_dig _ c hc
    intro e; subst e; revert h1; decide
theorem many_head (n : Nat) (h : n ≤ 120) : manyP (headL n) = n := by
  unfold manyP headL
  have hp : nodesW.isPrefixOf ([110, 111, 100, 101, 115, 32] ++ Lib.decDigits n) = true := List.isPrefixOf_iff_prefix.2 ⟨_, rfl⟩
  rw [if_pos hp]
  show manyD (Lib.decDigits n) = n
  unfold manyD
  have hl := decDigits_len 2 n (by omega)
  have hv : valFrom 0 (Lib.decDigits n) = n := decDigits_val n
  rw [if_pos ⟨List.length_pos_iff.2 (dec_ne' _), by omega, by rw [hv]⟩, hv]
theorem linesP_body : ∀ (ns : List Nod), (∀ x ∈ ns, nodB x = true) → linesP (bodyT ns) = (ns.map lineT, [])
  | [], _ => rfl
  | x :: ns, h => by
    have hb : bodyT (x :: ns) = lineT x ++ 10 :: bodyT ns := by unfold bodyT; simp
    rw [hb, linesP_line _ _ (line_no10 x (h x (List.mem_cons_self ..))), linesP_body ns fun y hy => h y (List.mem_cons_of_mem _ hy)]
    rfl
theorem readAll_lines : ∀ (ns : List Nod), (∀ x ∈ ns, nodB x = true) → readAll (ns.map lineT) = some ns
  | [], _ => rfl
  | x :: ns, h => by
    show (rdlI (lineT x)).bind _ = _
    rw [rdlI_line x (h x (List.mem_cons_self ..)), Option.bind_some, readAll_lines ns fun y hy => h y (List.mem_cons_of_mem _ hy)]
    rfl
theorem body_len (ns : List Nod) (h : ∀ x ∈ ns, nodB x = true) : (bodyT ns).length ≤ 2001 * ns.length := by
  induction ns with
  | nil => exact Nat.zero_le _
  | cons x ns ih =>
    have hb : bodyT (x :: ns) = lineT x ++ 10 :: bodyT ns := by unfold bodyT; simp
    have h1 := ih fun y hy => h y (List.mem_cons_of_mem _ hy)
    have h2 := lineT_len x (h x (List.mem_cons_self ..))
    rw [hb, List.length_append, List.length_cons, List.length_cons]
    omega
/-- THE LAW: whatever the lines' order, the tree is read. -/
theorem import_text {ns ms : List Nod} (ht : treB ns = true) (hp : ms.Perm ns) (hl : ns.length ≤ 25) : importP (textT ns.length ms) = (0, ns) := by
  have hn : ∀ x ∈ ns, nodB x = true := fun x hx => by
    obtain ⟨k, hk, e⟩ := List.getElem_of_mem hx
    have := treB_nod ht k hk
    rw [List.getD_eq_getElem?_getD, List.getElem?_eq_getElem hk] at this
    rw [← e]; exact this
  have hm : ∀ x ∈ ms, nodB x = true := fun x hx => hn x (hp.subset hx)
  have hlen : (textT ns.length ms).length ≤ 60000 := by
    have h1 := body_len ms hm
    have h2 := headT_len ns.length (by omega)
    have h3 : (headL ns.length).length + 1 = (headT ns.length).length := by unfold headL headT; simp
    have h4 := hp.length_eq
    unfold textT
    rw [List.length_append, List.length_cons]
    omega
  have hlines : linesP (textT ns.length ms) = (headL ns.length :: ms.map lineT, []) := by
    unfold textT
    rw [linesP_line _ _ (headL_no10 _), linesP_body ms hm]
  have hmany := many_head ns.length (by omega)
  have hrise := (treB_rises hn (by omega)).1 ht
  obtain ⟨q1, q2⟩ := import_sort (P := ns) (ns := ms) hp.symm (hrise.imp fun {a b} hab => by
    cases h : befP (keyN b) (keyN a) with
    | false => rfl
    | true => exact absurd (sto_befP.swo.trans _ _ _ hab h) (by rw [sto_befP.swo.irrefl]; exact Bool.false_ne_true)) hm (by have := hp.length_eq; omega)
  unfold importP
  rw [if_neg (by omega), hlines]
  show (if 120 < manyP (headL ns.length) then _ else _) = _
  rw [hmany, if_neg (by omega), if_neg (by rw [List.length_map, hp.length_eq]; simp), readAll_lines ms hm]
  show (if (insN ms).2 then _ else _) = _
  rw [ht] at q1
  have hb : (insN ms).2 = false := by cases h : (insN ms).2 with | false => rfl | true => rw [h] at q1; cases q1
  rw [hb, if_neg Bool.false_ne_true, ← q2 hb]

end Go.Proofs.YtfibjcaidnofmaaGreatDoor
