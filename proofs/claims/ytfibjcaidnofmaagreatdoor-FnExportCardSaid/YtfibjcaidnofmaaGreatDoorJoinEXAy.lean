/- The program's line of a node. -/
import Derived.Test.YtfibjcaidnofmaaGreatDoorJoinEXAv
import Derived.Test.YtfibjcaidnofmaaGreatDoorJoinEXAt
import Derived.Test.YtfibjcaidnofmaaGreatDoorJoinEXAu
import Derived.Test.YtfibjcaidnofmaaGreatDoorJoinEXAc
import Derived.Test.YtfibjcaidnofmaaGreatDoorJoinEXAw
import Derived.Test.YtfibjcaidnofmaaGreatDoorShelfB
import Derived.Shelf.Strings.BuilderK
namespace Go.Proofs.YtfibjcaidnofmaaGreatDoor
open Go.RowKit

theorem lineT_split (x : Nod) : lineT x = ((94 :: x.name.data.toList) ++ subsT x.subs) ++ [61] ++ plainP x.value.data.toList := by
  unfold lineT
  simp
theorem joinT_len (l : List ByteArray) (n : Nat) (hn : l.length ≤ n) (h : ∀ y ∈ l, y.size ≤ 24) : (joinT l).length ≤ 300 * n := by
  unfold joinT
  have : ∀ (l : List ByteArray), (∀ y ∈ l, y.size ≤ 24) → (Lib.join (l.map fun s => plainP s.data.toList) [44]).length ≤ 300 * l.length := by
    intro l h
    cases l with
    | nil => exact Nat.zero_le _
    | cons a l =>
      rw [List.map_cons, join_cons, List.length_append, List.length_cons]
      have h1 := plainP_len a.data.toList
      have h2 := h a (List.mem_cons_self ..)
      rw [len_list] at h1
      have h3 : ((l.map fun s => plainP s.data.toList).map ([44] ++ ·)).flatten.length ≤ 300 * l.length := by
        clear h1 h2
        induction l with
        | nil => exact Nat.zero_le _
        | cons b l ih =>
          have h4 := ih (fun y hy => h y (by rcases List.mem_cons.1 hy with e | e; exact e ▸ List.mem_cons_self .. ; exact List.mem_cons_of_mem _ (List.mem_cons_of_mem _ e)))
          have h5 := plainP_len b.data.toList
          have h6 := h b (List.mem_cons_of_mem _ (List.mem_cons_self ..))
          rw [len_list] at h5
          rw [List.map_cons, List.map_cons, List.flatten_cons, List.length_append, List.length_append, List.length_cons, List.length_cons, List.length_nil]
          omega
      omega
  have := this l h
  have h7 : 300 * l.length ≤ 300 * n := Nat.mul_le_mul_left _ hn
  omega

set_option maxHeartbeats 4000000 in
set_option maxRecDepth 100000 in
theorem nodeLine_any (x : Nod) (v : Value) (lo hi : Nat) (w : World) (hx : NodR w lo hi v x) (hhi : hi ≤ w.heap.size) (hB : nodB x = true) (hE : EnvIn w) :
    Calls Tryz.prog 31 #[v] w fun e w' => e = .returned (.string ⟨(lineT x).toArray⟩) ∧ Below w.heap.size w w' := by
  obtain ⟨A, c, rfl, hA⟩ := hx
  obtain ⟨f1, f2, f3, f4⟩ := nodB_facts hB
  have hbo := (Below.refl w.heap.size w).alloc (Nat.le_refl _) (.cells #[.string x.name, .slice A x.subs.length c, .string x.value] 32)
  have hsz : (w.alloc (.cells #[.string x.name, .slice A x.subs.length c, .string x.value] 32)).heap.size = w.heap.size + 1 := by simp
  have HBK := Lib.hid (Blk.new w 32 #[.string x.name, .slice A x.subs.length c, .string x.value])
  have HA := Lib.hid (hA.below hbo hhi)
  have HD := Lib.hid hbo
  have HE := Lib.hid (hE.below hbo)
  have HF3 := Lib.hid f3
  have HJ := Lib.hid (joinT_len x.subs 4 f2 f3)
  have HR := Lib.hid (lineT_split x)
  have HPV := Lib.hid (fun W h => plain_any x.value (by omega) W h)
  have hpv := plainP_len x.value.data.toList
  rw [len_list] at hpv
  clear hA hbo hE f3 hB
  generalize plainP x.value.data.toList = V at *
  by_cases h0 : x.subs.length = 0
  · have z0 : ¬ (0 : Int) < (x.subs.length : Int) := by omega
    have HS := Lib.hid (show subsT x.subs = [] by unfold subsT; exact if_pos (List.eq_nil_of_length_eq_zero h0))
    have HZ := Lib.hid h0
    clear h0
    have c1 := HBK.out.cell
    go_enter Tryz.func31, Tryz.ntmps31
    go_wp2_with fail
    refine (HPV.out _ HE.out).mono ?_; rintro e2 w2 ⟨rfl, hb2⟩
    go_wp2_with fail
    go_ret
    exact ⟨by rw [HR.out, HS.out, List.append_nil, ← mk_app, ← mk_app, ← txt_cons]; rfl, HD.out.trans (hb2.mono HD.out.size)⟩
  · have z0 : (0 : Int) < (x.subs.length : Int) := by omega
    have HS := Lib.hid (show subsT x.subs = 40 :: (joinT x.subs ++ [41]) by unfold subsT; exact if_neg (fun e => h0 (by rw [e]; rfl)))
    have HZ := Lib.hid h0
    have hd0 : decide (0 < x.subs.length) = true := decide_eq_true (by omega)
    have hd1 : decide ((0 : Int) < (x.subs.length : Int)) = true := decide_eq_true z0
    clear h0
    have c1 := HBK.out.cell
    go_enter Tryz.func31, Tryz.ntmps31
    go_upto_region 4 with fail
    generalize hw1 : w.alloc (.cells #[.string x.name, .slice A x.subs.length c, .string x.value] 32) = w1 at *
    have HW1 := Lib.hid hw1; clear hw1
    have hlt1 : w.heap.size < w1.heap.size := by omega
    have hsz := Lib.hid hsz
    have hown0 : OwnStrs (w1.alloc (.cells #[] 9)) w1.heap.size 9 (.slice (some ⟨w.heap.size + 1, 0, none⟩) 0 0) [] := by
      have := OwnR.none_ (enc := Value.string) w1 w1.heap.size 9 (Nat.le_refl _)
      rw [hsz.out] at this ⊢
      exact this
    have hb0 : Below w1.heap.size w1 (w1.alloc (.cells #[] 9)) := (Below.refl _ _).alloc (Nat.le_refl _) _
    have c2 := (HBK.out.below hb0 (by omega)).cell
    have HB0 := Lib.hid hb0
    clear c1 hb0
    go_wp2_with fail
    go_loopw [4, 18] (fun v i wr => ∃ (k : Nat) (fs : List ByteArray), k ≤ x.subs.length ∧ i = .int .i64 k ∧ OwnStrs wr w1.heap.size 9 v fs ∧ fs.length = k ∧ fs.map (·.data.toList) = (x.subs.take k).map (fun s => plainP s.data.toList) ∧ Below w1.heap.size w1 wr) (fun _ i _ => x.subs.length - (intOf i).toNat)
    case atStart => exact ⟨0, [], Nat.zero_le _, rfl, hown0, rfl, rfl, HB0.out⟩
    case round =>
      clear c2 hown0
      obtain ⟨k, fs, hk, rfl, hown, hfl, hfs, hbr⟩ := hrel
      have HFS := Lib.hid hfs
      have hszr := hbr.size
      have HBR := Lib.hid hbr
      have hAr := HA.out.below hbr (by omega)
      have c3 := (HBK.out.below hbr (by omega)).cell
      clear hfs
      by_cases hlt : k < x.subs.length
      · obtain ⟨b, off, rfl, _, _, hcell⟩ := hAr.at_ hlt
        have k1 : (k : Int) < (x.subs.length : Int) := by omega
        have hsX := HF3.out _ (getD_mem' (d := ByteArray.empty) hlt)
        have HP := Lib.hid (plain_any (x.subs.getD k ByteArray.empty) (by omega) wr (HE.out.below hbr))
        have HN := Lib.hid (show (fs ++ [(⟨(plainP (x.subs.getD k ByteArray.empty).data.toList).toArray⟩ : ByteArray)]).map (·.data.toList) = (x.subs.take (k + 1)).map (fun s => plainP s.data.toList) by
          rw [List.take_succ_eq_append_getElem hlt, List.map_append, List.map_append, HFS.out, List.getD_eq_getElem?_getD, List.getElem?_eq_getElem hlt]; rfl)
        clear hAr hbr c3
        generalize plainP (x.subs.getD k ByteArray.empty).data.toList = F at *
        generalize x.subs.getD k ByteArray.empty = X at *
        go_wp2_with fail
        refine HP.out.mono ?_; rintro e2 w2 ⟨rfl, hb2⟩; have hown3 := hown.below hb2; have hs2 := Nat.le_trans hszr hb2.size
        go_wp2_with (first
          | fail
          | (at_builtin; refine wpList_app1 (enc := Value.string) rfl (.tmp 22) (.tmp 25) 29 9 rfl Tryz.underlying29 rfl (by omega) (fun _ => rfl) infoTxt w2 w1.heap.size _ fs ⟨F.toArray⟩ rfl hown3 rfl (by omega) hs2 ?_; intro v3 w3 hown4 hb3))
        go_roundw
        case rel => exact ⟨k + 1, _, by omega, by go_num, hown4, by rw [List.length_append, hfl]; rfl, HN.out, HBR.out.trans ((hb2.mono hszr).trans hb3)⟩
        case measure => simp [intOf]; omega
      · have k1 : ¬ (k : Int) < (x.subs.length : Int) := by omega
        obtain rfl : k = x.subs.length := by omega
        have hjn : Lib.join (fs.map (·.data.toList)) [44] = joinT x.subs := by
          rw [HFS.out, List.take_length]; rfl
        have HJO := Lib.hid (join_own hown (by omega) ⟨#[44]⟩ (by show (Lib.join (fs.map (·.data.toList)) [44]).length ≤ _; rw [hjn]; have := HJ.out; omega))
        have HJN := Lib.hid (show Lib.join (fs.map (·.data.toList)) (⟨#[44]⟩ : ByteArray).data.toList = joinT x.subs from hjn)
        have hjl := HJ.out
        have hEr := Lib.hid (HE.out.below hbr)
        clear hjn hown hbr hAr
        have HX := Lib.hid (show ∀ D : List UInt8, ((⟨#[40]⟩ : ByteArray) ++ ⟨D.toArray⟩ ++ (⟨#[41]⟩ : ByteArray)) = ⟨(40 :: (D ++ [41])).toArray⟩ from fun D => by rw [mk_app1]; exact mk_app (40 :: D) [41])
        go_wp2_with fail
        refine HJO.out.mono ?_; rintro e3 w3 ⟨rfl, hb3⟩
        rw [HJN.out]
        have c4 := (HBK.out.below (HBR.out.trans (hb3.mono HBR.out.size)) (by omega)).cell
        have HB3 := Lib.hid (HBR.out.trans (hb3.mono HBR.out.size))
        have hE3 := Lib.hid (HE.out.below HB3.out)
        generalize joinT x.subs = D at *
        clear c3 hb3
        go_wp2_with fail
        refine (HPV.out _ hE3.out).mono ?_; rintro e4 w4 ⟨rfl, hb4⟩
        go_wp2_with fail
        go_ret
        exact ⟨by rw [HR.out, HS.out, ← mk_app, ← mk_app, ← mk_app, ← HX.out, ← txt_cons]; rfl, HD.out.trans ((HB3.out.trans (hb4.mono HB3.out.size)).mono HD.out.size)⟩

set_option maxHeartbeats 1000000 in
theorem implNodeLine_any (x : Nod) (v : Value) (lo hi : Nat) (w : World) (hx : NodR w lo hi v x) (hhi : hi ≤ w.heap.size) (hs : NodSmall x) (hE : EnvIn w) :
    Calls Tryz.prog 9 #[v] w fun e w' => e = .returned (.string ⟨(nodeLineP x).toArray⟩) ∧ Below w.heap.size w w' := by
  obtain ⟨A, c, rfl, hA⟩ := hx
  have hbo := (Below.refl w.heap.size w).alloc (Nat.le_refl _) (.cells #[.string x.name, .slice A x.subs.length c, .string x.value] 32)
  have hsz : (w.alloc (.cells #[.string x.name, .slice A x.subs.length c, .string x.value] 32)).heap.size = w.heap.size + 1 := by simp
  have HC := Lib.hid (nodeOk_any x (.agg #[.string x.name, .slice A x.subs.length c, .string x.value]) lo hi _ ⟨A, c, rfl, hA.below hbo hhi⟩ (Nat.le_trans hhi (by omega)) hs)
  have HBK := Lib.hid (Blk.new w 32 #[.string x.name, .slice A x.subs.length c, .string x.value])
  have HA := Lib.hid (hA.below hbo hhi)
  have HD := Lib.hid hbo
  have HE := Lib.hid (hE.below hbo)
  clear hA hbo hE hs
  cases hB : nodB x
  · rw [hB] at HC
    have HR := Lib.hid (show nodeLineP x = [] by unfold nodeLineP; rw [hB]; rfl)
    rw [HR.out]
    clear hB
    go_enter Tryz.func9, Tryz.ntmps9
    go_wp2_with fail
    refine HC.out.mono ?_; rintro e1 w1 ⟨rfl, hb1⟩
    go_wp2_with fail
    go_ret
    exact ⟨rfl, HD.out.trans (hb1.mono HD.out.size)⟩
  · rw [hB] at HC
    have HR := Lib.hid (show nodeLineP x = lineT x by unfold nodeLineP; rw [hB]; rfl)
    rw [HR.out]
    have HNL := Lib.hid (fun W lo hi h1 h2 h3 => nodeLine_any x (.agg #[.string x.name, .slice A x.subs.length c, .string x.value]) lo hi W h1 h2 hB h3)
    clear hB
    generalize lineT x = T at *
    go_enter Tryz.func9, Tryz.ntmps9
    go_wp2_with fail
    refine HC.out.mono ?_; rintro e1 w1 ⟨rfl, hb1⟩
    have c1 := (HBK.out.below hb1 (by omega)).cell
    have HB1 := Lib.hid (HD.out.trans (hb1.mono HD.out.size))
    have HN1 := Lib.hid (HNL.out w1 lo hi ⟨A, c, rfl, HA.out.below hb1 (by omega)⟩ (Nat.le_trans hhi HB1.out.size) (HE.out.below hb1))
    clear hb1
    go_wp2_with fail
    refine HN1.out.mono ?_; rintro e2 w2 ⟨rfl, hb2⟩
    go_wp2_with fail
    go_ret
    exact ⟨rfl, HB1.out.trans (hb2.mono HB1.out.size)⟩
end Go.Proofs.YtfibjcaidnofmaaGreatDoor

/- A tree as text: the plain form; the reference's ExportTree walked. -/
namespace Go.Proofs.YtfibjcaidnofmaaGreatDoor
open Go.RowKit

def headT (n : Nat) : List UInt8 := [110, 111, 100, 101, 115, 32] ++ Lib.decDigits n ++ [10]
def linesTo (ns : List Nod) (k : Nat) : List UInt8 := headT ns.length ++ ((ns.take k).map fun x => lineT x ++ [10]).flatten
def exportP (ns : List Nod) : List UInt8 := if treB ns then linesTo ns ns.length else []
def exportC (ns : List Nod) : Int := if treB ns then 0 else 1
theorem linesTo_zero (ns : List Nod) : linesTo ns 0 = headT ns.length := by unfold linesTo; simp
theorem linesTo_succ (ns : List Nod) (k : Nat) (h : k < ns.length) : linesTo ns (k + 1) = linesTo ns k ++ (lineT (ns.getD k nodD) ++ [10]) := by
  unfold linesTo
  rw [List.take_succ_eq_append_getElem h, List.getD_eq_getElem?_getD, List.getElem?_eq_getElem h, List.map_append, List.flatten_append, List.map_cons, List.map_nil, List.flatten_cons, List.flatten_nil, List.append_nil, ← List.append_assoc]
  rfl
theorem treB_len {ns : List Nod} (h : treB ns = true) : ns.length ≤ 120 := by
  unfold treB at h
  exact of_decide_eq_true (Bool.and_eq_true_iff.1 h).1
theorem treB_nod {ns : List Nod} (h : treB ns = true) (k : Nat) (hk : k < ns.length) : nodB (ns.getD k nodD) = true := by
  unfold treB at h
  exact treTo_nod ns ns.length k hk (Bool.and_eq_true_iff.1 h).2
theorem lineT_len (x : Nod) (h : nodB x = true) : (lineT x).length ≤ 2000 := by
  obtain ⟨h1, h2, h3, h4⟩ := nodB_facts h
  have h5 := preT_len x h x.subs.length (Nat.le_refl _)
  have h6 := plainP_len x.value.data.toList
  rw [len_list] at h6
  rw [lineT_pre, List.length_append, List.length_append, List.length_append, List.length_cons, List.length_nil]
  have h7 : (if x.subs.length = 0 then [] else [41] : List UInt8).length ≤ 1 := by split <;> simp
  omega
theorem headT_len (n : Nat) (h : n ≤ 120) : (headT n).length ≤ 20 := by
  unfold headT
  have := decDigits_len 2 n (by omega)
  rw [List.length_append, List.length_append]
  simp only [List.length_cons, List.length_nil]
  omega
theorem linesTo_len (ns : List Nod) (h : treB ns = true) : ∀ k, k ≤ ns.length → (linesTo ns k).length ≤ 20 + 2001 * k
  | 0, _ => by rw [linesTo_zero]; exact headT_len _ (treB_len h)
  | k + 1, hk => by
    have h1 := linesTo_len ns h k (by omega)
    have h2 := lineT_len _ (treB_nod h k (by omega))
    rw [linesTo_succ ns k (by omega), List.length_append, List.length_append, List.length_cons, List.length_nil]
    omega
theorem head_bytes (n : Nat) : ((⟨#[110, 111, 100, 101, 115, 32]⟩ : ByteArray) ++ decT n ++ (⟨#[10]⟩ : ByteArray)).data.toList = headT n := by
  rw [ByteArray.data_append, ByteArray.data_append, Array.toList_append, Array.toList_append]
  rfl
theorem OwnB.mono {w : World} {base base' : Nat} {v : Value} {xs : List UInt8} (h : OwnB w base v xs) (hb : base' ≤ base) : OwnB w base' v xs := by
  obtain ⟨g, cap, cur, fz, h1, h2, r⟩ := h
  exact ⟨g, cap, cur, fz, h1, Nat.le_trans hb h2, r⟩

end Go.Proofs.YtfibjcaidnofmaaGreatDoor

/- The program's ExportTree walked; strings.Builder. -/
namespace Go.Proofs.YtfibjcaidnofmaaGreatDoor
open Go.RowKit

theorem isBuilder_below {T e : TypeId} {B b : Nat} {bs : List Value} {w w' : World} (h : Lib.IsBuilder T e B b bs w) (hb : Below w.heap.size w w') : Lib.IsBuilder T e B b bs w' := by
  have one : ∀ p, Lib.BuilderAt T e B b p bs w → Lib.BuilderAt T e B b p bs w' := by
    intro p hp
    have hlt := hp.lt
    obtain ⟨h1, v, h2, h3, h4⟩ := hp
    exact ⟨h1, v, (hb.block b hlt).trans h2, own_below h3 hb, h4⟩
  rcases h with h | h
  · exact .inl (one _ h)
  · exact .inr (one _ h)

theorem writeString_any (B b : Nat) (bs : List UInt8) (s : ByteArray) (w : World) (h : Lib.IsBuilder 82 5 B b (Lib.byteCells bs) w) (hlen : bs.length + s.size ≤ 140737488355328) (hBw : B ≤ w.heap.size) :
    Calls Tryz.prog 58 #[.pointer (some ⟨b, 0, none⟩), .string s] w fun e w' => e = .returned (.tuple #[.int .i64 s.size, .nilIface]) ∧ Lib.IsBuilder 82 5 B b (Lib.byteCells (bs ++ s.data.toList)) w' ∧ Below B w w' := by
  have H : Calls Tryz.prog 58 #[.pointer (some ⟨b, 0, none⟩), .string s] w fun e w' => e = .returned (.tuple #[.int .i64 s.size, .nilIface]) ∧ (Lib.BuilderAt 82 5 B b (.pointer (some ⟨b, 0, none⟩)) (Lib.byteCells bs ++ Lib.strCells s) w' ∧ Below B w w') :=
    Any.Builder_WriteString { Tryz.lays156 with } Tryz.Builder_Extra_156 B b (Lib.byteCells bs) s w h (by rw [Lib.byteCells_length]; exact hlen) hBw
  refine H.mono ?_
  rintro e w' ⟨h1, h2, h3⟩
  refine ⟨h1, .inr ?_, h3⟩
  rw [Lib.byteCells_append, ← Lib.strCells_eq]
  exact h2

set_option maxHeartbeats 8000000 in
set_option maxRecDepth 100000 in
theorem implExportTree_any (ns : List Nod) (v : Value) (lo hi : Nat) (w : World) (hx : TreR w lo hi v ns) (hhi : hi ≤ w.heap.size) (hs : NodsSmall ns) (hE : EnvIn w) :
    Calls Tryz.prog 20 #[v] w fun e w' => e = .returned (.tuple #[.string ⟨(exportP ns).toArray⟩, .int .i64 (exportC ns)]) ∧ Below w.heap.size w w' := by
  obtain ⟨A, c, rfl, hA⟩ := hx
  have hbo := (Below.refl w.heap.size w).alloc (Nat.le_refl _) (.cells #[.slice A ns.length c] 26)
  have HBK := Lib.hid (Blk.new w 26 #[.slice A ns.length c])
  have hsz0 : (w.alloc (.cells #[.slice A ns.length c] 26)).heap.size = w.heap.size + 1 := by simp
  have HA := Lib.hid (hA.below hbo hhi)
  have HD := Lib.hid hbo
  have HE := Lib.hid (hE.below hbo)
  have HC := Lib.hid (implTreeOk_any ns (.agg #[.slice A ns.length c]) lo hi _ ⟨A, c, rfl, hA.below hbo hhi⟩ (by omega) hs (hE.below hbo).1)
  have HS := Lib.hid hs.2
  clear hA hbo hs hE
  cases hB : treB ns
  · rw [hB] at HC
    have HR := Lib.hid (show exportP ns = [] by unfold exportP; rw [hB]; rfl)
    have HR2 := Lib.hid (show exportC ns = 1 by unfold exportC; rw [hB]; rfl)
    rw [HR.out, HR2.out]
    clear hB
    go_enter Tryz.func20, Tryz.ntmps20
    go_wp2_with fail
    refine HC.out.mono ?_; rintro e1 w1 ⟨rfl, hb1⟩
    go_wp2_with fail
    go_ret2
    exact ⟨rfl, HD.out.trans (hb1.mono HD.out.size)⟩
  · rw [hB] at HC
    have HR := Lib.hid (show exportP ns = linesTo ns ns.length by unfold exportP; rw [hB]; rfl)
    have HR2 := Lib.hid (show exportC ns = 0 by unfold exportC; rw [hB]; rfl)
    rw [HR.out, HR2.out]
    have h120 := treB_len hB
    have HLN := Lib.hid (linesTo_len ns hB)
    have HNB := Lib.hid (fun k hk => treB_nod hB k hk)
    have HL0 := Lib.hid ((linesTo_zero ns).trans (head_bytes ns.length).symm)
    have HDC := Lib.hid (fun W h => itoa_any ns.length (by omega) W h)
    have hdz : (decT ns.length).size ≤ 3 := decT_size 2 ns.length (by omega)
    clear hB HR HR2
    go_enter Tryz.func20, Tryz.ntmps20
    go_wp2_with fail
    refine HC.out.mono ?_; rintro e1 w1 ⟨rfl, hb1⟩
    have hsz1 := hb1.size
    have B1 := HBK.out.below hb1 (by omega)
    have HB1 := Lib.hid B1
    have HBL := Lib.hid (HD.out.trans (hb1.mono HD.out.size))
    have HA1 := Lib.hid (HA.out.below hb1 (by omega))
    have HE1 := Lib.hid (HE.out.below hb1)
    have hgt : w.heap.size < w1.heap.size := by omega
    clear hb1 B1 HC HBK HA HE
    generalize w.alloc (.cells #[.slice A ns.length c] 26) = w0 at *
    have HSZ0 := Lib.hid hsz0; clear hsz0
    have hba := (Below.refl w1.heap.size w1).alloc (Nat.le_refl _) (.cells #[.pointer none, .slice none 0 0] 82)
    have HIB := Lib.hid (Lib.fresh_isBuilder 82 5 w1)
    have c1 := (HB1.out.below hba hgt).cell
    have HBA := Lib.hid hba
    clear hba
    go_wp2_with fail
    refine (HDC.out _ (HE1.out.below HBA.out).1).mono ?_; rintro e2 w2 ⟨rfl, hb2⟩
    have HIB2 := Lib.hid (isBuilder_below HIB.out hb2)
    have HB2 := Lib.hid (HBA.out.trans (hb2.mono HBA.out.size))
    clear hb2 HIB c1
    have c2 := (HB1.out.below HB2.out hgt).cell
    go_wp2_with fail
    refine (writeString_any w1.heap.size w1.heap.size [] _ w2 HIB2.out (by rw [ByteArray.size_append, ByteArray.size_append]; show 0 + (6 + _ + 1) ≤ _; omega) HB2.out.size).mono ?_
    rintro e3 w3 ⟨rfl, hib3, hb3⟩
    rw [List.nil_append, ← HL0.out] at hib3
    have HIB3 := Lib.hid hib3
    have HB3 := Lib.hid (HB2.out.trans hb3)
    clear hib3 hb3 HIB2 c2
    have c3 := (HB1.out.below HB3.out hgt).cell
    generalize decT ns.length = D at *
    go_wp2_with fail
    go_loopw [20] (fun i wr => ∃ k : Nat, k ≤ ns.length ∧ i = .int .i64 k ∧ Lib.IsBuilder 82 5 w1.heap.size w1.heap.size (Lib.byteCells (linesTo ns k)) wr ∧ Below w1.heap.size w1 wr) (fun i _ => ns.length - (intOf i).toNat)
    case atStart => exact ⟨0, Nat.zero_le _, rfl, HIB3.out, HB3.out⟩
    case round =>
      clear c3
      obtain ⟨k, hk, rfl, hib, hbr⟩ := hrel
      have hlk := HLN.out k hk
      have hszr := hbr.size
      have HBR := Lib.hid hbr
      have hAr := HA1.out.below hbr (by omega)
      by_cases hlt : k < ns.length
      · obtain ⟨b, off, rfl, hbl, hbh, L1, d1, e0, e1, e2, hL⟩ := hAr.at_ hlt
        have i1 : (k : Int) < (ns.length : Int) := by omega
        have i0 : (0 : Int) ≤ (k : Int) := by omega
        have HN := Lib.hid (linesTo_succ ns k hlt)
        have hnb := HNB.out k hlt
        have hll := lineT_len _ hnb
        generalize ns.getD k nodD = X at *
        have HL := Lib.hid hL
        have HNB1 := Lib.hid hnb
        clear hL hnb hbr
        have HNL := Lib.hid (fun W (hb : Below wr.heap.size wr W) => nodeLine_any X (.agg #[.string X.name, .slice L1 X.subs.length d1, .string X.value]) lo hi W ⟨L1, d1, rfl, HL.out.below hb (by omega)⟩ (by have := hb.size; omega) HNB1.out (HE1.out.below (HBR.out.trans (hb.mono hszr))))
        generalize lineT X = T at *
        have HTS := Lib.hid (show ((⟨T.toArray⟩ : ByteArray) ++ (⟨#[10]⟩ : ByteArray)).size ≤ 2001 by
          rw [ByteArray.size_append]
          show T.toArray.size + 1 ≤ _
          rw [List.size_toArray]; omega)
        have HTL := Lib.hid (show ((⟨T.toArray⟩ : ByteArray) ++ (⟨#[10]⟩ : ByteArray)).data.toList = T ++ [10] by
          rw [show (⟨#[10]⟩ : ByteArray) = ⟨([10] : List UInt8).toArray⟩ from rfl, mk_app])
        go_wp2_with fail
        have BX := Blk.new wr 32 #[.string X.name, .slice L1 X.subs.length d1, .string X.value]
        have hba := (Below.refl wr.heap.size wr).alloc (Nat.le_refl _) (.cells #[.string X.name, .slice L1 X.subs.length d1, .string X.value] 32)
        generalize wr.alloc (.cells #[.string X.name, .slice L1 X.subs.length d1, .string X.value] 32) = wa at *
        refine (HNL.out _ hba).mono ?_; rintro e5 w5 ⟨rfl, hb5⟩
        have HIB5 := Lib.hid (isBuilder_below (isBuilder_below hib hba) hb5)
        have HB5 := Lib.hid (HBR.out.trans ((hba.trans (hb5.mono hba.size)).mono hszr))
        clear BX hba hb5 e0 e1 e2
        go_wp2_with fail
        refine (writeString_any w1.heap.size w1.heap.size (linesTo ns k) _ w5 HIB5.out (by have := HTS.out; omega) HB5.out.size).mono ?_
        rintro e6 w6 ⟨rfl, hib6, hb6⟩
        rw [HTL.out, ← HN.out] at hib6
        go_wp2_with fail
        go_roundw
        case rel => exact ⟨k + 1, by omega, by go_num, hib6, HB5.out.trans hb6⟩
        case measure => simp [intOf]; omega
      · have i1 : ¬ (k : Int) < (ns.length : Int) := by omega
        obtain rfl : k = ns.length := by omega
        have HST := Lib.hid (Tryz.Builder_String_any w1.heap.size w1.heap.size (linesTo ns ns.length) wr hib hszr)
        go_wp2_with fail
        refine HST.out.mono ?_; rintro e6 w6 ⟨rfl, hb6⟩
        go_wp2_with fail
        go_ret2
        exact ⟨rfl, HBL.out.trans ((HBR.out.trans hb6).mono HBL.out.size)⟩
end Go.Proofs.YtfibjcaidnofmaaGreatDoor
