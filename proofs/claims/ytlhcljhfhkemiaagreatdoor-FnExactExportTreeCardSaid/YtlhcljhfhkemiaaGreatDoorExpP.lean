/- A tree as text: the plain form; the reference's ExportTree walked. -/
import Derived.Test.YtlhcljhfhkemiaaGreatDoorTreB
import Derived.Test.YtlhcljhfhkemiaaGreatDoorNodS
import Derived.Test.YtlhcljhfhkemiaaGreatDoorBytT
namespace Go.Proofs.YtlhcljhfhkemiaaGreatDoor
open Go.RowKit

def headT (n : Nat) : List UInt8 := [110, 111, 100, 101, 115, 32] ++ Lib.decDigits n ++ [10]
def linesTo (ns : List Nod) (k : Nat) : List UInt8 := headT ns.length ++ ((ns.take k).map fun x => lineT x ++ [10]).flatten
def exportP (ns : List Nod) : List UInt8 := if treB ns then linesTo ns ns.length else []
def exportC (ns : List Nod) : Int := if treB ns then 0 else 1
theorem linesTo_zero (ns : List Nod) : linesTo ns 0 = headT ns.length := by unfold linesTo; simp
theorem linesTo_succ (ns : List Nod) (k : Nat) (h : k < ns.length) : linesTo ns (k + 1) = linesTo ns k ++ (lineT (ns.getD k nodD) ++ [10]) := by
  unfold linesTo
  rw [List.take_succ_eq_append_getElem h, List.getD_eq_getElem?_getD, List.getElem?_eq_getElem h, List.map_append, List.flatten_append, List.map_cons, List.map_nil, List.flatten_cons, List.flatten_nil, List.append_nil, ← List.append_assoc]
  rfl
theorem treB_len {ns : List Nod} (h : treB ns = true) : ns.length ≤ 120 := by
  unfold treB at h
  exact of_decide_eq_true (Bool.and_eq_true_iff.1 h).1
theorem treB_nod {ns : List Nod} (h : treB ns = true) (k : Nat) (hk : k < ns.length) : nodB (ns.getD k nodD) = true := by
  unfold treB at h
  exact treTo_nod ns ns.length k hk (Bool.and_eq_true_iff.1 h).2
theorem lineT_len (x : Nod) (h : nodB x = true) : (lineT x).length ≤ 2000 := by
  obtain ⟨h1, h2, h3, h4⟩ := nodB_facts h
  have h5 := preT_len x h x.subs.length (Nat.le_refl _)
  have h6 := plainP_len x.value.data.toList
  rw [len_list] at h6
  rw [lineT_pre, List.length_append, List.length_append, List.length_append, List.length_cons, List.length_nil]
  have h7 : (if x.subs.length = 0 then [] else [41] : List UInt8).length ≤ 1 := by split <;> simp
  omega
theorem headT_len (n : Nat) (h : n ≤ 120) : (headT n).length ≤ 20 := by
  unfold headT
  have := decDigits_len 2 n (by omega)
  rw [List.length_append, List.length_append]
  simp only [List.length_cons, List.length_nil]
  omega
theorem linesTo_len (ns : List Nod) (h : treB ns = true) : ∀ k, k ≤ ns.length → (linesTo ns k).length ≤ 20 + 2001 * k
  | 0, _ => by rw [linesTo_zero]; exact headT_len _ (treB_len h)
  | k + 1, hk => by
    have h1 := linesTo_len ns h k (by omega)
    have h2 := lineT_len _ (treB_nod h k (by omega))
    rw [linesTo_succ ns k (by omega), List.length_append, List.length_append, List.length_cons, List.length_nil]
    omega
theorem head_bytes (n : Nat) : ((⟨#[110, 111, 100, 101, 115, 32]⟩ : ByteArray) ++ decT n ++ (⟨#[10]⟩ : ByteArray)).data.toList = headT n := by
  rw [ByteArray.data_append, ByteArray.data_append, Array.toList_append, Array.toList_append]
  rfl
theorem OwnB.mono {w : World} {base base' : Nat} {v : Value} {xs : List UInt8} (h : OwnB w base v xs) (hb : base' ≤ base) : OwnB w base' v xs := by
  obtain ⟨g, cap, cur, fz, h1, h2, r⟩ := h
  exact ⟨g, cap, cur, fz, h1, Nat.le_trans hb h2, r⟩

set_option maxHeartbeats 8000000 in
set_option maxRecDepth 100000 in
theorem specExportTree_any (ns : List Nod) (v : Value) (lo hi : Nat) (w : World) (hx : TreR w lo hi v ns) (hhi : hi ≤ w.heap.size) (hs : NodsSmall ns) :
    Calls Tryz.prog 12 #[v] w fun e w' => e = .returned (.tuple #[.string ⟨(exportP ns).toArray⟩, .int .i64 (exportC ns)]) ∧ Below w.heap.size w w' := by
  obtain ⟨A, c, rfl, hA⟩ := hx
  have hbo := (Below.refl w.heap.size w).alloc (Nat.le_refl _) (.cells #[.slice A ns.length c] 39)
  have HBK := Lib.hid (Blk.new w 39 #[.slice A ns.length c])
  have hsz0 : (w.alloc (.cells #[.slice A ns.length c] 39)).heap.size = w.heap.size + 1 := by simp
  have HA := Lib.hid (hA.below hbo hhi)
  have HD := Lib.hid hbo
  have HC := Lib.hid (specTreeOk_any ns (.agg #[.slice A ns.length c]) lo hi _ ⟨A, c, rfl, hA.below hbo hhi⟩ (by omega) hs)
  have HS := Lib.hid hs.2
  clear hA hbo hs
  cases hB : treB ns
  · rw [hB] at HC
    have HR := Lib.hid (show exportP ns = [] by unfold exportP; rw [hB]; rfl)
    have HR2 := Lib.hid (show exportC ns = 1 by unfold exportC; rw [hB]; rfl)
    rw [HR.out, HR2.out]
    clear hB
    go_enter Tryz.func12, Tryz.ntmps12
    go_wp2_with fail
    refine HC.out.mono ?_; rintro e1 w1 ⟨rfl, hb1⟩
    go_wp2_with fail
    go_ret2
    exact ⟨rfl, HD.out.trans (hb1.mono HD.out.size)⟩
  · rw [hB] at HC
    have HR := Lib.hid (show exportP ns = linesTo ns ns.length by unfold exportP; rw [hB]; rfl)
    have HR2 := Lib.hid (show exportC ns = 0 by unfold exportC; rw [hB]; rfl)
    rw [HR.out, HR2.out]
    have h120 := treB_len hB
    have HLN := Lib.hid (linesTo_len ns hB)
    have HNB := Lib.hid (fun k hk => treB_nod hB k hk)
    have HL0 := Lib.hid ((linesTo_zero ns).trans (head_bytes ns.length).symm)
    have HDC := Lib.hid (fun W => l21Dec_any ns.length (by omega) W)
    have hdz : (decT ns.length).size ≤ 3 := decT_size 2 ns.length (by omega)
    clear hB HR HR2
    go_enter Tryz.func12, Tryz.ntmps12
    go_wp2_with fail
    refine HC.out.mono ?_; rintro e1 w1 ⟨rfl, hb1⟩
    have hsz1 := hb1.size
    have B1 := HBK.out.below hb1 (by omega)
    have c1 := B1.cell
    have HB1 := Lib.hid B1
    have HBL := Lib.hid (HD.out.trans (hb1.mono HD.out.size))
    have HA1 := Lib.hid (HA.out.below hb1 (by omega))
    have hgt : w.heap.size < w1.heap.size := by omega
    clear hb1 B1 HC HBK HA
    generalize w.alloc (.cells #[.slice A ns.length c] 39) = w0 at *
    have HSZ0 := Lib.hid hsz0; clear hsz0
    go_wp2_with fail
    refine (HDC.out _).mono ?_; rintro e2 w2 ⟨rfl, hb2⟩
    obtain ⟨bv, w3, hcv, hown0, hb3⟩ := own_text w2 ((⟨#[110, 111, 100, 101, 115, 32]⟩ : ByteArray) ++ decT ns.length ++ (⟨#[10]⟩ : ByteArray)) (by rw [ByteArray.size_append, ByteArray.size_append]; show 6 + _ + 1 ≤ _; omega)
    rw [← HL0.out] at hown0
    have HO0 := Lib.hid (hown0.mono hb2.size)
    have HB3 := Lib.hid (hb2.trans (hb3.mono hb2.size))
    have c3 := (HB1.out.below HB3.out hgt).cell
    clear hown0 hb2 hb3 c1
    generalize decT ns.length = D at *
    go_wp2_with fail
    clear hcv
    go_loopw [4, 5] (fun v i wr => ∃ k : Nat, k ≤ ns.length ∧ i = .int .i64 k ∧ OwnB wr w1.heap.size v (linesTo ns k) ∧ Below w1.heap.size w1 wr) (fun _ i _ => ns.length - (intOf i).toNat)
    case atStart => exact ⟨0, Nat.zero_le _, rfl, HO0.out, HB3.out⟩
    case round =>
      clear c3
      obtain ⟨k, hk, rfl, hown, hbr⟩ := hrel
      have hlk := HLN.out k hk
      have hszr := hbr.size
      have HBR := Lib.hid hbr
      have hAr := HA1.out.below hbr (by omega)
      have c2 := (HB1.out.below hbr hgt).cell
      by_cases hlt : k < ns.length
      · obtain ⟨b, off, rfl, hbl, hbh, L1, d1, e0, e1, e2, hL⟩ := hAr.at_ hlt
        have i1 : (k : Int) < (ns.length : Int) := by omega
        have i0 : (0 : Int) ≤ (k : Int) := by omega
        have HN := Lib.hid (linesTo_succ ns k hlt)
        have hnb := HNB.out k hlt
        have HX := Lib.hid (HS.out _ (nod_mem (d := nodD) hlt))
        have hll := lineT_len _ hnb
        generalize ns.getD k nodD = X at *
        have HNL := Lib.hid (show Calls Tryz.prog 7 #[.agg #[.string X.name, .slice L1 X.subs.length d1, .string X.value]] wr fun e w' => e = .returned (.string ⟨(lineT X).toArray⟩) ∧ Below wr.heap.size wr w' by
          have := specNodeLine_any X _ lo hi wr ⟨L1, d1, rfl, hL⟩ (by omega) HX.out
          rw [show nodeLineP X = lineT X by unfold nodeLineP; rw [hnb]; rfl] at this
          exact this)
        clear hL hnb hbr
        generalize lineT X = T at *
        have hts : ((⟨T.toArray⟩ : ByteArray) ++ (⟨#[10]⟩ : ByteArray)).size ≤ 2001 := by
          rw [ByteArray.size_append]
          show T.toArray.size + 1 ≤ _
          rw [List.size_toArray]; omega
        have HTS := Lib.hid hts; clear hts
        have HTL := Lib.hid (show ((⟨T.toArray⟩ : ByteArray) ++ (⟨#[10]⟩ : ByteArray)).data.toList = T ++ [10] by
          rw [show (⟨#[10]⟩ : ByteArray) = ⟨([10] : List UInt8).toArray⟩ from rfl, mk_app])
        go_wp2_with fail
        refine HNL.out.mono ?_; rintro e5 w5 ⟨rfl, hb5⟩
        have hown2 := hown.below hb5
        have hs5 := hb5.size
        go_wp2_with (first
          | fail
          | (at_builtin; refine wpList_appT rfl (.tmp 23) (.tmp 30) rfl w5 w1.heap.size _ _ ((⟨T.toArray⟩ : ByteArray) ++ (⟨#[10]⟩ : ByteArray)) rfl hown2 rfl (by omega) (by have := HTS.out; omega) (by omega) ?_; intro v6 w6 hown6 hb6))
        go_roundw
        case rel => exact ⟨k + 1, by omega, by go_num, by rw [HN.out, ← HTL.out]; exact hown6, HBR.out.trans ((hb5.mono hszr).trans hb6)⟩
        case measure => simp [intOf]; omega
      · have i1 : ¬ (k : Int) < (ns.length : Int) := by omega
        obtain rfl : k = ns.length := by omega
        have hcv := text_own hown
        go_wp2_with fail
        go_ret2
        exact ⟨rfl, HBL.out.trans (HBR.out.mono HBL.out.size)⟩
end Go.Proofs.YtlhcljhfhkemiaaGreatDoor
