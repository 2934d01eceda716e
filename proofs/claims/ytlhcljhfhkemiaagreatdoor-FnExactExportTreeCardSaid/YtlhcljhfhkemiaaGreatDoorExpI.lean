/- The program's ExportTree walked; strings.Builder. -/
import Derived.Test.YtlhcljhfhkemiaaGreatDoorExpP
import Derived.Test.YtlhcljhfhkemiaaGreatDoorTreI
import Derived.Test.YtlhcljhfhkemiaaGreatDoorNodI
import Derived.Test.YtlhcljhfhkemiaaGreatDoorShelfB
import Derived.Shelf.Strings.BuilderK
namespace Go.Proofs.YtlhcljhfhkemiaaGreatDoor
open Go.RowKit

theorem isBuilder_below {T e : TypeId} {B b : Nat} {bs : List Value} {w w' : World} (h : Lib.IsBuilder T e B b bs w) (hb : Below w.heap.size w w') : Lib.IsBuilder T e B b bs w' := by
  have one : ∀ p, Lib.BuilderAt T e B b p bs w → Lib.BuilderAt T e B b p bs w' := by
    intro p hp
    have hlt := hp.lt
    obtain ⟨h1, v, h2, h3, h4⟩ := hp
    exact ⟨h1, v, (hb.block b hlt).trans h2, own_below h3 hb, h4⟩
  rcases h with h | h
  · exact .inl (one _ h)
  · exact .inr (one _ h)

theorem writeString_any (B b : Nat) (bs : List UInt8) (s : ByteArray) (w : World) (h : Lib.IsBuilder 58 5 B b (Lib.byteCells bs) w) (hlen : bs.length + s.size ≤ 140737488355328) (hBw : B ≤ w.heap.size) :
    Calls Tryz.prog 30 #[.pointer (some ⟨b, 0, none⟩), .string s] w fun e w' => e = .returned (.tuple #[.int .i64 s.size, .nilIface]) ∧ Lib.IsBuilder 58 5 B b (Lib.byteCells (bs ++ s.data.toList)) w' ∧ Below B w w' := by
  have H : Calls Tryz.prog 30 #[.pointer (some ⟨b, 0, none⟩), .string s] w fun e w' => e = .returned (.tuple #[.int .i64 s.size, .nilIface]) ∧ (Lib.BuilderAt 58 5 B b (.pointer (some ⟨b, 0, none⟩)) (Lib.byteCells bs ++ Lib.strCells s) w' ∧ Below B w w') :=
    Any.Builder_WriteString { Tryz.lays156 with } Tryz.Builder_Extra_156 B b (Lib.byteCells bs) s w h (by rw [Lib.byteCells_length]; exact hlen) hBw
  refine H.mono ?_
  rintro e w' ⟨h1, h2, h3⟩
  refine ⟨h1, .inr ?_, h3⟩
  rw [Lib.byteCells_append, ← Lib.strCells_eq]
  exact h2

set_option maxHeartbeats 8000000 in
set_option maxRecDepth 100000 in
theorem implExportTree_any (ns : List Nod) (v : Value) (lo hi : Nat) (w : World) (hx : TreR w lo hi v ns) (hhi : hi ≤ w.heap.size) (hs : NodsSmall ns) (hE : EnvIn w) :
    Calls Tryz.prog 14 #[v] w fun e w' => e = .returned (.tuple #[.string ⟨(exportP ns).toArray⟩, .int .i64 (exportC ns)]) ∧ Below w.heap.size w w' := by
  obtain ⟨A, c, rfl, hA⟩ := hx
  have hbo := (Below.refl w.heap.size w).alloc (Nat.le_refl _) (.cells #[.slice A ns.length c] 39)
  have HBK := Lib.hid (Blk.new w 39 #[.slice A ns.length c])
  have hsz0 : (w.alloc (.cells #[.slice A ns.length c] 39)).heap.size = w.heap.size + 1 := by simp
  have HA := Lib.hid (hA.below hbo hhi)
  have HD := Lib.hid hbo
  have HE := Lib.hid (hE.below hbo)
  have HC := Lib.hid (implTreeOk_any ns (.agg #[.slice A ns.length c]) lo hi _ ⟨A, c, rfl, hA.below hbo hhi⟩ (by omega) hs (hE.below hbo).1)
  have HS := Lib.hid hs.2
  clear hA hbo hs hE
  cases hB : treB ns
  · rw [hB] at HC
    have HR := Lib.hid (show exportP ns = [] by unfold exportP; rw [hB]; rfl)
    have HR2 := Lib.hid (show exportC ns = 1 by unfold exportC; rw [hB]; rfl)
    rw [HR.out, HR2.out]
    clear hB
    go_enter Tryz.func14, Tryz.ntmps14
    go_wp2_with fail
    refine HC.out.mono ?_; rintro e1 w1 ⟨rfl, hb1⟩
    go_wp2_with fail
    go_ret2
    exact ⟨rfl, HD.out.trans (hb1.mono HD.out.size)⟩
  · rw [hB] at HC
    have HR := Lib.hid (show exportP ns = linesTo ns ns.length by unfold exportP; rw [hB]; rfl)
    have HR2 := Lib.hid (show exportC ns = 0 by unfold exportC; rw [hB]; rfl)
    rw [HR.out, HR2.out]
    have h120 := treB_len hB
    have HLN := Lib.hid (linesTo_len ns hB)
    have HNB := Lib.hid (fun k hk => treB_nod hB k hk)
    have HL0 := Lib.hid ((linesTo_zero ns).trans (head_bytes ns.length).symm)
    have HDC := Lib.hid (fun W h => itoa_any ns.length (by omega) W h)
    have hdz : (decT ns.length).size ≤ 3 := decT_size 2 ns.length (by omega)
    clear hB HR HR2
    go_enter Tryz.func14, Tryz.ntmps14
    go_wp2_with fail
    refine HC.out.mono ?_; rintro e1 w1 ⟨rfl, hb1⟩
    have hsz1 := hb1.size
    have B1 := HBK.out.below hb1 (by omega)
    have HB1 := Lib.hid B1
    have HBL := Lib.hid (HD.out.trans (hb1.mono HD.out.size))
    have HA1 := Lib.hid (HA.out.below hb1 (by omega))
    have HE1 := Lib.hid (HE.out.below hb1)
    have hgt : w.heap.size < w1.heap.size := by omega
    clear hb1 B1 HC HBK HA HE
    generalize w.alloc (.cells #[.slice A ns.length c] 39) = w0 at *
    have HSZ0 := Lib.hid hsz0; clear hsz0
    have hba := (Below.refl w1.heap.size w1).alloc (Nat.le_refl _) (.cells #[.pointer none, .slice none 0 0] 58)
    have HIB := Lib.hid (Lib.fresh_isBuilder 58 5 w1)
    have c1 := (HB1.out.below hba hgt).cell
    have HBA := Lib.hid hba
    clear hba
    go_wp2_with fail
    refine (HDC.out _ (HE1.out.below HBA.out).1).mono ?_; rintro e2 w2 ⟨rfl, hb2⟩
    have HIB2 := Lib.hid (isBuilder_below HIB.out hb2)
    have HB2 := Lib.hid (HBA.out.trans (hb2.mono HBA.out.size))
    clear hb2 HIB c1
    have c2 := (HB1.out.below HB2.out hgt).cell
    go_wp2_with fail
    refine (writeString_any w1.heap.size w1.heap.size [] _ w2 HIB2.out (by rw [ByteArray.size_append, ByteArray.size_append]; show 0 + (6 + _ + 1) ≤ _; omega) HB2.out.size).mono ?_
    rintro e3 w3 ⟨rfl, hib3, hb3⟩
    rw [List.nil_append, ← HL0.out] at hib3
    have HIB3 := Lib.hid hib3
    have HB3 := Lib.hid (HB2.out.trans hb3)
    clear hib3 hb3 HIB2 c2
    have c3 := (HB1.out.below HB3.out hgt).cell
    generalize decT ns.length = D at *
    go_wp2_with fail
    go_loopw [20] (fun i wr => ∃ k : Nat, k ≤ ns.length ∧ i = .int .i64 k ∧ Lib.IsBuilder 58 5 w1.heap.size w1.heap.size (Lib.byteCells (linesTo ns k)) wr ∧ Below w1.heap.size w1 wr) (fun i _ => ns.length - (intOf i).toNat)
    case atStart => exact ⟨0, Nat.zero_le _, rfl, HIB3.out, HB3.out⟩
    case round =>
      clear c3
      obtain ⟨k, hk, rfl, hib, hbr⟩ := hrel
      have hlk := HLN.out k hk
      have hszr := hbr.size
      have HBR := Lib.hid hbr
      have hAr := HA1.out.below hbr (by omega)
      by_cases hlt : k < ns.length
      · obtain ⟨b, off, rfl, hbl, hbh, L1, d1, e0, e1, e2, hL⟩ := hAr.at_ hlt
        have i1 : (k : Int) < (ns.length : Int) := by omega
        have i0 : (0 : Int) ≤ (k : Int) := by omega
        have HN := Lib.hid (linesTo_succ ns k hlt)
        have hnb := HNB.out k hlt
        have hll := lineT_len _ hnb
        generalize ns.getD k nodD = X at *
        have HL := Lib.hid hL
        have HNB1 := Lib.hid hnb
        clear hL hnb hbr
        have HNL := Lib.hid (fun W (hb : Below wr.heap.size wr W) => nodeLine_any X (.agg #[.string X.name, .slice L1 X.subs.length d1, .string X.value]) lo hi W ⟨L1, d1, rfl, HL.out.below hb (by omega)⟩ (by have := hb.size; omega) HNB1.out (HE1.out.below (HBR.out.trans (hb.mono hszr))))
        generalize lineT X = T at *
        have HTS := Lib.hid (show ((⟨T.toArray⟩ : ByteArray) ++ (⟨#[10]⟩ : ByteArray)).size ≤ 2001 by
          rw [ByteArray.size_append]
          show T.toArray.size + 1 ≤ _
          rw [List.size_toArray]; omega)
        have HTL := Lib.hid (show ((⟨T.toArray⟩ : ByteArray) ++ (⟨#[10]⟩ : ByteArray)).data.toList = T ++ [10] by
          rw [show (⟨#[10]⟩ : ByteArray) = ⟨([10] : List UInt8).toArray⟩ from rfl, mk_app])
        go_wp2_with fail
        have BX := Blk.new wr 27 #[.string X.name, .slice L1 X.subs.length d1, .string X.value]
        have hba := (Below.refl wr.heap.size wr).alloc (Nat.le_refl _) (.cells #[.string X.name, .slice L1 X.subs.length d1, .string X.value] 27)
        generalize wr.alloc (.cells #[.string X.name, .slice L1 X.subs.length d1, .string X.value] 27) = wa at *
        refine (HNL.out _ hba).mono ?_; rintro e5 w5 ⟨rfl, hb5⟩
        have HIB5 := Lib.hid (isBuilder_below (isBuilder_below hib hba) hb5)
        have HB5 := Lib.hid (HBR.out.trans ((hba.trans (hb5.mono hba.size)).mono hszr))
        clear BX hba hb5 e0 e1 e2
        go_wp2_with fail
        refine (writeString_any w1.heap.size w1.heap.size (linesTo ns k) _ w5 HIB5.out (by have := HTS.out; omega) HB5.out.size).mono ?_
        rintro e6 w6 ⟨rfl, hib6, hb6⟩
        rw [HTL.out, ← HN.out] at hib6
        go_wp2_with fail
        go_roundw
        case rel => exact ⟨k + 1, by omega, by go_num, hib6, HB5.out.trans hb6⟩
        case measure => simp [intOf]; omega
      · have i1 : ¬ (k : Int) < (ns.length : Int) := by omega
        obtain rfl : k = ns.length := by omega
        have HST := Lib.hid (Tryz.Builder_String_any w1.heap.size w1.heap.size (linesTo ns ns.length) wr hib hszr)
        go_wp2_with fail
        refine HST.out.mono ?_; rintro e6 w6 ⟨rfl, hb6⟩
        go_wp2_with fail
        go_ret2
        exact ⟨rfl, HBL.out.trans ((HBR.out.trans hb6).mono HBL.out.size)⟩
end Go.Proofs.YtlhcljhfhkemiaaGreatDoor
