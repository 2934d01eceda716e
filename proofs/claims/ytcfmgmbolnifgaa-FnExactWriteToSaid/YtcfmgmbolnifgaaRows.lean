/-
  No cell of these rows narrows 'for every input' (looked for: loops, veiled, ifaces, maps, wideKeys, modest, calm, conditions, laid).
  DERIVED. THE GIVEN ROWS OF THIS SEAT. 10 by the template 'for every input the law returns true; each argument reads behind the call as it read before'; 0 by the template 'total and deterministic' (their statements: YtcfmgmbolnifgaaTotals.lean).
  GIVEN WITH THE SEED: the statements are not yours to turn. If you find one false, say at which input.
  Laid BY PROGRAM, IN A SANDBOX (cutbox-rows.mjs): the forced cells as the released guide's own fill.sh prints them over the translation a5c86839370a9a5e… (all of the seat's roots in one cut). By AI agents, Wed Nov 11 2026. No macro, syntax, notation, axiom, sorry.
-/
import Derived.Test.YtcfmgmbolnifgaaChecked
import GoSem.Claim
import GoSem.ClaimJoined
import GoSem.ClaimMapViews
import Derived.JoinedTies
import Derived.KernelRfl
namespace Go.Proofs.Ytcfmgmbolnifgaa
/- THE CELL 'sum', in the pinned program and in every row, IS THE sha256 OF THE DUMP (.gsa) THAT YtcfmgmbolnifgaaProg.lean LOADS. Nothing in Lean hashes anything: it is a label: what it is worth is what the hold of that sum in a sandbox is worth. -/
noncomputable def Try.pinned : Pinned := { name := "ytcfmgmbolnifgaa", sum := "a5c86839370a9a5eff9a511b7b49e50f3d4cfa41b68026a18b16180fefd8960e", checked := Try.checked }
namespace Rows
def none {H : Type} : Left H := { results := [], args := [] }

/-- 'laws.FnExactLineWords': WHATEVER THE INPUT: true; the input reads as it did. -/
def fnExactLineWordsSpec : ChangeSpec := { name := "fnExactLineWords", fn := fun _ => fun
  | [d] => { results := [.lit (.bool true)], args := [d] }
  | _ => none }
def fnExactLineWordsRow : OpenClaim := { program := "ytcfmgmbolnifgaa", sum := "a5c86839370a9a5eff9a511b7b49e50f3d4cfa41b68026a18b16180fefd8960e", func := "loop.example/g00874/laws.FnExactLineWords", spec := "fnExactLineWords", unfollowed := true, recurses := true, apart := false }
def FnExactLineWordsSaid : Prop := fnExactLineWordsRow.holds Try.pinned (OpenSpec.ofChange fnExactLineWordsSpec)

/-- ITS FALSE NEIGHBOUR: 'it returns false'. Refute it at one input. -/
def fnExactLineWordsWrong : ChangeSpec := { name := "fnExactLineWords", fn := fun _ => fun
  | [d] => { results := [.lit (.bool false)], args := [d] }
  | _ => none }
def FnExactLineWordsWrongFalsely : Prop := fnExactLineWordsRow.holds Try.pinned (OpenSpec.ofChange fnExactLineWordsWrong)

/-- 'laws.FnExactSiteActOk': WHATEVER THE INPUT: true; the input reads as it did. -/
def fnExactSiteActOkSpec : ChangeSpec := { name := "fnExactSiteActOk", fn := fun _ => fun
  | [d] => { results := [.lit (.bool true)], args := [d] }
  | _ => none }
def fnExactSiteActOkRow : OpenClaim := { program := "ytcfmgmbolnifgaa", sum := "a5c86839370a9a5eff9a511b7b49e50f3d4cfa41b68026a18b16180fefd8960e", func := "loop.example/g00874/laws.FnExactSiteActOk", spec := "fnExactSiteActOk", unfollowed := true, recurses := true, apart := false }
def FnExactSiteActOkSaid : Prop := fnExactSiteActOkRow.holds Try.pinned (OpenSpec.ofChange fnExactSiteActOkSpec)

/-- ITS FALSE NEIGHBOUR: 'it returns false'. Refute it at one input. -/
def fnExactSiteActOkWrong : ChangeSpec := { name := "fnExactSiteActOk", fn := fun _ => fun
  | [d] => { results := [.lit (.bool false)], args := [d] }
  | _ => none }
def FnExactSiteActOkWrongFalsely : Prop := fnExactSiteActOkRow.holds Try.pinned (OpenSpec.ofChange fnExactSiteActOkWrong)

/-- 'laws.FnExactSitesActOk': WHATEVER THE INPUT: true; the input reads as it did. -/
def fnExactSitesActOkSpec : ChangeSpec := { name := "fnExactSitesActOk", fn := fun _ => fun
  | [d] => { results := [.lit (.bool true)], args := [d] }
  | _ => none }
def fnExactSitesActOkRow : OpenClaim := { program := "ytcfmgmbolnifgaa", sum := "a5c86839370a9a5eff9a511b7b49e50f3d4cfa41b68026a18b16180fefd8960e", func := "loop.example/g00874/laws.FnExactSitesActOk", spec := "fnExactSitesActOk", unfollowed := true, recurses := true, apart := false }
def FnExactSitesActOkSaid : Prop := fnExactSitesActOkRow.holds Try.pinned (OpenSpec.ofChange fnExactSitesActOkSpec)

/-- ITS FALSE NEIGHBOUR: 'it returns false'. Refute it at one input. -/
def fnExactSitesActOkWrong : ChangeSpec := { name := "fnExactSitesActOk", fn := fun _ => fun
  | [d] => { results := [.lit (.bool false)], args := [d] }
  | _ => none }
def FnExactSitesActOkWrongFalsely : Prop := fnExactSitesActOkRow.holds Try.pinned (OpenSpec.ofChange fnExactSitesActOkWrong)

/-- 'laws.FnExactTabTo': WHATEVER THE INPUT: true; the input reads as it did. -/
def fnExactTabToSpec : ChangeSpec := { name := "fnExactTabTo", fn := fun _ => fun
  | [d1, d2] => { results := [.lit (.bool true)], args := [d1, d2] }
  | _ => none }
def fnExactTabToRow : OpenClaim := { program := "ytcfmgmbolnifgaa", sum := "a5c86839370a9a5eff9a511b7b49e50f3d4cfa41b68026a18b16180fefd8960e", func := "loop.example/g00874/laws.FnExactTabTo", spec := "fnExactTabTo", inPlace := ["internal/abi.NoEscape", "internal/bytealg.MakeNoZero"], unfollowed := true, recurses := true, apart := false }
def FnExactTabToSaid : Prop := fnExactTabToRow.holds Try.pinned (OpenSpec.ofChange fnExactTabToSpec)

/-- ITS FALSE NEIGHBOUR: 'it returns false'. Refute it at one input. -/
def fnExactTabToWrong : ChangeSpec := { name := "fnExactTabTo", fn := fun _ => fun
  | [d1, d2] => { results := [.lit (.bool false)], args := [d1, d2] }
  | _ => none }
def FnExactTabToWrongFalsely : Prop := fnExactTabToRow.holds Try.pinned (OpenSpec.ofChange fnExactTabToWrong)

/-- 'laws.FnExactDevicesOk': WHATEVER THE INPUT: true; the input reads as it did. -/
def fnExactDevicesOkSpec : ChangeSpec := { name := "fnExactDevicesOk", fn := fun _ => fun
  | [d] => { results := [.lit (.bool true)], args := [d] }
  | _ => none }
def fnExactDevicesOkRow : OpenClaim := { program := "ytcfmgmbolnifgaa", sum := "a5c86839370a9a5eff9a511b7b49e50f3d4cfa41b68026a18b16180fefd8960e", func := "loop.example/g00874/laws.FnExactDevicesOk", spec := "fnExactDevicesOk", inPlace := ["internal/bytealg.IndexByteString", "internal/bytealg.IndexString"], unfollowed := true, recurses := true, named := ["internal/bytealg.MaxLen"], apart := false }
def FnExactDevicesOkSaid : Prop := fnExactDevicesOkRow.holds Try.pinned (OpenSpec.ofChange fnExactDevicesOkSpec)

/-- ITS FALSE NEIGHBOUR: 'it returns false'. Refute it at one input. -/
def fnExactDevicesOkWrong : ChangeSpec := { name := "fnExactDevicesOk", fn := fun _ => fun
  | [d] => { results := [.lit (.bool false)], args := [d] }
  | _ => none }
def FnExactDevicesOkWrongFalsely : Prop := fnExactDevicesOkRow.holds Try.pinned (OpenSpec.ofChange fnExactDevicesOkWrong)

/-- 'laws.FnExactNewDevices': WHATEVER THE INPUT: true; the input reads as it did. -/
def fnExactNewDevicesSpec : ChangeSpec := { name := "fnExactNewDevices", fn := fun _ => fun
  | [d] => { results := [.lit (.bool true)], args := [d] }
  | _ => none }
def fnExactNewDevicesRow : OpenClaim := { program := "ytcfmgmbolnifgaa", sum := "a5c86839370a9a5eff9a511b7b49e50f3d4cfa41b68026a18b16180fefd8960e", func := "loop.example/g00874/laws.FnExactNewDevices", spec := "fnExactNewDevices", inPlace := ["internal/abi.NoEscape", "internal/bytealg.MakeNoZero"], unfollowed := true, recurses := true, apart := false }
def FnExactNewDevicesSaid : Prop := fnExactNewDevicesRow.holds Try.pinned (OpenSpec.ofChange fnExactNewDevicesSpec)

/-- ITS FALSE NEIGHBOUR: 'it returns false'. Refute it at one input. -/
def fnExactNewDevicesWrong : ChangeSpec := { name := "fnExactNewDevices", fn := fun _ => fun
  | [d] => { results := [.lit (.bool false)], args := [d] }
  | _ => none }
def FnExactNewDevicesWrongFalsely : Prop := fnExactNewDevicesRow.holds Try.pinned (OpenSpec.ofChange fnExactNewDevicesWrong)

/-- 'laws.FnExactShowOn': WHATEVER THE INPUT: true; the input reads as it did. -/
def fnExactShowOnSpec : ChangeSpec := { name := "fnExactShowOn", fn := fun _ => fun
  | [d1, d2] => { results := [.lit (.bool true)], args := [d1, d2] }
  | _ => none }
def fnExactShowOnRow : OpenClaim := { program := "ytcfmgmbolnifgaa", sum := "a5c86839370a9a5eff9a511b7b49e50f3d4cfa41b68026a18b16180fefd8960e", func := "loop.example/g00874/laws.FnExactShowOn", spec := "fnExactShowOn", inPlace := ["internal/abi.NoEscape", "internal/bytealg.MakeNoZero"], unfollowed := true, recurses := true, apart := false }
def FnExactShowOnSaid : Prop := fnExactShowOnRow.holds Try.pinned (OpenSpec.ofChange fnExactShowOnSpec)

/-- ITS FALSE NEIGHBOUR: 'it returns false'. Refute it at one input. -/
def fnExactShowOnWrong : ChangeSpec := { name := "fnExactShowOn", fn := fun _ => fun
  | [d1, d2] => { results := [.lit (.bool false)], args := [d1, d2] }
  | _ => none }
def FnExactShowOnWrongFalsely : Prop := fnExactShowOnRow.holds Try.pinned (OpenSpec.ofChange fnExactShowOnWrong)

/-- 'laws.FnExactCloseFile': WHATEVER THE INPUT: true; the input reads as it did. -/
def fnExactCloseFileSpec : ChangeSpec := { name := "fnExactCloseFile", fn := fun _ => fun
  | [d1, d2] => { results := [.lit (.bool true)], args := [d1, d2] }
  | _ => none }
def fnExactCloseFileRow : OpenClaim := { program := "ytcfmgmbolnifgaa", sum := "a5c86839370a9a5eff9a511b7b49e50f3d4cfa41b68026a18b16180fefd8960e", func := "loop.example/g00874/laws.FnExactCloseFile", spec := "fnExactCloseFile", inPlace := ["internal/bytealg.IndexByteString", "internal/bytealg.IndexString", "internal/bytealg.abigen_runtime_cmpstring"], unfollowed := true, recurses := true, named := ["internal/bytealg.MaxLen"], apart := false }
def FnExactCloseFileSaid : Prop := fnExactCloseFileRow.holds Try.pinned (OpenSpec.ofChange fnExactCloseFileSpec)

/-- ITS FALSE NEIGHBOUR: 'it returns false'. Refute it at one input. -/
def fnExactCloseFileWrong : ChangeSpec := { name := "fnExactCloseFile", fn := fun _ => fun
  | [d1, d2] => { results := [.lit (.bool false)], args := [d1, d2] }
  | _ => none }
def FnExactCloseFileWrongFalsely : Prop := fnExactCloseFileRow.holds Try.pinned (OpenSpec.ofChange fnExactCloseFileWrong)

/-- 'laws.FnExactUseDevice': WHATEVER THE INPUT: true; the input reads as it did. -/
def fnExactUseDeviceSpec : ChangeSpec := { name := "fnExactUseDevice", fn := fun _ => fun
  | [d1, d2] => { results := [.lit (.bool true)], args := [d1, d2] }
  | _ => none }
def fnExactUseDeviceRow : OpenClaim := { program := "ytcfmgmbolnifgaa", sum := "a5c86839370a9a5eff9a511b7b49e50f3d4cfa41b68026a18b16180fefd8960e", func := "loop.example/g00874/laws.FnExactUseDevice", spec := "fnExactUseDevice", inPlace := ["internal/bytealg.IndexByteString", "internal/bytealg.IndexString", "internal/bytealg.abigen_runtime_cmpstring", "slices.overlaps[loop.example/g00874/impl.File]"], unfollowed := true, recurses := true, named := ["internal/bytealg.MaxLen"], apart := false }
def FnExactUseDeviceSaid : Prop := fnExactUseDeviceRow.holds Try.pinned (OpenSpec.ofChange fnExactUseDeviceSpec)

/-- ITS FALSE NEIGHBOUR: 'it returns false'. Refute it at one input. -/
def fnExactUseDeviceWrong : ChangeSpec := { name := "fnExactUseDevice", fn := fun _ => fun
  | [d1, d2] => { results := [.lit (.bool false)], args := [d1, d2] }
  | _ => none }
def FnExactUseDeviceWrongFalsely : Prop := fnExactUseDeviceRow.holds Try.pinned (OpenSpec.ofChange fnExactUseDeviceWrong)

/-- 'laws.FnExactWriteTo': WHATEVER THE INPUT: true; the input reads as it did. -/
def fnExactWriteToSpec : ChangeSpec := { name := "fnExactWriteTo", fn := fun _ => fun
  | [d1, d2] => { results := [.lit (.bool true)], args := [d1, d2] }
  | _ => none }
def fnExactWriteToRow : OpenClaim := { program := "ytcfmgmbolnifgaa", sum := "a5c86839370a9a5eff9a511b7b49e50f3d4cfa41b68026a18b16180fefd8960e", func := "loop.example/g00874/laws.FnExactWriteTo", spec := "fnExactWriteTo", inPlace := ["internal/bytealg.IndexByteString", "internal/bytealg.IndexString", "internal/abi.NoEscape", "internal/bytealg.MakeNoZero"], unfollowed := true, recurses := true, named := ["internal/bytealg.MaxLen"], apart := false }
def FnExactWriteToSaid : Prop := fnExactWriteToRow.holds Try.pinned (OpenSpec.ofChange fnExactWriteToSpec)

/-- ITS FALSE NEIGHBOUR: 'it returns false'. Refute it at one input. -/
def fnExactWriteToWrong : ChangeSpec := { name := "fnExactWriteTo", fn := fun _ => fun
  | [d1, d2] => { results := [.lit (.bool false)], args := [d1, d2] }
  | _ => none }
def FnExactWriteToWrongFalsely : Prop := fnExactWriteToRow.holds Try.pinned (OpenSpec.ofChange fnExactWriteToWrong)

/- THE SECOND FORM. 'bulk': how many values and letters a reading holds, each counted each time it is reached (what is shared counts as often as it is met; a slice's spare places count too). A statement '..UptoSaid' is the law's where the arguments, and the package variables that the reading takes, are together of bulk at most 1048576: NARROWER than '..Said'. Prove '..Said' where nothing that the law and all that it calls make is longer than what came in: it says more and counts as full. Else prove '..UptoSaid'. A law counts once. -/
mutual
def uptoBulk {H : Type} : DataW H → Nat
  | .lit (.string bytes) => bytes.length + 1
  | .lit _ => 1
  | .nil => 1
  | .ptr d => uptoBulk d + 1
  | .slice elems spare => uptoBulkAll elems + uptoBulkAll spare + 1
  | .agg parts => uptoBulkAll parts + 1
  | .iface _ d => uptoBulk d + 1
  | .map entries => uptoBulkEntries entries + 1
  | .held _ => 1
def uptoBulkAll {H : Type} : List (DataW H) → Nat
  | [] => 0
  | d :: r => uptoBulk d + uptoBulkAll r
def uptoBulkEntries {H : Type} : List (Lit × DataW H) → Nat
  | [] => 0
  | x :: r => uptoBulkEntry x + uptoBulkEntries r
def uptoBulkEntry {H : Type} : Lit × DataW H → Nat
  | (.string bytes, d) => bytes.length + uptoBulk d + 1
  | (_, d) => uptoBulk d + 1
 end
def uptoSmall : (H : Type) → List (DataW H) → Bool := fun _ ds => decide (uptoBulkAll ds ≤ 1048576)
def OpenSpec.upto (s : _root_.Go.ChangeSpec) : _root_.Go.OpenSpec := { _root_.Go.OpenSpec.ofChange s with cond := some uptoSmall }

/-- 'laws.FnExactLineWords', WHERE WHAT IT READS IS OF BULK AT MOST 1048576: true; the input reads as it did. -/
def fnExactLineWordsUptoRow : OpenClaim := { program := "ytcfmgmbolnifgaa", sum := "a5c86839370a9a5eff9a511b7b49e50f3d4cfa41b68026a18b16180fefd8960e", func := "loop.example/g00874/laws.FnExactLineWords", spec := "fnExactLineWords", unfollowed := true, recurses := true, apart := false, narrowed := true }
def FnExactLineWordsUptoSaid : Prop := fnExactLineWordsUptoRow.holds Try.pinned (OpenSpec.upto fnExactLineWordsSpec)

/-- 'laws.FnExactSiteActOk', WHERE WHAT IT READS IS OF BULK AT MOST 1048576: true; the input reads as it did. -/
def fnExactSiteActOkUptoRow : OpenClaim := { program := "ytcfmgmbolnifgaa", sum := "a5c86839370a9a5eff9a511b7b49e50f3d4cfa41b68026a18b16180fefd8960e", func := "loop.example/g00874/laws.FnExactSiteActOk", spec := "fnExactSiteActOk", unfollowed := true, recurses := true, apart := false, narrowed := true }
def FnExactSiteActOkUptoSaid : Prop := fnExactSiteActOkUptoRow.holds Try.pinned (OpenSpec.upto fnExactSiteActOkSpec)

/-- 'laws.FnExactSitesActOk', WHERE WHAT IT READS IS OF BULK AT MOST 1048576: true; the input reads as it did. -/
def fnExactSitesActOkUptoRow : OpenClaim := { program := "ytcfmgmbolnifgaa", sum := "a5c86839370a9a5eff9a511b7b49e50f3d4cfa41b68026a18b16180fefd8960e", func := "loop.example/g00874/laws.FnExactSitesActOk", spec := "fnExactSitesActOk", unfollowed := true, recurses := true, apart := false, narrowed := true }
def FnExactSitesActOkUptoSaid : Prop := fnExactSitesActOkUptoRow.holds Try.pinned (OpenSpec.upto fnExactSitesActOkSpec)

/-- 'laws.FnExactTabTo', WHERE WHAT IT READS IS OF BULK AT MOST 1048576: true; the input reads as it did. -/
def fnExactTabToUptoRow : OpenClaim := { program := "ytcfmgmbolnifgaa", sum := "a5c86839370a9a5eff9a511b7b49e50f3d4cfa41b68026a18b16180fefd8960e", func := "loop.example/g00874/laws.FnExactTabTo", spec := "fnExactTabTo", inPlace := ["internal/abi.NoEscape", "internal/bytealg.MakeNoZero"], unfollowed := true, recurses := true, apart := false, narrowed := true }
def FnExactTabToUptoSaid : Prop := fnExactTabToUptoRow.holds Try.pinned (OpenSpec.upto fnExactTabToSpec)

/-- 'laws.FnExactDevicesOk', WHERE WHAT IT READS IS OF BULK AT MOST 1048576: true; the input reads as it did. -/
def fnExactDevicesOkUptoRow : OpenClaim := { program := "ytcfmgmbolnifgaa", sum := "a5c86839370a9a5eff9a511b7b49e50f3d4cfa41b68026a18b16180fefd8960e", func := "loop.example/g00874/laws.FnExactDevicesOk", spec := "fnExactDevicesOk", inPlace := ["internal/bytealg.IndexByteString", "internal/bytealg.IndexString"], unfollowed := true, recurses := true, named := ["internal/bytealg.MaxLen"], apart := false, narrowed := true }
def FnExactDevicesOkUptoSaid : Prop := fnExactDevicesOkUptoRow.holds Try.pinned (OpenSpec.upto fnExactDevicesOkSpec)

/-- 'laws.FnExactNewDevices', WHERE WHAT IT READS IS OF BULK AT MOST 1048576: true; the input reads as it did. -/
def fnExactNewDevicesUptoRow : OpenClaim := { program := "ytcfmgmbolnifgaa", sum := "a5c86839370a9a5eff9a511b7b49e50f3d4cfa41b68026a18b16180fefd8960e", func := "loop.example/g00874/laws.FnExactNewDevices", spec := "fnExactNewDevices", inPlace := ["internal/abi.NoEscape", "internal/bytealg.MakeNoZero"], unfollowed := true, recurses := true, apart := false, narrowed := true }
def FnExactNewDevicesUptoSaid : Prop := fnExactNewDevicesUptoRow.holds Try.pinned (OpenSpec.upto fnExactNewDevicesSpec)

/-- 'laws.FnExactShowOn', WHERE WHAT IT READS IS OF BULK AT MOST 1048576: true; the input reads as it did. -/
def fnExactShowOnUptoRow : OpenClaim := { program := "ytcfmgmbolnifgaa", sum := "a5c86839370a9a5eff9a511b7b49e50f3d4cfa41b68026a18b16180fefd8960e", func := "loop.example/g00874/laws.FnExactShowOn", spec := "fnExactShowOn", inPlace := ["internal/abi.NoEscape", "internal/bytealg.MakeNoZero"], unfollowed := true, recurses := true, apart := false, narrowed := true }
def FnExactShowOnUptoSaid : Prop := fnExactShowOnUptoRow.holds Try.pinned (OpenSpec.upto fnExactShowOnSpec)

/-- 'laws.FnExactCloseFile', WHERE WHAT IT READS IS OF BULK AT MOST 1048576: true; the input reads as it did. -/
def fnExactCloseFileUptoRow : OpenClaim := { program := "ytcfmgmbolnifgaa", sum := "a5c86839370a9a5eff9a511b7b49e50f3d4cfa41b68026a18b16180fefd8960e", func := "loop.example/g00874/laws.FnExactCloseFile", spec := "fnExactCloseFile", inPlace := ["internal/bytealg.IndexByteString", "internal/bytealg.IndexString", "internal/bytealg.abigen_runtime_cmpstring"], unfollowed := true, recurses := true, named := ["internal/bytealg.MaxLen"], apart := false, narrowed := true }
def FnExactCloseFileUptoSaid : Prop := fnExactCloseFileUptoRow.holds Try.pinned (OpenSpec.upto fnExactCloseFileSpec)

/-- 'laws.FnExactUseDevice', WHERE WHAT IT READS IS OF BULK AT MOST 1048576: true; the input reads as it did. -/
def fnExactUseDeviceUptoRow : OpenClaim := { program := "ytcfmgmbolnifgaa", sum := "a5c86839370a9a5eff9a511b7b49e50f3d4cfa41b68026a18b16180fefd8960e", func := "loop.example/g00874/laws.FnExactUseDevice", spec := "fnExactUseDevice", inPlace := ["internal/bytealg.IndexByteString", "internal/bytealg.IndexString", "internal/bytealg.abigen_runtime_cmpstring", "slices.overlaps[loop.example/g00874/impl.File]"], unfollowed := true, recurses := true, named := ["internal/bytealg.MaxLen"], apart := false, narrowed := true }
def FnExactUseDeviceUptoSaid : Prop := fnExactUseDeviceUptoRow.holds Try.pinned (OpenSpec.upto fnExactUseDeviceSpec)

/-- 'laws.FnExactWriteTo', WHERE WHAT IT READS IS OF BULK AT MOST 1048576: true; the input reads as it did. -/
def fnExactWriteToUptoRow : OpenClaim := { program := "ytcfmgmbolnifgaa", sum := "a5c86839370a9a5eff9a511b7b49e50f3d4cfa41b68026a18b16180fefd8960e", func := "loop.example/g00874/laws.FnExactWriteTo", spec := "fnExactWriteTo", inPlace := ["internal/bytealg.IndexByteString", "internal/bytealg.IndexString", "internal/abi.NoEscape", "internal/bytealg.MakeNoZero"], unfollowed := true, recurses := true, named := ["internal/bytealg.MaxLen"], apart := false, narrowed := true }
def FnExactWriteToUptoSaid : Prop := fnExactWriteToUptoRow.holds Try.pinned (OpenSpec.upto fnExactWriteToSpec)

end Rows
end Go.Proofs.Ytcfmgmbolnifgaa
