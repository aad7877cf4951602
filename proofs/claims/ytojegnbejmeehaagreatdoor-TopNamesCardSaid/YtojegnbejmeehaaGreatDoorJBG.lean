/- Helpers of the proof. -/
import Derived.Shelf.Sort.Plain
import Derived.Ground.Names2Prog
import Derived.Shelf.Slices.CompactI
import Derived.Shelf.Slices.In.SortNone
import Derived.Test.YtojegnbejmeehaaGreatDoorProg
import Derived.Test.YtojegnbejmeehaaGreatDoorJAA
namespace Go.Proofs
set_option maxRecDepth 10000
set_option maxHeartbeats 16000000
open Go.Shelf
def Tryz.lays189_ren:Go.Shelf.Ren:=⟨fun |189=>222|125=>256|257=>255|128=>285|129=>286|294=>276|295=>277|296=>278|297=>279|298=>280|299=>281|216=>282|300=>283|301=>284|328=>297|329=>298|330=>299|331=>300|332=>301|215=>302|343=>312|n=>n,fun |28=>41|3=>3|46=>173|0=>0|51=>321|53=>323|4=>4|183=>314|182=>313|131=>221|5=>5|9=>9|218=>334|222=>338|228=>345|229=>179|n=>n,fun |n=>n⟩
theorem Tryz.lays189:Go.Proofs.Lays.n189 Tryz.prog Tryz.lays189_ren:={
 mixed:=by kernel_rfl
 f125:=Tryz.func256.trans (congrArg some (by kernel_rfl))
 f128:=Tryz.func285.trans (congrArg some (by kernel_rfl))
 f129:=Tryz.func286.trans (congrArg some (by kernel_rfl))
 f189:=Tryz.func222.trans (congrArg some (by kernel_rfl))
 f215:=Tryz.func302.trans (congrArg some (by kernel_rfl))
 f216:=Tryz.func282.trans (congrArg some (by kernel_rfl))
 f257:=Tryz.func255.trans (congrArg some (by kernel_rfl))
 f294:=Tryz.func276.trans (congrArg some (by kernel_rfl))
 f295:=Tryz.func277.trans (congrArg some (by kernel_rfl))
 f296:=Tryz.func278.trans (congrArg some (by kernel_rfl))
 f297:=Tryz.func279.trans (congrArg some (by kernel_rfl))
 f298:=Tryz.func280.trans (congrArg some (by kernel_rfl))
 f299:=Tryz.func281.trans (congrArg some (by kernel_rfl))
 f300:=Tryz.func283.trans (congrArg some (by kernel_rfl))
 f301:=Tryz.func284.trans (congrArg some (by kernel_rfl))
 f328:=Tryz.func297.trans (congrArg some (by kernel_rfl))
 f329:=Tryz.func298.trans (congrArg some (by kernel_rfl))
 f330:=Tryz.func299.trans (congrArg some (by kernel_rfl))
 f331:=Tryz.func300.trans (congrArg some (by kernel_rfl))
 f332:=Tryz.func301.trans (congrArg some (by kernel_rfl))
 f343:=Tryz.func312.trans (congrArg some (by kernel_rfl))
 t0:=Tryz.underlying0
 a0:=Tryz.isAgg0
 z0:=Tryz.sizeOf0
 v0:=Tryz.zeroValue0
 t3:=Tryz.underlying3
 a3:=Tryz.isAgg3
 z3:=Tryz.sizeOf3
 v3:=Tryz.zeroValue3
 t4:=Tryz.underlying4
 a4:=Tryz.isAgg4
 z4:=Tryz.sizeOf4
 v4:=Tryz.zeroValue4
 t5:=Tryz.underlying5
 a5:=Tryz.isAgg5
 z5:=Tryz.sizeOf5
 v5:=Tryz.zeroValue5
 t9:=Tryz.underlying9
 a9:=Tryz.isAgg9
 z9:=Tryz.sizeOf9
 v9:=Tryz.zeroValue9
 t28:=Tryz.underlying41
 a28:=Tryz.isAgg41
 z28:=Tryz.sizeOf41
 v28:=Tryz.zeroValue41
 t46:=Tryz.underlying173
 a46:=Tryz.isAgg173
 z46:=Tryz.sizeOf173
 v46:=Tryz.zeroValue173
 t51:=Tryz.underlying321
 a51:=Tryz.isAgg321
 z51:=Tryz.sizeOf321
 v51:=Tryz.zeroValue321
 t53:=Tryz.underlying323
 a53:=Tryz.isAgg323
 z53:=Tryz.sizeOf323
 v53:=Tryz.zeroValue323
 t131:=Tryz.underlying221
 a131:=Tryz.isAgg221
 z131:=Tryz.sizeOf221
 v131:=Tryz.zeroValue221
 t182:=Tryz.underlying313
 a182:=Tryz.isAgg313
 z182:=Tryz.sizeOf313
 v182:=Tryz.zeroValue313
 t183:=Tryz.underlying314
 a183:=Tryz.isAgg314
 z183:=Tryz.sizeOf314
 v183:=Tryz.zeroValue314
 t218:=Tryz.underlying334
 a218:=Tryz.isAgg334
 z218:=Tryz.sizeOf334
 v218:=Tryz.zeroValue334
 t222:=Tryz.underlying338
 a222:=Tryz.isAgg338
 z222:=Tryz.sizeOf338
 v222:=Tryz.zeroValue338
 t228:=Tryz.underlying345
 a228:=Tryz.isAgg345
 z228:=Tryz.sizeOf345
 v228:=Tryz.zeroValue345
 t229:=Tryz.underlying179
 a229:=Tryz.isAgg179
 z229:=Tryz.sizeOf179
 v229:=Tryz.zeroValue179}
open Go.Sort Go.RowKit in
theorem Tryz.slices_Sort_int (blk off cap:Nat) (zs:List Int) (w:World) (hH:Holds (Value.int .i64) w blk off zs.toArray) (hblk:blk<w.heap.size) (hsz:zs.length<4611686018427387904):
 Calls Tryz.prog 222 #[.slice (some ⟨blk,off,none⟩) zs.length cap] w fun e w'=>
  e=.returned (.tuple #[])∧∃n os,w'=grow (putRow (Value.int .i64) (Sort.ahead w n) blk off (zs.mergeSort fun x y=>decide (x≤y)).toArray) os:=Any.slices_Sort_int Tryz.lays189 blk off cap zs w hH hblk hsz
def Tryz.laysNm220_ren:Go.Shelf.Ren:=⟨fun |20=>235|n=>n,fun |22=>41|3=>3|4=>4|0=>0|n=>n,fun |n=>n⟩
theorem Tryz.laysNm220:Go.Proofs.Lays2.n20 Tryz.prog Tryz.laysNm220_ren:={
 mixed:=by kernel_rfl
 f20:=Tryz.func235.trans (congrArg some (by kernel_rfl))
 t0:=Tryz.underlying0
 a0:=Tryz.isAgg0
 z0:=Tryz.sizeOf0
 v0:=Tryz.zeroValue0
 t3:=Tryz.underlying3
 a3:=Tryz.isAgg3
 z3:=Tryz.sizeOf3
 v3:=Tryz.zeroValue3
 t4:=Tryz.underlying4
 a4:=Tryz.isAgg4
 z4:=Tryz.sizeOf4
 v4:=Tryz.zeroValue4
 t22:=Tryz.underlying41
 a22:=Tryz.isAgg41
 z22:=Tryz.sizeOf41
 v22:=Tryz.zeroValue41
 i3:=by kernel_rfl}
open Go.RowKit Go.Lib Go.Sort in
theorem Tryz.slices_Compact_int (blk off cap:Nat) (zs:List Int) (w:World) (hH:Holds (Value.int .i64) w blk off zs.toArray) (hsz:zs.length≤9223372036854775807) (hcap:zs.length≤cap):
 Calls Tryz.prog 235 #[.slice (some ⟨blk,off,none⟩) zs.length cap] w fun e w'=>e=.returned (.slice (some ⟨blk,off,none⟩) (Lib.compact zs).length cap)∧∃q,w'=putRow (Value.int .i64) (Sort.ahead w q) blk off (Lib.compact zs++List.replicate (zs.length -(Lib.compact zs).length) 0).toArray:=Any.slices_Compact_int Tryz.laysNm220 blk off cap zs w hH hsz hcap
open Go.RowKit Go.Sort in
theorem Tryz.slices_Sort_int_none (p:Option Addr) (cap:Nat) (w:World):
 Calls Tryz.prog 222 #[.slice p 0 cap] w fun e w'=>e=.returned (.tuple #[])∧w'=w:=Any.slices_Sort_int_none Tryz.lays189 p cap w
end Go.Proofs
