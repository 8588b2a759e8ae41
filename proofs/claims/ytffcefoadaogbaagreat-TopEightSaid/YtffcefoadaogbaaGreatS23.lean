/- A part of the proof. -/
import Derived.Test.YtffcefoadaogbaaGreatS1
import Derived.Shelf.SlIterI.Nil
import Derived.Shelf.SlIterI.Sorted
import Derived.Shelf.SortM.Plain
import Derived.Shelf.SortM.SortNone
import Derived.Ground.GgzProg
import Derived.Ground.SlgmProg
namespace Go.Proofs.YtffcefoadaogbaaGreat
open Go.RowKit
open Go.Proofs.Tryz
set_option linter.unusedVariables false
set_option maxRecDepth 100000
set_option maxHeartbeats 16000000
open Go.Shelf
def Tryz.Jn:Go.Shelf.Ren:=⟨fun|7=>158|10=>185|n=>n,fun|23=>221|26=>110|3=>215|28=>282|0=>0|27=>281|33=>169|4=>4|n=>n,fun|n=>n⟩
theorem Tryz.adQ:Go.Proofs.SlLaysZI.n7 prog Tryz.Jn:={
 mixed:=ey
 f7:=⟨Tryz.f158.name,Γ,func158.trans (congrArg some ey)⟩
 f10:=⟨Tryz.f185.name,Γ,func185.trans (congrArg some ey)⟩
 t0:=underlying0
 a0:=Tryz.isAgg0
 z0:=Tryz.sizeOf0
 v0:=Tryz.zeroValue0
 t4:=underlying4
 a4:=Tryz.isAgg4
 z4:=Tryz.sizeOf4
 v4:=Tryz.zeroValue4
 t23:=underlying221
 a23:=Tryz.isAgg221
 z23:=Tryz.sizeOf221
 v23:=Tryz.zeroValue221
 t26:=underlying110
 a26:=Tryz.isAgg110
 z26:=Tryz.sizeOf110
 v26:=Tryz.zeroValue110
 t27:=underlying281
 a27:=Tryz.isAgg281
 z27:=Tryz.sizeOf281
 v27:=Tryz.zeroValue281
 t28:=underlying282
 a28:=Tryz.isAgg282
 z28:=Tryz.sizeOf282
 v28:=Tryz.zeroValue282
 t33:=underlying169
 a33:=Tryz.isAgg169
 z33:=Tryz.sizeOf169
 v33:=Tryz.zeroValue169}
def Tryz.CZ:Go.Shelf.Ren:=⟨fun|6=>157|8=>183|9=>184|11=>210|13=>212|12=>211|23=>228|24=>229|14=>219|15=>220|16=>221|17=>222|18=>223|19=>224|20=>225|21=>226|22=>227|25=>232|26=>233|27=>234|28=>235|29=>236|30=>237|31=>238|n=>n,fun|26=>110|28=>282|24=>243|0=>0|3=>3|37=>129|48=>32|50=>128|4=>4|40=>351|39=>350|45=>290|5=>5|9=>9|51=>362|55=>366|57=>368|58=>369|33=>169|n=>n,fun|n=>n⟩
theorem Tryz.aci:Go.Proofs.SlLaysZI.n6 prog Tryz.CZ:={
 mixed:=ey
 f6:=⟨Tryz.f157.name,Γ,func157.trans (congrArg some ey)⟩
 f8:=⟨Tryz.f183.name,Γ,func183.trans (congrArg some ey)⟩
 f11:=⟨Tryz.f210.name,Γ,func210.trans (congrArg some ey)⟩
 t0:=underlying0
 a0:=Tryz.isAgg0
 z0:=Tryz.sizeOf0
 v0:=Tryz.zeroValue0
 t24:=underlying243
 a24:=Tryz.isAgg243
 z24:=Tryz.sizeOf243
 v24:=Tryz.zeroValue243
 t26:=underlying110
 a26:=Tryz.isAgg110
 z26:=Tryz.sizeOf110
 v26:=Tryz.zeroValue110
 t28:=underlying282
 a28:=Tryz.isAgg282
 z28:=Tryz.sizeOf282
 v28:=Tryz.zeroValue282
 i26:=ey}
def Tryz.VP:Go.Shelf.Ren:=⟨fun|5=>184|8=>212|7=>211|19=>228|20=>229|10=>219|11=>220|12=>221|13=>222|14=>223|15=>224|16=>225|17=>226|18=>227|30=>232|31=>233|32=>234|33=>235|34=>236|35=>237|40=>238|n=>n,fun|23=>243|25=>110|3=>3|32=>129|22=>243|0=>0|44=>32|46=>128|4=>4|36=>351|35=>350|41=>290|5=>5|9=>9|53=>362|57=>366|63=>368|64=>369|n=>n,fun|n=>n⟩
theorem Tryz.adR:Go.Proofs.SlLaysM.n5 prog Tryz.VP:={
 mixed:=ey
 f5:=⟨Tryz.f184.name,Γ,func184.trans (congrArg some ey)⟩
 f7:=⟨Tryz.f211.name,Γ,func211.trans (congrArg some ey)⟩
 f8:=func212.trans (congrArg some ey)
 f10:=⟨Tryz.f219.name,Γ,func219.trans (congrArg some ey)⟩
 f11:=⟨Tryz.f220.name,Γ,func220.trans (congrArg some ey)⟩
 f12:=⟨Tryz.f221.name,Γ,func221.trans (congrArg some ey)⟩
 f13:=⟨Tryz.f222.name,Γ,func222.trans (congrArg some ey)⟩
 f14:=⟨Tryz.f223.name,Γ,func223.trans (congrArg some ey)⟩
 f15:=⟨Tryz.f224.name,Γ,func224.trans (congrArg some ey)⟩
 f16:=⟨Tryz.f225.name,Γ,func225.trans (congrArg some ey)⟩
 f17:=⟨Tryz.f226.name,Γ,func226.trans (congrArg some ey)⟩
 f18:=⟨Tryz.f227.name,Γ,func227.trans (congrArg some ey)⟩
 f19:=func228.trans (congrArg some ey)
 f20:=func229.trans (congrArg some ey)
 f30:=⟨Tryz.f232.name,Γ,func232.trans (congrArg some ey)⟩
 f31:=func233.trans (congrArg some ey)
 f32:=func234.trans (congrArg some ey)
 f33:=⟨Tryz.f235.name,Γ,func235.trans (congrArg some ey)⟩
 f34:=⟨Tryz.f236.name,Γ,func236.trans (congrArg some ey)⟩
 f35:=⟨Tryz.f237.name,Γ,func237.trans (congrArg some ey)⟩
 f40:=⟨Tryz.f238.name,Γ,func238.trans (congrArg some ey)⟩
 t0:=underlying0
 a0:=Tryz.isAgg0
 z0:=Tryz.sizeOf0
 v0:=Tryz.zeroValue0
 t3:=underlying3
 a3:=Tryz.isAgg3
 z3:=Tryz.sizeOf3
 v3:=Tryz.zeroValue3
 t4:=underlying4
 a4:=Tryz.isAgg4
 z4:=Tryz.sizeOf4
 v4:=Tryz.zeroValue4
 t5:=underlying5
 a5:=Tryz.isAgg5
 z5:=Tryz.sizeOf5
 v5:=Tryz.zeroValue5
 t9:=underlying9
 a9:=Tryz.isAgg9
 z9:=Tryz.sizeOf9
 v9:=Tryz.zeroValue9
 t22:=underlying243
 a22:=Tryz.isAgg243
 z22:=Tryz.sizeOf243
 v22:=Tryz.zeroValue243
 t23:=underlying243
 a23:=Tryz.isAgg243
 z23:=Tryz.sizeOf243
 v23:=Tryz.zeroValue243
 t25:=underlying110
 a25:=Tryz.isAgg110
 z25:=Tryz.sizeOf110
 v25:=Tryz.zeroValue110
 t32:=underlying129
 a32:=Tryz.isAgg129
 z32:=Tryz.sizeOf129
 v32:=Tryz.zeroValue129
 t35:=underlying350
 a35:=Tryz.isAgg350
 z35:=Tryz.sizeOf350
 v35:=Tryz.zeroValue350
 t36:=underlying351
 a36:=Tryz.isAgg351
 z36:=Tryz.sizeOf351
 v36:=Tryz.zeroValue351
 t41:=underlying290
 a41:=Tryz.isAgg290
 z41:=Tryz.sizeOf290
 v41:=Tryz.zeroValue290
 t44:=underlying32
 a44:=Tryz.isAgg32
 z44:=Tryz.sizeOf32
 v44:=Tryz.zeroValue32
 t46:=underlying128
 a46:=Tryz.isAgg128
 z46:=Tryz.sizeOf128
 v46:=Tryz.zeroValue128
 t53:=underlying362
 a53:=Tryz.isAgg362
 z53:=Tryz.sizeOf362
 v53:=Tryz.zeroValue362
 t57:=underlying366
 a57:=Tryz.isAgg366
 z57:=Tryz.sizeOf366
 v57:=Tryz.zeroValue366
 t63:=underlying368
 a63:=Tryz.isAgg368
 z63:=Tryz.sizeOf368
 v63:=Tryz.zeroValue368
 t64:=underlying369
 a64:=Tryz.isAgg369
 z64:=Tryz.sizeOf369
 v64:=Tryz.zeroValue369}
end Go.Proofs.YtffcefoadaogbaaGreat
