/-
  Contracts of functions of the program and of the document, each for every input that its premises name.
-/
import Derived.Test.YtiagceoepkaeoaaGreatAe
import Derived.Test.YtiagceoepkaeoaaGreatChecked
import Derived.KernelRfl
import Derived.Test.YtiagceoepkaeoaaGreatAf
import Derived.WalkKit
import Derived.Test.YtiagceoepkaeoaaGreatProg
import Derived.Test.YtiagceoepkaeoaaGreatBa
import Derived.Sort.Walk7
set_option linter.unusedSectionVars false
set_option linter.unusedVariables false
set_option linter.unusedSimpArgs false
set_option maxRecDepth 100000
set_option maxHeartbeats 4000000
section
open Go Go.Proofs.Tryz Go.AX
namespace Go.Proofs.YtiagceoepkaeoaaGreat.Tb
def i3:TI:=⟨1,8,[.int .i64 0],.zN .i64,none⟩
theorem o3:cu prog 3 i3:=⟨by kernel_rfl,by kernel_rfl,rfl,by kernel_rfl,(fun _=>rfl),by kernel_rfl,(fun ks h=>(by cases h))⟩
def i5:TI:=⟨1,1,[.int .u8 0],.zN .u8,none⟩
theorem o5:cu prog 5 i5:=⟨by kernel_rfl,by kernel_rfl,rfl,by kernel_rfl,(fun _=>rfl),by kernel_rfl,(fun ks h=>(by cases h))⟩
def i9:TI:=⟨1,16,[.string ByteArray.empty],.Mw,none⟩
theorem o9:cu prog 9 i9:=⟨by kernel_rfl,by kernel_rfl,rfl,by kernel_rfl,(fun _=>rfl),by kernel_rfl,(fun ks h=>(by cases h))⟩
def i22:TI:=⟨1,24,[.slice none 0 0],.slt 38,none⟩
theorem o22:cu prog 22 i22:=⟨by kernel_rfl,by kernel_rfl,rfl,by kernel_rfl,(fun _=>rfl),by kernel_rfl,(fun ks h=>(by cases h))⟩
def i23:TI:=⟨1,8,[.int .u64 0],.zN .u64,none⟩
theorem o23:cu prog 23 i23:=⟨by kernel_rfl,by kernel_rfl,rfl,by kernel_rfl,(fun _=>rfl),by kernel_rfl,(fun ks h=>(by cases h))⟩
def i24:TI:=⟨1,24,[.slice none 0 0],.slt 47,none⟩
theorem o24:cu prog 24 i24:=⟨by kernel_rfl,by kernel_rfl,rfl,by kernel_rfl,(fun _=>rfl),by kernel_rfl,(fun ks h=>(by cases h))⟩
def i25:TI:=⟨1,24,[.slice none 0 0],.slt 50,none⟩
theorem o25:cu prog 25 i25:=⟨by kernel_rfl,by kernel_rfl,rfl,by kernel_rfl,(fun _=>rfl),by kernel_rfl,(fun ks h=>(by cases h))⟩
def i26:TI:=⟨1,24,[.slice none 0 0],.slt 68,none⟩
theorem o26:cu prog 26 i26:=⟨by kernel_rfl,by kernel_rfl,rfl,by kernel_rfl,(fun _=>rfl),by kernel_rfl,(fun ks h=>(by cases h))⟩
def i28:TI:=⟨5,88,[.int .u64 0,.int .u64 0,.slice none 0 0,.slice none 0 0,.slice none 0 0],.str [(0,23),(1,23),(2,24),(3,25),(4,26)],none⟩
theorem o28:cu prog 28 i28:=⟨by kernel_rfl,by kernel_rfl,rfl,by kernel_rfl,(fun h=>(by cases h)),by kernel_rfl,(fun ks h=>(by cases h))⟩
def i33:TI:=⟨1,24,[.slice none 0 0],.slt 80,none⟩
theorem o33:cu prog 33 i33:=⟨by kernel_rfl,by kernel_rfl,rfl,by kernel_rfl,(fun _=>rfl),by kernel_rfl,(fun ks h=>(by cases h))⟩
def i34:TI:=⟨1,24,[.slice none 0 0],.slt 103,none⟩
theorem o34:cu prog 34 i34:=⟨by kernel_rfl,by kernel_rfl,rfl,by kernel_rfl,(fun _=>rfl),by kernel_rfl,(fun ks h=>(by cases h))⟩
def i36:TI:=⟨2,16,[.int .i64 0,.int .u64 0],.str [(0,3),(1,23)],some [.int .i64,.int .u64]⟩
theorem o36:cu prog 36 i36:=⟨by kernel_rfl,by kernel_rfl,rfl,by kernel_rfl,(fun h=>(by cases h)),by kernel_rfl,(fun ks h=>(by cases h;exact⟨jV (by kernel_rfl) (by kernel_rfl),(by kernel_rfl)⟩))⟩
def i38:TI:=⟨18,176,[.int .i64 0,.int .u64 0,.int .u64 0,.int .i64 0,.int .i64 0,.int .u64 0,.int .u64 0,.int .u64 0,.int .u64 0,.int .i64 0,.int .i64 0,.int .i64 0,.slice none 0 0,.slice none 0 0,.int .i64 0,.int .u64 0,.int .i64 0,.int .u64 0],.str [(0,3),(1,23),(2,23),(3,3),(4,3),(5,23),(6,23),(7,23),(8,23),(9,3),(10,3),(11,3),(12,33),(13,34),(14,36),(16,36)],none⟩
theorem o38:cu prog 38 i38:=⟨by kernel_rfl,by kernel_rfl,rfl,by kernel_rfl,(fun h=>(by cases h)),by kernel_rfl,(fun ks h=>(by cases h))⟩
def i39:TI:=⟨1,8,[.int .i64 0],.zN .i64,none⟩
theorem o39:cu prog 39 i39:=⟨by kernel_rfl,by kernel_rfl,rfl,by kernel_rfl,(fun _=>rfl),by kernel_rfl,(fun ks h=>(by cases h))⟩
def i41:TI:=⟨5,40,[.int .i64 0,.int .u64 0,.int .u64 0,.int .u64 0,.int .i64 0],.str [(0,39),(1,23),(2,23),(3,23),(4,3)],some [.int .i64,.int .u64,.int .u64,.int .u64,.int .i64]⟩
theorem o41:cu prog 41 i41:=⟨by kernel_rfl,by kernel_rfl,rfl,by kernel_rfl,(fun h=>(by cases h)),by kernel_rfl,(fun ks h=>(by cases h;exact⟨jV (by kernel_rfl) (by kernel_rfl),(by kernel_rfl)⟩))⟩
def i44:TI:=⟨1,24,[.slice none 0 0],.slt 23,none⟩
theorem o44:cu prog 44 i44:=⟨by kernel_rfl,by kernel_rfl,rfl,by kernel_rfl,(fun _=>rfl),by kernel_rfl,(fun ks h=>(by cases h))⟩
def i45:TI:=⟨1,24,[.slice none 0 0],.slt 127,none⟩
theorem o45:cu prog 45 i45:=⟨by kernel_rfl,by kernel_rfl,rfl,by kernel_rfl,(fun _=>rfl),by kernel_rfl,(fun ks h=>(by cases h))⟩
def i47:TI:=⟨9,120,[.int .u64 0,.int .i64 0,.int .u64 0,.int .u64 0,.int .u64 0,.int .u64 0,.slice none 0 0,.slice none 0 0,.slice none 0 0],.str [(0,23),(1,3),(2,23),(3,23),(4,23),(5,23),(6,44),(7,34),(8,45)],none⟩
theorem o47:cu prog 47 i47:=⟨by kernel_rfl,by kernel_rfl,rfl,by kernel_rfl,(fun h=>(by cases h)),by kernel_rfl,(fun ks h=>(by cases h))⟩
def i50:TI:=⟨6,64,[.int .u64 0,.int .i64 0,.int .i64 0,.slice none 0 0,.int .i64 0,.int .u64 0],.str [(0,23),(1,3),(2,3),(3,33),(4,3),(5,23)],none⟩
theorem o50:cu prog 50 i50:=⟨by kernel_rfl,by kernel_rfl,rfl,by kernel_rfl,(fun h=>(by cases h)),by kernel_rfl,(fun ks h=>(by cases h))⟩
def i63:TI:=⟨3,24,[.int .u64 0,.int .u64 0,.int .u64 0],.str [(0,23),(1,23),(2,23)],some [.int .u64,.int .u64,.int .u64]⟩
theorem o63:cu prog 63 i63:=⟨by kernel_rfl,by kernel_rfl,rfl,by kernel_rfl,(fun h=>(by cases h)),by kernel_rfl,(fun ks h=>(by cases h;exact⟨jV (by kernel_rfl) (by kernel_rfl),(by kernel_rfl)⟩))⟩
def i68:TI:=⟨8,64,[.int .i64 0,.int .u64 0,.int .u64 0,.int .i64 0,.int .u64 0,.int .u64 0,.int .u64 0,.int .i64 0],.str [(0,3),(1,23),(2,23),(3,41)],some [.int .i64,.int .u64,.int .u64,.int .i64,.int .u64,.int .u64,.int .u64,.int .i64]⟩
theorem o68:cu prog 68 i68:=⟨by kernel_rfl,by kernel_rfl,rfl,by kernel_rfl,(fun h=>(by cases h)),by kernel_rfl,(fun ks h=>(by cases h;exact⟨jV (by kernel_rfl) (by kernel_rfl),(by kernel_rfl)⟩))⟩
def i71:TI:=⟨1,24,[.slice none 0 0],.slt 63,none⟩
theorem o71:cu prog 71 i71:=⟨by kernel_rfl,by kernel_rfl,rfl,by kernel_rfl,(fun _=>rfl),by kernel_rfl,(fun ks h=>(by cases h))⟩
def i78:TI:=⟨1,24,[.slice none 0 0],.slt 36,none⟩
theorem o78:cu prog 78 i78:=⟨by kernel_rfl,by kernel_rfl,rfl,by kernel_rfl,(fun _=>rfl),by kernel_rfl,(fun ks h=>(by cases h))⟩
def i80:TI:=⟨2,32,[.int .u64 0,.slice none 0 0],.str [(0,23),(1,78)],none⟩
theorem o80:cu prog 80 i80:=⟨by kernel_rfl,by kernel_rfl,rfl,by kernel_rfl,(fun h=>(by cases h)),by kernel_rfl,(fun ks h=>(by cases h))⟩
def i85:TI:=⟨1,8,[.pointer none],.Qg 88,none⟩
theorem o85:cu prog 85 i85:=⟨by kernel_rfl,by kernel_rfl,rfl,by kernel_rfl,(fun _=>rfl),by kernel_rfl,(fun ks h=>(by cases h))⟩
def i86:TI:=⟨1,8,[.pointer none],.Qg 47,none⟩
theorem o86:cu prog 86 i86:=⟨by kernel_rfl,by kernel_rfl,rfl,by kernel_rfl,(fun _=>rfl),by kernel_rfl,(fun ks h=>(by cases h))⟩
def i88:TI:=⟨29,312,[.int .u64 0,.int .u64 0,.slice none 0 0,.slice none 0 0,.slice none 0 0,.int .i64 0,.int .u64 0,.int .u64 0,.int .i64 0,.int .i64 0,.int .u64 0,.int .u64 0,.int .u64 0,.int .u64 0,.int .i64 0,.int .i64 0,.int .i64 0,.slice none 0 0,.slice none 0 0,.int .i64 0,.int .u64 0,.int .i64 0,.int .u64 0,.pointer none,.int .i64 0,.int .u64 0,.int .u64 0,.int .u64 0,.int .i64 0],.str [(0,28),(5,38),(23,86),(24,41)],none⟩
theorem o88:cu prog 88 i88:=⟨by kernel_rfl,by kernel_rfl,rfl,by kernel_rfl,(fun h=>(by cases h)),by kernel_rfl,(fun ks h=>(by cases h))⟩
def i90:TI:=⟨1,8,[.nilFunc],.mg,none⟩
theorem o90:cu prog 90 i90:=⟨by kernel_rfl,by kernel_rfl,rfl,by kernel_rfl,(fun _=>rfl),by kernel_rfl,(fun ks h=>(by cases h))⟩
def i92:TI:=⟨2,16,[.int .i64 0,.nilFunc],.str [(0,3),(1,90)],none⟩
theorem o92:cu prog 92 i92:=⟨by kernel_rfl,by kernel_rfl,rfl,by kernel_rfl,(fun h=>(by cases h)),by kernel_rfl,(fun ks h=>(by cases h))⟩
def i98:TI:=⟨1,8,[.nilFunc],.mg,none⟩
theorem o98:cu prog 98 i98:=⟨by kernel_rfl,by kernel_rfl,rfl,by kernel_rfl,(fun _=>rfl),by kernel_rfl,(fun ks h=>(by cases h))⟩
def ail:TI:=⟨3,24,[.int .i64 0,.int .u64 0,.int .u64 0],.str [(0,3),(1,23),(2,23)],some [.int .i64,.int .u64,.int .u64]⟩
theorem aky:cu prog 103 ail:=⟨by kernel_rfl,by kernel_rfl,rfl,by kernel_rfl,(fun h=>(by cases h)),by kernel_rfl,(fun ks h=>(by cases h;exact⟨jV (by kernel_rfl) (by kernel_rfl),(by kernel_rfl)⟩))⟩
def aim:TI:=⟨1,8,[.nilFunc],.mg,none⟩
theorem akz:cu prog 111 aim:=⟨by kernel_rfl,by kernel_rfl,rfl,by kernel_rfl,(fun _=>rfl),by kernel_rfl,(fun ks h=>(by cases h))⟩
def ain:TI:=⟨1,8,[.nilFunc],.mg,none⟩
theorem akA:cu prog 113 ain:=⟨by kernel_rfl,by kernel_rfl,rfl,by kernel_rfl,(fun _=>rfl),by kernel_rfl,(fun ks h=>(by cases h))⟩
def aio:TI:=⟨1,8,[.nilFunc],.mg,none⟩
theorem akB:cu prog 114 aio:=⟨by kernel_rfl,by kernel_rfl,rfl,by kernel_rfl,(fun _=>rfl),by kernel_rfl,(fun ks h=>(by cases h))⟩
def aip:TI:=⟨1,8,[.nilFunc],.mg,none⟩
theorem akC:cu prog 120 aip:=⟨by kernel_rfl,by kernel_rfl,rfl,by kernel_rfl,(fun _=>rfl),by kernel_rfl,(fun ks h=>(by cases h))⟩
def i127:TI:=⟨2,16,[.int .i64 0,.int .u64 0],.str [(0,3),(1,23)],some [.int .i64,.int .u64]⟩
theorem akD:cu prog 127 i127:=⟨by kernel_rfl,by kernel_rfl,rfl,by kernel_rfl,(fun h=>(by cases h)),by kernel_rfl,(fun ks h=>(by cases h;exact⟨jV (by kernel_rfl) (by kernel_rfl),(by kernel_rfl)⟩))⟩
def aiq:TI:=⟨1,8,[.nilFunc],.mg,none⟩
theorem akE:cu prog 128 aiq:=⟨by kernel_rfl,by kernel_rfl,rfl,by kernel_rfl,(fun _=>rfl),by kernel_rfl,(fun ks h=>(by cases h))⟩
def air:TI:=⟨1,8,[.nilFunc],.mg,none⟩
theorem akF:cu prog 136 air:=⟨by kernel_rfl,by kernel_rfl,rfl,by kernel_rfl,(fun _=>rfl),by kernel_rfl,(fun ks h=>(by cases h))⟩
def i138:TI:=⟨1,8,[.nilFunc],.mg,none⟩
theorem akG:cu prog 138 i138:=⟨by kernel_rfl,by kernel_rfl,rfl,by kernel_rfl,(fun _=>rfl),by kernel_rfl,(fun ks h=>(by cases h))⟩
def ais:TI:=⟨1,8,[.nilFunc],.mg,none⟩
theorem akH:cu prog 140 ais:=⟨by kernel_rfl,by kernel_rfl,rfl,by kernel_rfl,(fun _=>rfl),by kernel_rfl,(fun ks h=>(by cases h))⟩
def i143:TI:=⟨26,208,[.int .i64 0,.nilFunc,.int .i64 0,.nilFunc,.int .i64 0,.nilFunc,.int .i64 0,.nilFunc,.int .i64 0,.nilFunc,.int .i64 0,.nilFunc,.int .i64 0,.nilFunc,.int .i64 0,.nilFunc,.int .i64 0,.nilFunc,.int .i64 0,.nilFunc,.int .i64 0,.nilFunc,.int .i64 0,.nilFunc,.int .i64 0,.nilFunc],.QV 13 92,none⟩
theorem akI:cu prog 143 i143:=⟨by kernel_rfl,by kernel_rfl,rfl,by kernel_rfl,(fun h=>(by cases h)),by kernel_rfl,(fun ks h=>(by cases h))⟩
def i148:TI:=⟨1,8,[.nilFunc],.mg,none⟩
theorem akJ:cu prog 148 i148:=⟨by kernel_rfl,by kernel_rfl,rfl,by kernel_rfl,(fun _=>rfl),by kernel_rfl,(fun ks h=>(by cases h))⟩
def i152:TI:=⟨1,8,[.nilFunc],.mg,none⟩
theorem akK:cu prog 152 i152:=⟨by kernel_rfl,by kernel_rfl,rfl,by kernel_rfl,(fun _=>rfl),by kernel_rfl,(fun ks h=>(by cases h))⟩
def ait:TI:=⟨1,8,[.map none],.aeA 23 3,none⟩
theorem akL:cu prog 156 ait:=⟨by kernel_rfl,by kernel_rfl,rfl,by kernel_rfl,(fun _=>rfl),by kernel_rfl,(fun ks h=>(by cases h))⟩
def i159:TI:=⟨1,8,[.nilFunc],.mg,none⟩
theorem akM:cu prog 159 i159:=⟨by kernel_rfl,by kernel_rfl,rfl,by kernel_rfl,(fun _=>rfl),by kernel_rfl,(fun ks h=>(by cases h))⟩
def i164:TI:=⟨1,8,[.int .u64 0],.zN .u64,none⟩
theorem akN:cu prog 164 i164:=⟨by kernel_rfl,by kernel_rfl,rfl,by kernel_rfl,(fun _=>rfl),by kernel_rfl,(fun ks h=>(by cases h))⟩
def aiu:TI:=⟨1,8,[.nilFunc],.mg,none⟩
theorem akO:cu prog 166 aiu:=⟨by kernel_rfl,by kernel_rfl,rfl,by kernel_rfl,(fun _=>rfl),by kernel_rfl,(fun ks h=>(by cases h))⟩
def aiv:TI:=⟨1,8,[.nilFunc],.mg,none⟩
theorem akP:cu prog 169 aiv:=⟨by kernel_rfl,by kernel_rfl,rfl,by kernel_rfl,(fun _=>rfl),by kernel_rfl,(fun ks h=>(by cases h))⟩
def i171:TI:=⟨1,8,[.nilFunc],.mg,none⟩
theorem akQ:cu prog 171 i171:=⟨by kernel_rfl,by kernel_rfl,rfl,by kernel_rfl,(fun _=>rfl),by kernel_rfl,(fun ks h=>(by cases h))⟩
def i173:TI:=⟨1,8,[.nilFunc],.mg,none⟩
theorem akR:cu prog 173 i173:=⟨by kernel_rfl,by kernel_rfl,rfl,by kernel_rfl,(fun _=>rfl),by kernel_rfl,(fun ks h=>(by cases h))⟩
def i175:TI:=⟨1,24,[.slice none 0 0],.slt 3,none⟩
theorem akS:cu prog 175 i175:=⟨by kernel_rfl,by kernel_rfl,rfl,by kernel_rfl,(fun _=>rfl),by kernel_rfl,(fun ks h=>(by cases h))⟩
def aiw:TI:=⟨1,8,[.nilFunc],.mg,none⟩
theorem akT:cu prog 181 aiw:=⟨by kernel_rfl,by kernel_rfl,rfl,by kernel_rfl,(fun _=>rfl),by kernel_rfl,(fun ks h=>(by cases h))⟩
def i183:TI:=⟨1,8,[.nilFunc],.mg,none⟩
theorem akU:cu prog 183 i183:=⟨by kernel_rfl,by kernel_rfl,rfl,by kernel_rfl,(fun _=>rfl),by kernel_rfl,(fun ks h=>(by cases h))⟩
def aix:TI:=⟨1,8,[.int .i64 0],.zN .i64,none⟩
theorem akV:cu prog 185 aix:=⟨by kernel_rfl,by kernel_rfl,rfl,by kernel_rfl,(fun _=>rfl),by kernel_rfl,(fun ks h=>(by cases h))⟩
def i194:TI:=⟨1,4,[.int .u32 0],.zN .u32,none⟩
theorem akW:cu prog 194 i194:=⟨by kernel_rfl,by kernel_rfl,rfl,by kernel_rfl,(fun _=>rfl),by kernel_rfl,(fun ks h=>(by cases h))⟩
def i198:TI:=⟨1,8,[.nilFunc],.mg,none⟩
theorem akX:cu prog 198 i198:=⟨by kernel_rfl,by kernel_rfl,rfl,by kernel_rfl,(fun _=>rfl),by kernel_rfl,(fun ks h=>(by cases h))⟩
def aiy:TI:=⟨1,8,[.nilFunc],.mg,none⟩
theorem akY:cu prog 200 aiy:=⟨by kernel_rfl,by kernel_rfl,rfl,by kernel_rfl,(fun _=>rfl),by kernel_rfl,(fun ks h=>(by cases h))⟩
def aiz:TI:=⟨1,8,[.nilFunc],.mg,none⟩
theorem akZ:cu prog 202 aiz:=⟨by kernel_rfl,by kernel_rfl,rfl,by kernel_rfl,(fun _=>rfl),by kernel_rfl,(fun ks h=>(by cases h))⟩
def aiA:TI:=⟨1,8,[.nilFunc],.mg,none⟩
theorem ak0:cu prog 204 aiA:=⟨by kernel_rfl,by kernel_rfl,rfl,by kernel_rfl,(fun _=>rfl),by kernel_rfl,(fun ks h=>(by cases h))⟩
def aiB:TI:=⟨1,8,[.pointer none],.Qg 50,none⟩
theorem ak1:cu prog 205 aiB:=⟨by kernel_rfl,by kernel_rfl,rfl,by kernel_rfl,(fun _=>rfl),by kernel_rfl,(fun ks h=>(by cases h))⟩
def aiC:TI:=⟨1,8,[.nilFunc],.mg,none⟩
theorem ak2:cu prog 220 aiC:=⟨by kernel_rfl,by kernel_rfl,rfl,by kernel_rfl,(fun _=>rfl),by kernel_rfl,(fun ks h=>(by cases h))⟩
def i222:TI:=⟨1,8,[.nilFunc],.mg,none⟩
theorem ak3:cu prog 222 i222:=⟨by kernel_rfl,by kernel_rfl,rfl,by kernel_rfl,(fun _=>rfl),by kernel_rfl,(fun ks h=>(by cases h))⟩
def aiD:TI:=⟨1,8,[.int .u64 0],.zN .u64,none⟩
theorem ak4:cu prog 223 aiD:=⟨by kernel_rfl,by kernel_rfl,rfl,by kernel_rfl,(fun _=>rfl),by kernel_rfl,(fun ks h=>(by cases h))⟩
def i226:TI:=⟨1,8,[.pointer none],.Qg 3,none⟩
theorem ak5:cu prog 226 i226:=⟨by kernel_rfl,by kernel_rfl,rfl,by kernel_rfl,(fun _=>rfl),by kernel_rfl,(fun ks h=>(by cases h))⟩
def i234:TI:=⟨1,8,[.nilFunc],.mg,none⟩
theorem ak6:cu prog 234 i234:=⟨by kernel_rfl,by kernel_rfl,rfl,by kernel_rfl,(fun _=>rfl),by kernel_rfl,(fun ks h=>(by cases h))⟩
def tab:Tab:=[(3,i3),(5,i5),(9,i9),(22,i22),(23,i23),(24,i24),(25,i25),(26,i26),(28,i28),(33,i33),(34,i34),(36,i36),(38,i38),(39,i39),(41,i41),(44,i44),(45,i45),(47,i47),(50,i50),(63,i63),(68,i68),(71,i71),(78,i78),(80,i80),(85,i85),(86,i86),(88,i88),(90,i90),(92,i92),(98,i98),(103,ail),(111,aim),(113,ain),(114,aio),(120,aip),(127,i127),(128,aiq),(136,air),(138,i138),(140,ais),(143,i143),(148,i148),(152,i152),(156,ait),(159,i159),(164,i164),(166,aiu),(169,aiv),(171,i171),(173,i173),(175,i175),(181,aiw),(183,i183),(185,aix),(194,i194),(198,i198),(200,aiy),(202,aiz),(204,aiA),(205,aiB),(220,aiC),(222,i222),(223,aiD),(226,i226),(234,i234)]
theorem Bg:bO prog tab:=Ia (by
 intro x hx;simp only[tab,List.mem_cons,List.mem_nil_iff,or_false] at hx;rcases hx with rfl|rfl|rfl|rfl|rfl|rfl|rfl|rfl|rfl|rfl|rfl|rfl|rfl|rfl|rfl|rfl|rfl|rfl|rfl|rfl|rfl|rfl|rfl|rfl|rfl|rfl|rfl|rfl|rfl|rfl|rfl|rfl|rfl|rfl|rfl|rfl|rfl|rfl|rfl|rfl|rfl|rfl|rfl|rfl|rfl|rfl|rfl|rfl|rfl|rfl|rfl|rfl|rfl|rfl|rfl|rfl|rfl|rfl|rfl|rfl|rfl|rfl|rfl|rfl|rfl
 ·exact o3
 ·exact o5
 ·exact o9
 ·exact o22
 ·exact o23
 ·exact o24
 ·exact o25
 ·exact o26
 ·exact o28
 ·exact o33
 ·exact o34
 ·exact o36
 ·exact o38
 ·exact o39
 ·exact o41
 ·exact o44
 ·exact o45
 ·exact o47
 ·exact o50
 ·exact o63
 ·exact o68
 ·exact o71
 ·exact o78
 ·exact o80
 ·exact o85
 ·exact o86
 ·exact o88
 ·exact o90
 ·exact o92
 ·exact o98
 ·exact aky
 ·exact akz
 ·exact akA
 ·exact akB
 ·exact akC
 ·exact akD
 ·exact akE
 ·exact akF
 ·exact akG
 ·exact akH
 ·exact akI
 ·exact akJ
 ·exact akK
 ·exact akL
 ·exact akM
 ·exact akN
 ·exact akO
 ·exact akP
 ·exact akQ
 ·exact akR
 ·exact akS
 ·exact akT
 ·exact akU
 ·exact akV
 ·exact akW
 ·exact akX
 ·exact akY
 ·exact akZ
 ·exact ak0
 ·exact ak1
 ·exact ak2
 ·exact ak3
 ·exact ak4
 ·exact ak5
 exact ak6)
end Go.Proofs.YtiagceoepkaeoaaGreat.Tb
end
section
open Go Go.Proofs.Tryz Go.AX Go.Sort
namespace Go.Proofs.YtiagceoepkaeoaaGreat.Tb
theorem mixed:prog.follows .mixedOrders=true:=by kernel_rfl
theorem bM {f:FuncId}{fn:Func}(hf:aQ prog f fn){args:List PV}{Q:PV→Prop}(h:aei args fun s=>VC prog tab (codeOf fn) s (fnK tab fn.results.toList Q))(hl:Nat.ble args.length fn.ntmps=true:=by rfl):PC prog f args Q:=Xu Bg (sZ mixed Bg) hf hl h
theorem jy {f:FuncId}{fn:Func}(hf:aQ prog f fn){args:List AV}{hp:List (Nat×aA)}{Q:AV→List (Nat×aA)→Prop}(h:aej args hp fun s=>VC prog tab (codeOf fn) s (fnG tab fn.results.toList Q))(hl:Nat.ble args.length fn.ntmps=true:=by rfl):GC prog f args hp Q:=zU Bg (sZ mixed Bg) hf hl h
theorem ac1:aQ prog 123 f123:=bU func123
theorem Zz (x:Int):bC prog 123 [uu x] (bl false):=by
 refine PC.le ?_;have e:(x != x)=false:=by simp
 refine bM ac1 ?_;repeat' ((conv=>whnf);first|with_reducible apply aG|((with_reducible apply fk)<;>intro hc<;>try exact aK)|refine aC ?_|fail)
 repeat' first|apply And.intro|exact ay|fail
 all_goals try (conv=>whnf)
 all_goals exact e
theorem aal:aQ prog 151 f151:=bU func151
theorem bG (x y:Int):bC prog 151 [uu x,uu y] (bl (decide (x<y))):=by
 refine PC.le ?_;refine bM aal ?_;repeat' ((conv=>whnf);first|with_reducible apply aG|((with_reducible apply fk)<;>intro hc<;>try exact aK)|(apply aH;refine⟨_,Zz _,?_⟩)|refine aC ?_|fail)
 all_goals
  all_goals exact ay
theorem ac2:aQ prog 145 f145:=bU func145
theorem afM (A:Array Int)(a b:Nat)(hab:a≤b)(hb:b≤A.size)(hs:A.size<4611686018427387904) :
  dU prog 145 [.aB 1 0,.pv (ii a),.pv (ii b)] [(1,.arr 23 0 1 (uA A))] (.pv (.dn [])) [(1,.arr 23 0 1 (uA (insertionSort ltInt A a b)))]:=by
 obtain⟨X,hX⟩:∃X,insertionSort ltInt A a b=X:=⟨_,rfl⟩;rw[hX];unfold insertionSort at hX;have eA:IntKind.i64.wrap ((a:Int)+1)=((a+1:Nat):Int):=by rw[aJ (by omega) (by omega)];omega
 refine jy ac2 ?_;repeat' ((conv=>whnf);first|with_reducible apply aG|((with_reducible apply fk)<;>intro hc<;>try exact aK)|refine aC ?_|fail)
 refine⟨{p:Nat×Array Int // p.2.size=A.size∧insOuter ltInt a b p.1 p.2=X∧a+1≤p.1∧p.1≤b+1},fun⟨(i,D),_⟩=>⟨[(0,.aB 1 0),(1,.pv (ii a)),(2,.pv (ii b)),(6,.pv (ii i))],1000000000,[(1,.arr 23 0 1 (uA D))]⟩,fun⟨(i,_),_⟩=>b+1-i,⟨⟨(a+1,A),rfl,hX,Nat.le_refl _,by omega⟩,aj ?_⟩,?_⟩
 ·repeat' first|apply And.intro|exact ay|fail
  all_goals try (conv=>whnf)
  all_goals exact eA
 clear hX eA;rintro⟨⟨i,D⟩,h1,h2,h3,h4⟩
 simp only at h1 h2 h3 h4;by_cases hlt:i<b
 ·have d0:decide ((i:Int)<(b:Int))=true:=by simp only[gQ];omega
  have eW:IntKind.i64.wrap ((i:Int)+1)=((i+1:Nat):Int):=by rw[aJ (by omega) (by omega)];omega
  rw[insOuter,if_pos hlt] at h2;repeat' ((conv=>whnf);first|with_reducible apply aG|((with_reducible apply fk)<;>intro hc<;>try exact aK)|refine aC ?_|fail)
  refine⟨{p:Nat×Array Int // p.2.size=A.size∧insOuter ltInt a b (i+1) (insInner ltInt a p.1 p.2)=X∧p.1≤i},fun⟨(j,E),_⟩=>⟨[(0,.aB 1 0),(1,.pv (ii a)),(2,.pv (ii b)),(6,.pv (ii i)),(7,.pv (ii j))],1000000000,[(1,.arr 23 0 1 (uA E))]⟩,fun⟨(j,_),_⟩=>j,⟨⟨(i,D),h1,h2,Nat.le_refl _⟩,aj ?_⟩,?_⟩
  ·all_goals exact ay
  rintro⟨⟨j,E⟩,g1,g2,g3⟩
  simp only at g1 g2 g3;by_cases hja:a<j
  ·have d1:decide ((j:Int)>(a:Int))=true:=by simp only[gQ];omega
   obtain⟨m,rfl⟩:∃m,j=m+1:=⟨j-1,by omega⟩;have eM:IntKind.i64.wrap (((m+1:Nat):Int)-1)=(m:Int):=by rw[aJ (by omega) (by omega)];omega
   have r1:=Q8 E (n:=((m+1:Nat):Int)) (m+1) rfl (by omega);have r0:=Q8 E (n:=IntKind.i64.wrap (((m+1:Nat):Int)-1)) m eM (by omega);have r2:((uA E).set (((m+1:Nat):Int)).toNat [uu E[m]!])[(IntKind.i64.wrap (((m+1:Nat):Int)-1)).toNat]? = some (bR E[m]!):=by
    rw[eM,Int.toNat_natCast,Int.toNat_natCast,List.getElem?_set_ne (by omega)];exact Ym E m (by omega)
   rw[insInner] at g2;cases hl:decide (E[m+1]! < E[m]!) with
   | true=>
     rw[if_pos (by rw[Aq,hl];simp;omega)] at g2;repeat' ((conv=>whnf);first|with_reducible apply aG|((with_reducible apply fk)<;>intro hc<;>try exact aK)|((refine⟨_,r1,?_⟩))|((refine⟨_,r0,?_⟩))|((refine⟨_,r2,?_⟩))|(apply aH;refine⟨_,bG _ _,?_⟩)|(((with_reducible apply And.intro);focus (simp only[List.length_set,BR];omega)))|(((with_reducible apply And.intro);focus (rw[eM];simp only[List.length_set,BR];omega)))|refine aC ?_|fail)
     refine⟨⟨(m,swp E (m+1) m),by rw[size_swp];exact g1,g2,by omega⟩,Nat.lt_succ_self _,aj ?_⟩;repeat' first|apply And.intro|exact ay|fail
     all_goals try (conv=>whnf)
     all_goals first
      |exact eM
      | (refine fA ?_
         rw[eM,←aeP];rfl)
   | false=>
     rw[if_neg (by rw[Aq,hl];simp)] at g2;repeat' ((conv=>whnf);first|with_reducible apply aG|((with_reducible apply fk)<;>intro hc<;>try exact aK)|((refine⟨_,r1,?_⟩))|((refine⟨_,r0,?_⟩))|(apply aH;refine⟨_,bG _ _,?_⟩)|(((with_reducible apply And.intro);focus (simp only[List.length_set,BR];omega)))|(((with_reducible apply And.intro);focus (rw[eM];simp only[List.length_set,BR];omega)))|refine aC ?_|fail)
     refine⟨⟨(i+1,E),g1,g2,by omega,by omega⟩,(by show b+1-(i+1)<b+1-i;omega),aj ?_⟩;repeat' first|apply And.intro|exact ay|fail
     all_goals try (conv=>whnf)
     all_goals exact eW
  have d1:decide ((j:Int)>(a:Int))=false:=by simp only[kQ];omega
  have e2:insInner ltInt a j E=E:=by
   cases j with
   |zero=>rfl
   |succ m=>rw[insInner,if_neg (by simp;omega)]
  rw[e2] at g2;repeat' ((conv=>whnf);first|with_reducible apply aG|((with_reducible apply fk)<;>intro hc<;>try exact aK)|refine aC ?_|fail)
  refine⟨⟨(i+1,E),g1,g2,by omega,by omega⟩,(by show b+1-(i+1)<b+1-i;omega),aj ?_⟩;repeat' first|apply And.intro|exact ay|fail
  all_goals try (conv=>whnf)
  all_goals exact eW
 have d0:decide ((i:Int)<(b:Int))=false:=by simp only[kQ];omega
 rw[insOuter,if_neg hlt] at h2;subst h2;repeat' ((conv=>whnf);first|with_reducible apply aG|((with_reducible apply fk)<;>intro hc<;>try exact aK)|refine aC ?_|fail)
 refine⟨_,_,⟨rfl,rfl⟩,?_⟩;all_goals exact ay
end Go.Proofs.YtiagceoepkaeoaaGreat.Tb
end
section
open Go Go.Proofs.Tryz Go.AX
namespace Go.Proofs.YtiagceoepkaeoaaGreat.Tb
theorem qE:aQ prog 139 f139:=bU func139
theorem mX (l:List Pl)(f:FuncId)(first aM:List PV)(p:Pl→Bool)(hp:∀x∈l,bC prog f (first++([.agg x.c]++aM)) (bl (p x))) :
  bC prog 139 [xD l,.fn (.func f) first aM] (ii (ql p l)):=by
 refine PC.le (jK qE fun hb=>?_);have hb:l.length≤9223372036854775807:=by simpa[DX,xY,xD] using hb
 refine bM qE ?_;repeat' ((conv=>whnf);first|with_reducible apply aG|((with_reducible apply fk)<;>intro hc<;>try exact aK)|refine aC ?_|fail)
 refine⟨{k:Nat // k≤l.length∧∀j (hj:j<l.length),j<k→p l[j]=false},fun⟨k,_⟩=>⟨[(0,.pv (xD l)),(1,.pv (.fn (.func f) first aM)),(7,.pv (ii l.length)),(8,.pv (ii k))],1000000000,[]⟩,fun⟨k,_⟩=>l.length-k,⟨⟨0,by simp⟩,aj ?_⟩,?_⟩
 ·repeat' first|apply And.intro|exact ay|fail
  all_goals try (conv=>whnf)
  simp
 rintro⟨k,hk,hn⟩
 repeat' ((conv=>whnf);first|with_reducible apply aG|((with_reducible apply fk)<;>intro hc<;>try exact aK)|refine aC ?_|fail)
 ·skip
  have hlt:k<l.length:=by simpa using hc
  refine⟨_,dx _ _ _ hlt,?_⟩;repeat' ((conv=>whnf);first|with_reducible apply aG|((with_reducible apply fk)<;>intro hc<;>try exact aK)|(apply aH;refine⟨_,hp _ (List.getElem_mem hlt),?_⟩)|refine aC ?_|fail)
  ·skip
   repeat' first|apply And.intro|exact ay|fail
   all_goals try (conv=>whnf)
   exact (nS _ hlt hn hc).symm
  skip
  repeat' ((conv=>whnf);first|with_reducible apply aG|((with_reducible apply fk)<;>intro hc<;>try exact aK)|refine aC ?_|fail)
  refine⟨⟨k+1,hlt,gH hn fun _=>hc⟩,dec_lt hlt,aj ?_⟩;repeat' first|apply And.intro|exact ay|fail
  all_goals try (conv=>whnf)
  exact aJ (by omega) (by omega)
 skip
 repeat' first|apply And.intro|exact ay|fail
 all_goals try (conv=>whnf)
 have:k=l.length:=by simp at hc;omega
 subst this;exact (iN _ (tK hn)).symm
theorem wL:aQ prog 96 f96:=bU func96
theorem nZ (l:List Pl)(f:FuncId)(first aM:List PV)(p:Pl→Bool)(hp:∀x∈l,bC prog f (first++([.agg x.c]++aM)) (bl (p x))) :
  bC prog 96 [xD l,.fn (.func f) first aM] (bl (l.any p)):=by
 refine PC.le ?_;refine bM wL ?_;repeat' ((conv=>whnf);first|with_reducible apply aG|((with_reducible apply fk)<;>intro hc<;>try exact aK)|(apply aH;refine⟨_,mX _ _ _ _ _ hp,?_⟩)|refine aC ?_|fail)
 repeat' first|apply And.intro|exact ay|fail
 all_goals try (conv=>whnf)
 exact tJ _ _
theorem rZ:aQ prog 214 f214:=bU func214
theorem D7 (l:List Fr)(f:FuncId)(first aM:List PV)(p:Fr→Bool)(hp:∀x∈l,bC prog f (first++([.agg x.c]++aM)) (bl (p x))) :
  bC prog 214 [uR l,.fn (.func f) first aM] (ii (ql p l)):=by
 refine PC.le (jK rZ fun hb=>?_);have hb:l.length≤9223372036854775807:=by simpa[DX,xY,uR] using hb
 refine bM rZ ?_;repeat' ((conv=>whnf);first|with_reducible apply aG|((with_reducible apply fk)<;>intro hc<;>try exact aK)|refine aC ?_|fail)
 refine⟨{k:Nat // k≤l.length∧∀j (hj:j<l.length),j<k→p l[j]=false},fun⟨k,_⟩=>⟨[(0,.pv (uR l)),(1,.pv (.fn (.func f) first aM)),(7,.pv (ii l.length)),(8,.pv (ii k))],1000000000,[]⟩,fun⟨k,_⟩=>l.length-k,⟨⟨0,by simp⟩,aj ?_⟩,?_⟩
 ·repeat' first|apply And.intro|exact ay|fail
  all_goals try (conv=>whnf)
  simp
 rintro⟨k,hk,hn⟩
 repeat' ((conv=>whnf);first|with_reducible apply aG|((with_reducible apply fk)<;>intro hc<;>try exact aK)|refine aC ?_|fail)
 ·skip
  have hlt:k<l.length:=by simpa using hc
  refine⟨_,dx _ _ _ hlt,?_⟩;repeat' ((conv=>whnf);first|with_reducible apply aG|((with_reducible apply fk)<;>intro hc<;>try exact aK)|(apply aH;refine⟨_,hp _ (List.getElem_mem hlt),?_⟩)|refine aC ?_|fail)
  ·skip
   repeat' first|apply And.intro|exact ay|fail
   all_goals try (conv=>whnf)
   exact (nS _ hlt hn hc).symm
  skip
  repeat' ((conv=>whnf);first|with_reducible apply aG|((with_reducible apply fk)<;>intro hc<;>try exact aK)|refine aC ?_|fail)
  refine⟨⟨k+1,hlt,gH hn fun _=>hc⟩,dec_lt hlt,aj ?_⟩;repeat' first|apply And.intro|exact ay|fail
  all_goals try (conv=>whnf)
  exact aJ (by omega) (by omega)
 skip
 repeat' first|apply And.intro|exact ay|fail
 all_goals try (conv=>whnf)
 have:k=l.length:=by simp at hc;omega
 subst this;exact (iN _ (tK hn)).symm
theorem x9:aQ prog 188 f188:=bU func188
theorem zy (l:List Fr)(f:FuncId)(first aM:List PV)(p:Fr→Bool)(hp:∀x∈l,bC prog f (first++([.agg x.c]++aM)) (bl (p x))) :
  bC prog 188 [uR l,.fn (.func f) first aM] (bl (l.any p)):=by
 refine PC.le ?_;refine bM x9 ?_;repeat' ((conv=>whnf);first|with_reducible apply aG|((with_reducible apply fk)<;>intro hc<;>try exact aK)|(apply aH;refine⟨_,D7 _ _ _ _ _ hp,?_⟩)|refine aC ?_|fail)
 repeat' first|apply And.intro|exact ay|fail
 all_goals try (conv=>whnf)
 exact tJ _ _
theorem pU:aQ prog 53 f53:=bU func53
theorem dW (l:List Lg)(f:FuncId)(first aM:List PV)(p:Lg→Bool)(hp:∀x∈l,bC prog f (first++([.agg x.c]++aM)) (bl (p x))) :
  bC prog 53 [dO l,.fn (.func f) first aM] (ii (ql p l)):=by
 refine PC.le (jK pU fun hb=>?_);have hb:l.length≤9223372036854775807:=by simpa[DX,xY,dO] using hb
 refine bM pU ?_;repeat' ((conv=>whnf);first|with_reducible apply aG|((with_reducible apply fk)<;>intro hc<;>try exact aK)|refine aC ?_|fail)
 refine⟨{k:Nat // k≤l.length∧∀j (hj:j<l.length),j<k→p l[j]=false},fun⟨k,_⟩=>⟨[(0,.pv (dO l)),(1,.pv (.fn (.func f) first aM)),(7,.pv (ii l.length)),(8,.pv (ii k))],1000000000,[]⟩,fun⟨k,_⟩=>l.length-k,⟨⟨0,by simp⟩,aj ?_⟩,?_⟩
 ·repeat' first|apply And.intro|exact ay|fail
  all_goals try (conv=>whnf)
  simp
 rintro⟨k,hk,hn⟩
 repeat' ((conv=>whnf);first|with_reducible apply aG|((with_reducible apply fk)<;>intro hc<;>try exact aK)|refine aC ?_|fail)
 ·skip
  have hlt:k<l.length:=by simpa using hc
  refine⟨_,dx _ _ _ hlt,?_⟩;repeat' ((conv=>whnf);first|with_reducible apply aG|((with_reducible apply fk)<;>intro hc<;>try exact aK)|(apply aH;refine⟨_,hp _ (List.getElem_mem hlt),?_⟩)|refine aC ?_|fail)
  ·skip
   repeat' first|apply And.intro|exact ay|fail
   all_goals try (conv=>whnf)
   exact (nS _ hlt hn hc).symm
  skip
  repeat' ((conv=>whnf);first|with_reducible apply aG|((with_reducible apply fk)<;>intro hc<;>try exact aK)|refine aC ?_|fail)
  refine⟨⟨k+1,hlt,gH hn fun _=>hc⟩,dec_lt hlt,aj ?_⟩;repeat' first|apply And.intro|exact ay|fail
  all_goals try (conv=>whnf)
  exact aJ (by omega) (by omega)
 skip
 repeat' first|apply And.intro|exact ay|fail
 all_goals try (conv=>whnf)
 have:k=l.length:=by simp at hc;omega
 subst this;exact (iN _ (tK hn)).symm
theorem uU:aQ prog 110 f110:=bU func110
theorem wM (l:List Lg)(f:FuncId)(first aM:List PV)(p:Lg→Bool)(hp:∀x∈l,bC prog f (first++([.agg x.c]++aM)) (bl (p x))) :
  bC prog 110 [dO l,.fn (.func f) first aM] (bl (l.any p)):=by
 refine PC.le ?_;refine bM uU ?_;repeat' ((conv=>whnf);first|with_reducible apply aG|((with_reducible apply fk)<;>intro hc<;>try exact aK)|(apply aH;refine⟨_,dW _ _ _ _ _ hp,?_⟩)|refine aC ?_|fail)
 repeat' first|apply And.intro|exact ay|fail
 all_goals try (conv=>whnf)
 exact tJ _ _
theorem r9:aQ prog 205 f205:=bU func205
theorem D8 (l:List Mk)(f:FuncId)(first aM:List PV)(p:Mk→Bool)(hp:∀x∈l,bC prog f (first++([.agg x.c]++aM)) (bl (p x))) :
  bC prog 205 [rP l,.fn (.func f) first aM] (ii (ql p l)):=by
 refine PC.le (jK r9 fun hb=>?_);have hb:l.length≤9223372036854775807:=by simpa[DX,xY,rP] using hb
 refine bM r9 ?_;repeat' ((conv=>whnf);first|with_reducible apply aG|((with_reducible apply fk)<;>intro hc<;>try exact aK)|refine aC ?_|fail)
 refine⟨{k:Nat // k≤l.length∧∀j (hj:j<l.length),j<k→p l[j]=false},fun⟨k,_⟩=>⟨[(0,.pv (rP l)),(1,.pv (.fn (.func f) first aM)),(7,.pv (ii l.length)),(8,.pv (ii k))],1000000000,[]⟩,fun⟨k,_⟩=>l.length-k,⟨⟨0,by simp⟩,aj ?_⟩,?_⟩
 ·repeat' first|apply And.intro|exact ay|fail
  all_goals try (conv=>whnf)
  simp
 rintro⟨k,hk,hn⟩
 repeat' ((conv=>whnf);first|with_reducible apply aG|((with_reducible apply fk)<;>intro hc<;>try exact aK)|refine aC ?_|fail)
 ·skip
  have hlt:k<l.length:=by simpa using hc
  refine⟨_,dx _ _ _ hlt,?_⟩;repeat' ((conv=>whnf);first|with_reducible apply aG|((with_reducible apply fk)<;>intro hc<;>try exact aK)|(apply aH;refine⟨_,hp _ (List.getElem_mem hlt),?_⟩)|refine aC ?_|fail)
  ·skip
   repeat' first|apply And.intro|exact ay|fail
   all_goals try (conv=>whnf)
   exact (nS _ hlt hn hc).symm
  skip
  repeat' ((conv=>whnf);first|with_reducible apply aG|((with_reducible apply fk)<;>intro hc<;>try exact aK)|refine aC ?_|fail)
  refine⟨⟨k+1,hlt,gH hn fun _=>hc⟩,dec_lt hlt,aj ?_⟩;repeat' first|apply And.intro|exact ay|fail
  all_goals try (conv=>whnf)
  exact aJ (by omega) (by omega)
 skip
 repeat' first|apply And.intro|exact ay|fail
 all_goals try (conv=>whnf)
 have:k=l.length:=by simp at hc;omega
 subst this;exact (iN _ (tK hn)).symm
theorem yc:aQ prog 170 f170:=bU func170
theorem jc (l:List Mk)(f:FuncId)(first aM:List PV)(p:Mk→Bool)(hp:∀x∈l,bC prog f (first++([.agg x.c]++aM)) (bl (p x))) :
  bC prog 170 [rP l,.fn (.func f) first aM] (bl (l.any p)):=by
 refine PC.le ?_;refine bM yc ?_;repeat' ((conv=>whnf);first|with_reducible apply aG|((with_reducible apply fk)<;>intro hc<;>try exact aK)|(apply aH;refine⟨_,D8 _ _ _ _ _ hp,?_⟩)|refine aC ?_|fail)
 repeat' first|apply And.intro|exact ay|fail
 all_goals try (conv=>whnf)
 exact tJ _ _
theorem pV:aQ prog 203 f203:=bU func203
theorem l6 (l:List Cu)(f:FuncId)(first aM:List PV)(p:Cu→Bool)(hp:∀x∈l,bC prog f (first++([.agg x.c]++aM)) (bl (p x))) :
  bC prog 203 [Hr l,.fn (.func f) first aM] (ii (ql p l)):=by
 refine PC.le (jK pV fun hb=>?_);have hb:l.length≤9223372036854775807:=by simpa[DX,xY,Hr] using hb
 refine bM pV ?_;repeat' ((conv=>whnf);first|with_reducible apply aG|((with_reducible apply fk)<;>intro hc<;>try exact aK)|refine aC ?_|fail)
 refine⟨{k:Nat // k≤l.length∧∀j (hj:j<l.length),j<k→p l[j]=false},fun⟨k,_⟩=>⟨[(0,.pv (Hr l)),(1,.pv (.fn (.func f) first aM)),(7,.pv (ii l.length)),(8,.pv (ii k))],1000000000,[]⟩,fun⟨k,_⟩=>l.length-k,⟨⟨0,by simp⟩,aj ?_⟩,?_⟩
 ·repeat' first|apply And.intro|exact ay|fail
  all_goals try (conv=>whnf)
  simp
 rintro⟨k,hk,hn⟩
 repeat' ((conv=>whnf);first|with_reducible apply aG|((with_reducible apply fk)<;>intro hc<;>try exact aK)|refine aC ?_|fail)
 ·skip
  have hlt:k<l.length:=by simpa using hc
  refine⟨_,dx _ _ _ hlt,?_⟩;repeat' ((conv=>whnf);first|with_reducible apply aG|((with_reducible apply fk)<;>intro hc<;>try exact aK)|(apply aH;refine⟨_,hp _ (List.getElem_mem hlt),?_⟩)|refine aC ?_|fail)
  ·skip
   repeat' first|apply And.intro|exact ay|fail
   all_goals try (conv=>whnf)
   exact (nS _ hlt hn hc).symm
  skip
  repeat' ((conv=>whnf);first|with_reducible apply aG|((with_reducible apply fk)<;>intro hc<;>try exact aK)|refine aC ?_|fail)
  refine⟨⟨k+1,hlt,gH hn fun _=>hc⟩,dec_lt hlt,aj ?_⟩;repeat' first|apply And.intro|exact ay|fail
  all_goals try (conv=>whnf)
  exact aJ (by omega) (by omega)
 skip
 repeat' first|apply And.intro|exact ay|fail
 all_goals try (conv=>whnf)
 have:k=l.length:=by simp at hc;omega
 subst this;exact (iN _ (tK hn)).symm
theorem uV:aQ prog 165 f165:=bU func165
theorem wN (l:List Cu)(f:FuncId)(first aM:List PV)(p:Cu→Bool)(hp:∀x∈l,bC prog f (first++([.agg x.c]++aM)) (bl (p x))) :
  bC prog 165 [Hr l,.fn (.func f) first aM] (bl (l.any p)):=by
 refine PC.le ?_;refine bM uV ?_;repeat' ((conv=>whnf);first|with_reducible apply aG|((with_reducible apply fk)<;>intro hc<;>try exact aK)|(apply aH;refine⟨_,l6 _ _ _ _ _ hp,?_⟩)|refine aC ?_|fail)
 repeat' first|apply And.intro|exact ay|fail
 all_goals try (conv=>whnf)
 exact tJ _ _
theorem sj:aQ prog 136 f136:=bU func136
theorem nW (l:List Pa)(f:FuncId)(first aM:List PV)(p:Pa→Bool)(hp:∀x∈l,bC prog f (first++([.agg x.c]++aM)) (bl (p x))) :
  bC prog 136 [uS l,.fn (.func f) first aM] (ii (ql p l)):=by
 refine PC.le (jK sj fun hb=>?_);have hb:l.length≤9223372036854775807:=by simpa[DX,xY,uS] using hb
 refine bM sj ?_;repeat' ((conv=>whnf);first|with_reducible apply aG|((with_reducible apply fk)<;>intro hc<;>try exact aK)|refine aC ?_|fail)
 refine⟨{k:Nat // k≤l.length∧∀j (hj:j<l.length),j<k→p l[j]=false},fun⟨k,_⟩=>⟨[(0,.pv (uS l)),(1,.pv (.fn (.func f) first aM)),(7,.pv (ii l.length)),(8,.pv (ii k))],1000000000,[]⟩,fun⟨k,_⟩=>l.length-k,⟨⟨0,by simp⟩,aj ?_⟩,?_⟩
 ·repeat' first|apply And.intro|exact ay|fail
  all_goals try (conv=>whnf)
  simp
 rintro⟨k,hk,hn⟩
 repeat' ((conv=>whnf);first|with_reducible apply aG|((with_reducible apply fk)<;>intro hc<;>try exact aK)|refine aC ?_|fail)
 ·skip
  have hlt:k<l.length:=by simpa using hc
  refine⟨_,dx _ _ _ hlt,?_⟩;repeat' ((conv=>whnf);first|with_reducible apply aG|((with_reducible apply fk)<;>intro hc<;>try exact aK)|(apply aH;refine⟨_,hp _ (List.getElem_mem hlt),?_⟩)|refine aC ?_|fail)
  ·skip
   repeat' first|apply And.intro|exact ay|fail
   all_goals try (conv=>whnf)
   exact (nS _ hlt hn hc).symm
  skip
  repeat' ((conv=>whnf);first|with_reducible apply aG|((with_reducible apply fk)<;>intro hc<;>try exact aK)|refine aC ?_|fail)
  refine⟨⟨k+1,hlt,gH hn fun _=>hc⟩,dec_lt hlt,aj ?_⟩;repeat' first|apply And.intro|exact ay|fail
  all_goals try (conv=>whnf)
  exact aJ (by omega) (by omega)
 skip
 repeat' first|apply And.intro|exact ay|fail
 all_goals try (conv=>whnf)
 have:k=l.length:=by simp at hc;omega
 subst this;exact (iN _ (tK hn)).symm
theorem yg:aQ prog 120 f120:=bU func120
theorem zA (l:List Pa)(f:FuncId)(first aM:List PV)(p:Pa→Bool)(hp:∀x∈l,bC prog f (first++([.agg x.c]++aM)) (bl (p x))) :
  bC prog 120 [uS l,.fn (.func f) first aM] (bl (l.any p)):=by
 refine PC.le ?_;refine bM yg ?_;repeat' ((conv=>whnf);first|with_reducible apply aG|((with_reducible apply fk)<;>intro hc<;>try exact aK)|(apply aH;refine⟨_,nW _ _ _ _ _ hp,?_⟩)|refine aC ?_|fail)
 repeat' first|apply And.intro|exact ay|fail
 all_goals try (conv=>whnf)
 exact tJ _ _
theorem yG:aQ prog 156 f156:=bU func156
theorem Lf (l:List Int)(f:FuncId)(first aM:List PV)(p:Int→Bool)(hp:∀x∈l,bC prog f (first++([uu x]++aM)) (bl (p x))) :
  bC prog 156 [l8 l,.fn (.func f) first aM] (ii (ql p l)):=by
 refine PC.le (jK yG fun hb=>?_);have hb:l.length≤9223372036854775807:=by simpa[DX,xY,l8] using hb
 refine bM yG ?_;repeat' ((conv=>whnf);first|with_reducible apply aG|((with_reducible apply fk)<;>intro hc<;>try exact aK)|refine aC ?_|fail)
 refine⟨{k:Nat // k≤l.length∧∀j (hj:j<l.length),j<k→p l[j]=false},fun⟨k,_⟩=>⟨[(0,.pv (l8 l)),(1,.pv (.fn (.func f) first aM)),(7,.pv (ii l.length)),(8,.pv (ii k))],1000000000,[]⟩,fun⟨k,_⟩=>l.length-k,⟨⟨0,by simp⟩,aj ?_⟩,?_⟩
 ·repeat' first|apply And.intro|exact ay|fail
  all_goals try (conv=>whnf)
  simp
 rintro⟨k,hk,hn⟩
 repeat' ((conv=>whnf);first|with_reducible apply aG|((with_reducible apply fk)<;>intro hc<;>try exact aK)|refine aC ?_|fail)
 ·skip
  have hlt:k<l.length:=by simpa using hc
  refine⟨_,dx _ _ _ hlt,?_⟩;repeat' ((conv=>whnf);first|with_reducible apply aG|((with_reducible apply fk)<;>intro hc<;>try exact aK)|(apply aH;refine⟨_,hp _ (List.getElem_mem hlt),?_⟩)|refine aC ?_|fail)
  ·skip
   repeat' first|apply And.intro|exact ay|fail
   all_goals try (conv=>whnf)
   exact (nS _ hlt hn hc).symm
  skip
  repeat' ((conv=>whnf);first|with_reducible apply aG|((with_reducible apply fk)<;>intro hc<;>try exact aK)|refine aC ?_|fail)
  refine⟨⟨k+1,hlt,gH hn fun _=>hc⟩,dec_lt hlt,aj ?_⟩;repeat' first|apply And.intro|exact ay|fail
  all_goals try (conv=>whnf)
  exact aJ (by omega) (by omega)
 skip
 repeat' first|apply And.intro|exact ay|fail
 all_goals try (conv=>whnf)
 have:k=l.length:=by simp at hc;omega
 subst this;exact (iN _ (tK hn)).symm
theorem Cm:aQ prog 108 f108:=bU func108
theorem D9 (l:List Int)(f:FuncId)(first aM:List PV)(p:Int→Bool)(hp:∀x∈l,bC prog f (first++([uu x]++aM)) (bl (p x))) :
  bC prog 108 [l8 l,.fn (.func f) first aM] (bl (l.any p)):=by
 refine PC.le ?_;refine bM Cm ?_;repeat' ((conv=>whnf);first|with_reducible apply aG|((with_reducible apply fk)<;>intro hc<;>try exact aK)|(apply aH;refine⟨_,Lf _ _ _ _ _ hp,?_⟩)|refine aC ?_|fail)
 repeat' first|apply And.intro|exact ay|fail
 all_goals try (conv=>whnf)
 exact tJ _ _
theorem yH:aQ prog 44 f44:=bU func44
theorem Ba (l:List Pl)(h:l.length*16≤140737488355328):dU prog 44 [.pv (xD l)] [] (.aB 1001 0) [(1001,.arr 36 0 2 (l.map Pl.c))]:=by
 refine Nr [] ?_ fun h0=>?_
 all_goals
  refine jy yH ?_;repeat' ((conv=>whnf);first|with_reducible apply aG|((with_reducible apply fk)<;>intro hc<;>try exact aK)|refine aC ?_|fail)
  refine⟨_,_,⟨rfl,rfl⟩,?_⟩;repeat' first|apply And.intro|exact ay|fail
  all_goals try (conv=>whnf)
 exact h0
theorem Bb (l:List Pl)(h:l.length*16≤140737488355328):bC prog 44 [xD l] (xD l):=by
 refine PC.le (Tm [] ?_ fun h0=>?_);all_goals
  refine bM yH ?_;repeat' ((conv=>whnf);first|with_reducible apply aG|((with_reducible apply fk)<;>intro hc<;>try exact aK)|refine aC ?_|fail)
  repeat' first|apply And.intro|exact ay|fail
  all_goals try (conv=>whnf)
 exact h0
theorem Bc:aQ prog 45 f45:=bU func45
theorem OC (l:List Mk)(h:l.length*24≤140737488355328):dU prog 45 [.pv (rP l)] [] (.aB 1001 0) [(1001,.arr 103 0 3 (l.map Mk.c))]:=by
 refine Nr [] ?_ fun h0=>?_
 all_goals
  refine jy Bc ?_;repeat' ((conv=>whnf);first|with_reducible apply aG|((with_reducible apply fk)<;>intro hc<;>try exact aK)|refine aC ?_|fail)
  refine⟨_,_,⟨rfl,rfl⟩,?_⟩;repeat' first|apply And.intro|exact ay|fail
  all_goals try (conv=>whnf)
 exact h0
theorem wO (l:List Mk)(h:l.length*24≤140737488355328):bC prog 45 [rP l] (rP l):=by
 refine PC.le (Tm [] ?_ fun h0=>?_);all_goals
  refine bM Bc ?_;repeat' ((conv=>whnf);first|with_reducible apply aG|((with_reducible apply fk)<;>intro hc<;>try exact aK)|refine aC ?_|fail)
  repeat' first|apply And.intro|exact ay|fail
  all_goals try (conv=>whnf)
 exact h0
end Go.Proofs.YtiagceoepkaeoaaGreat.Tb
end
section
namespace Go.Proofs
open Go.Shelf
def Tryz.sortPa_ren:Go.Shelf.Ren:=⟨fun|6=>87|15=>107|14=>137|28=>154|29=>155|20=>180|21=>181|22=>182|23=>183|24=>184|25=>185|26=>186|27=>187|46=>211|47=>197|48=>198|49=>212|50=>213|57=>227|n=>n,fun|22=>26|24=>68|25=>148|3=>3|39=>164|0=>0|53=>194|55=>23|4=>4|46=>186|45=>185|50=>191|5=>5|9=>9|66=>223|70=>226|76=>239|77=>240|n=>n,fun|n=>n⟩
theorem Tryz.sortPa:Go.Proofs.SlLaysF0.n6 Tryz.prog Tryz.sortPa_ren:={
 mixed:=by kernel_rfl
 f6:=⟨Tryz.f87.name,by decide,Tryz.func87.trans (congrArg some (by kernel_rfl))⟩
 f14:=⟨Tryz.f137.name,by decide,Tryz.func137.trans (congrArg some (by kernel_rfl))⟩
 f15:=Tryz.func107.trans (congrArg some (by kernel_rfl))
 f20:=⟨Tryz.f180.name,by decide,Tryz.func180.trans (congrArg some (by kernel_rfl))⟩
 f21:=⟨Tryz.f181.name,by decide,Tryz.func181.trans (congrArg some (by kernel_rfl))⟩
 f22:=⟨Tryz.f182.name,by decide,Tryz.func182.trans (congrArg some (by kernel_rfl))⟩
 f23:=⟨Tryz.f183.name,by decide,Tryz.func183.trans (congrArg some (by kernel_rfl))⟩
 f24:=⟨Tryz.f184.name,by decide,Tryz.func184.trans (congrArg some (by kernel_rfl))⟩
 f25:=⟨Tryz.f185.name,by decide,Tryz.func185.trans (congrArg some (by kernel_rfl))⟩
 f26:=⟨Tryz.f186.name,by decide,Tryz.func186.trans (congrArg some (by kernel_rfl))⟩
 f27:=⟨Tryz.f187.name,by decide,Tryz.func187.trans (congrArg some (by kernel_rfl))⟩
 f28:=Tryz.func154.trans (congrArg some (by kernel_rfl))
 f29:=Tryz.func155.trans (congrArg some (by kernel_rfl))
 f46:=⟨Tryz.f211.name,by decide,Tryz.func211.trans (congrArg some (by kernel_rfl))⟩
 f47:=Tryz.func197.trans (congrArg some (by kernel_rfl))
 f48:=Tryz.func198.trans (congrArg some (by kernel_rfl))
 f49:=⟨Tryz.f212.name,by decide,Tryz.func212.trans (congrArg some (by kernel_rfl))⟩
 f50:=⟨Tryz.f213.name,by decide,Tryz.func213.trans (congrArg some (by kernel_rfl))⟩
 f57:=⟨Tryz.f227.name,by decide,Tryz.func227.trans (congrArg some (by kernel_rfl))⟩
 t0:=Tryz.underlying0
 a0:=Tryz.isAgg0
 z0:=Tryz.sizeOf0
 v0:=Tryz.zeroValue0
 t3:=Tryz.underlying3
 a3:=Tryz.isAgg3
 z3:=Tryz.sizeOf3
 v3:=Tryz.zeroValue3
 t4:=Tryz.underlying4
 a4:=Tryz.isAgg4
 z4:=Tryz.sizeOf4
 v4:=Tryz.zeroValue4
 t5:=Tryz.underlying5
 a5:=Tryz.isAgg5
 z5:=Tryz.sizeOf5
 v5:=Tryz.zeroValue5
 t9:=Tryz.underlying9
 a9:=Tryz.isAgg9
 z9:=Tryz.sizeOf9
 v9:=Tryz.zeroValue9
 t22:=Tryz.underlying26
 a22:=Tryz.isAgg26
 z22:=Tryz.sizeOf26
 v22:=Tryz.zeroValue26
 t25:=Tryz.underlying148
 a25:=Tryz.isAgg148
 z25:=Tryz.sizeOf148
 v25:=Tryz.zeroValue148
 t39:=Tryz.underlying164
 a39:=Tryz.isAgg164
 z39:=Tryz.sizeOf164
 v39:=Tryz.zeroValue164
 t45:=Tryz.underlying185
 a45:=Tryz.isAgg185
 z45:=Tryz.sizeOf185
 v45:=Tryz.zeroValue185
 t46:=Tryz.underlying186
 a46:=Tryz.isAgg186
 z46:=Tryz.sizeOf186
 v46:=Tryz.zeroValue186
 t50:=Tryz.underlying191
 a50:=Tryz.isAgg191
 z50:=Tryz.sizeOf191
 v50:=Tryz.zeroValue191
 t53:=Tryz.underlying194
 a53:=Tryz.isAgg194
 z53:=Tryz.sizeOf194
 v53:=Tryz.zeroValue194
 t55:=Tryz.underlying23
 a55:=Tryz.isAgg23
 z55:=Tryz.sizeOf23
 v55:=Tryz.zeroValue23
 t66:=Tryz.underlying223
 a66:=Tryz.isAgg223
 z66:=Tryz.sizeOf223
 v66:=Tryz.zeroValue223
 t70:=Tryz.underlying226
 a70:=Tryz.isAgg226
 z70:=Tryz.sizeOf226
 v70:=Tryz.zeroValue226
 t76:=Tryz.underlying239
 a76:=Tryz.isAgg239
 z76:=Tryz.sizeOf239
 v76:=Tryz.zeroValue239
 t77:=Tryz.underlying240
 a77:=Tryz.isAgg240
 z77:=Tryz.sizeOf240
 v77:=Tryz.zeroValue240 }
def Tryz.sortMk_ren:Go.Shelf.Ren:=⟨fun|6=>157|15=>107|14=>201|28=>154|29=>155|20=>218|21=>219|22=>220|23=>221|24=>222|25=>223|26=>224|27=>225|46=>236|47=>197|48=>198|49=>237|50=>238|57=>250|n=>n,fun|22=>34|24=>103|25=>198|3=>3|39=>164|0=>0|53=>194|55=>23|4=>4|46=>186|45=>185|50=>191|5=>5|9=>9|66=>223|70=>226|76=>239|77=>240|n=>n,fun|n=>n⟩
theorem Tryz.sortMk:Go.Proofs.SlLaysF0.n6 Tryz.prog Tryz.sortMk_ren:={
 mixed:=by kernel_rfl
 f6:=⟨Tryz.f157.name,by decide,Tryz.func157.trans (congrArg some (by kernel_rfl))⟩
 f14:=⟨Tryz.f201.name,by decide,Tryz.func201.trans (congrArg some (by kernel_rfl))⟩
 f15:=Tryz.func107.trans (congrArg some (by kernel_rfl))
 f20:=⟨Tryz.f218.name,by decide,Tryz.func218.trans (congrArg some (by kernel_rfl))⟩
 f21:=⟨Tryz.f219.name,by decide,Tryz.func219.trans (congrArg some (by kernel_rfl))⟩
 f22:=⟨Tryz.f220.name,by decide,Tryz.func220.trans (congrArg some (by kernel_rfl))⟩
 f23:=⟨Tryz.f221.name,by decide,Tryz.func221.trans (congrArg some (by kernel_rfl))⟩
 f24:=⟨Tryz.f222.name,by decide,Tryz.func222.trans (congrArg some (by kernel_rfl))⟩
 f25:=⟨Tryz.f223.name,by decide,Tryz.func223.trans (congrArg some (by kernel_rfl))⟩
 f26:=⟨Tryz.f224.name,by decide,Tryz.func224.trans (congrArg some (by kernel_rfl))⟩
 f27:=⟨Tryz.f225.name,by decide,Tryz.func225.trans (congrArg some (by kernel_rfl))⟩
 f28:=Tryz.func154.trans (congrArg some (by kernel_rfl))
 f29:=Tryz.func155.trans (congrArg some (by kernel_rfl))
 f46:=⟨Tryz.f236.name,by decide,Tryz.func236.trans (congrArg some (by kernel_rfl))⟩
 f47:=Tryz.func197.trans (congrArg some (by kernel_rfl))
 f48:=Tryz.func198.trans (congrArg some (by kernel_rfl))
 f49:=⟨Tryz.f237.name,by decide,Tryz.func237.trans (congrArg some (by kernel_rfl))⟩
 f50:=⟨Tryz.f238.name,by decide,Tryz.func238.trans (congrArg some (by kernel_rfl))⟩
 f57:=⟨Tryz.f250.name,by decide,Tryz.func250.trans (congrArg some (by kernel_rfl))⟩
 t0:=Tryz.underlying0
 a0:=Tryz.isAgg0
 z0:=Tryz.sizeOf0
 v0:=Tryz.zeroValue0
 t3:=Tryz.underlying3
 a3:=Tryz.isAgg3
 z3:=Tryz.sizeOf3
 v3:=Tryz.zeroValue3
 t4:=Tryz.underlying4
 a4:=Tryz.isAgg4
 z4:=Tryz.sizeOf4
 v4:=Tryz.zeroValue4
 t5:=Tryz.underlying5
 a5:=Tryz.isAgg5
 z5:=Tryz.sizeOf5
 v5:=Tryz.zeroValue5
 t9:=Tryz.underlying9
 a9:=Tryz.isAgg9
 z9:=Tryz.sizeOf9
 v9:=Tryz.zeroValue9
 t22:=Tryz.underlying34
 a22:=Tryz.isAgg34
 z22:=Tryz.sizeOf34
 v22:=Tryz.zeroValue34
 t25:=Tryz.underlying198
 a25:=Tryz.isAgg198
 z25:=Tryz.sizeOf198
 v25:=Tryz.zeroValue198
 t39:=Tryz.underlying164
 a39:=Tryz.isAgg164
 z39:=Tryz.sizeOf164
 v39:=Tryz.zeroValue164
 t45:=Tryz.underlying185
 a45:=Tryz.isAgg185
 z45:=Tryz.sizeOf185
 v45:=Tryz.zeroValue185
 t46:=Tryz.underlying186
 a46:=Tryz.isAgg186
 z46:=Tryz.sizeOf186
 v46:=Tryz.zeroValue186
 t50:=Tryz.underlying191
 a50:=Tryz.isAgg191
 z50:=Tryz.sizeOf191
 v50:=Tryz.zeroValue191
 t53:=Tryz.underlying194
 a53:=Tryz.isAgg194
 z53:=Tryz.sizeOf194
 v53:=Tryz.zeroValue194
 t55:=Tryz.underlying23
 a55:=Tryz.isAgg23
 z55:=Tryz.sizeOf23
 v55:=Tryz.zeroValue23
 t66:=Tryz.underlying223
 a66:=Tryz.isAgg223
 z66:=Tryz.sizeOf223
 v66:=Tryz.zeroValue223
 t70:=Tryz.underlying226
 a70:=Tryz.isAgg226
 z70:=Tryz.sizeOf226
 v70:=Tryz.zeroValue226
 t76:=Tryz.underlying239
 a76:=Tryz.isAgg239
 z76:=Tryz.sizeOf239
 v76:=Tryz.zeroValue239
 t77:=Tryz.underlying240
 a77:=Tryz.isAgg240
 z77:=Tryz.sizeOf240
 v77:=Tryz.zeroValue240 }
def Tryz.sortPl_ren:Go.Shelf.Ren:=⟨fun|6=>190|15=>107|14=>215|28=>154|29=>155|20=>228|21=>229|22=>230|23=>231|24=>232|25=>233|26=>234|27=>235|46=>247|47=>197|48=>198|49=>248|50=>249|57=>254|n=>n,fun|22=>78|24=>36|25=>220|3=>3|39=>164|0=>0|53=>194|55=>23|4=>4|46=>186|45=>185|50=>191|5=>5|9=>9|66=>223|70=>226|76=>239|77=>240|n=>n,fun|n=>n⟩
theorem Tryz.sortPl:Go.Proofs.SlLaysF0.n6 Tryz.prog Tryz.sortPl_ren:={
 mixed:=by kernel_rfl
 f6:=⟨Tryz.f190.name,by decide,Tryz.func190.trans (congrArg some (by kernel_rfl))⟩
 f14:=⟨Tryz.f215.name,by decide,Tryz.func215.trans (congrArg some (by kernel_rfl))⟩
 f15:=Tryz.func107.trans (congrArg some (by kernel_rfl))
 f20:=⟨Tryz.f228.name,by decide,Tryz.func228.trans (congrArg some (by kernel_rfl))⟩
 f21:=⟨Tryz.f229.name,by decide,Tryz.func229.trans (congrArg some (by kernel_rfl))⟩
 f22:=⟨Tryz.f230.name,by decide,Tryz.func230.trans (congrArg some (by kernel_rfl))⟩
 f23:=⟨Tryz.f231.name,by decide,Tryz.func231.trans (congrArg some (by kernel_rfl))⟩
 f24:=⟨Tryz.f232.name,by decide,Tryz.func232.trans (congrArg some (by kernel_rfl))⟩
 f25:=⟨Tryz.f233.name,by decide,Tryz.func233.trans (congrArg some (by kernel_rfl))⟩
 f26:=⟨Tryz.f234.name,by decide,Tryz.func234.trans (congrArg some (by kernel_rfl))⟩
 f27:=⟨Tryz.f235.name,by decide,Tryz.func235.trans (congrArg some (by kernel_rfl))⟩
 f28:=Tryz.func154.trans (congrArg some (by kernel_rfl))
 f29:=Tryz.func155.trans (congrArg some (by kernel_rfl))
 f46:=⟨Tryz.f247.name,by decide,Tryz.func247.trans (congrArg some (by kernel_rfl))⟩
 f47:=Tryz.func197.trans (congrArg some (by kernel_rfl))
 f48:=Tryz.func198.trans (congrArg some (by kernel_rfl))
 f49:=⟨Tryz.f248.name,by decide,Tryz.func248.trans (congrArg some (by kernel_rfl))⟩
 f50:=⟨Tryz.f249.name,by decide,Tryz.func249.trans (congrArg some (by kernel_rfl))⟩
 f57:=⟨Tryz.f254.name,by decide,Tryz.func254.trans (congrArg some (by kernel_rfl))⟩
 t0:=Tryz.underlying0
 a0:=Tryz.isAgg0
 z0:=Tryz.sizeOf0
 v0:=Tryz.zeroValue0
 t3:=Tryz.underlying3
 a3:=Tryz.isAgg3
 z3:=Tryz.sizeOf3
 v3:=Tryz.zeroValue3
 t4:=Tryz.underlying4
 a4:=Tryz.isAgg4
 z4:=Tryz.sizeOf4
 v4:=Tryz.zeroValue4
 t5:=Tryz.underlying5
 a5:=Tryz.isAgg5
 z5:=Tryz.sizeOf5
 v5:=Tryz.zeroValue5
 t9:=Tryz.underlying9
 a9:=Tryz.isAgg9
 z9:=Tryz.sizeOf9
 v9:=Tryz.zeroValue9
 t22:=Tryz.underlying78
 a22:=Tryz.isAgg78
 z22:=Tryz.sizeOf78
 v22:=Tryz.zeroValue78
 t25:=Tryz.underlying220
 a25:=Tryz.isAgg220
 z25:=Tryz.sizeOf220
 v25:=Tryz.zeroValue220
 t39:=Tryz.underlying164
 a39:=Tryz.isAgg164
 z39:=Tryz.sizeOf164
 v39:=Tryz.zeroValue164
 t45:=Tryz.underlying185
 a45:=Tryz.isAgg185
 z45:=Tryz.sizeOf185
 v45:=Tryz.zeroValue185
 t46:=Tryz.underlying186
 a46:=Tryz.isAgg186
 z46:=Tryz.sizeOf186
 v46:=Tryz.zeroValue186
 t50:=Tryz.underlying191
 a50:=Tryz.isAgg191
 z50:=Tryz.sizeOf191
 v50:=Tryz.zeroValue191
 t53:=Tryz.underlying194
 a53:=Tryz.isAgg194
 z53:=Tryz.sizeOf194
 v53:=Tryz.zeroValue194
 t55:=Tryz.underlying23
 a55:=Tryz.isAgg23
 z55:=Tryz.sizeOf23
 v55:=Tryz.zeroValue23
 t66:=Tryz.underlying223
 a66:=Tryz.isAgg223
 z66:=Tryz.sizeOf223
 v66:=Tryz.zeroValue223
 t70:=Tryz.underlying226
 a70:=Tryz.isAgg226
 z70:=Tryz.sizeOf226
 v70:=Tryz.zeroValue226
 t76:=Tryz.underlying239
 a76:=Tryz.isAgg239
 z76:=Tryz.sizeOf239
 v76:=Tryz.zeroValue239
 t77:=Tryz.underlying240
 a77:=Tryz.isAgg240
 z77:=Tryz.sizeOf240
 v77:=Tryz.zeroValue240 }
def Tryz.sortCu_ren:Go.Shelf.Ren:=⟨fun|6=>209|15=>107|14=>226|28=>154|29=>155|20=>239|21=>240|22=>241|23=>242|24=>243|25=>244|26=>245|27=>246|46=>251|47=>197|48=>198|49=>252|50=>253|57=>255|n=>n,fun|22=>45|24=>127|25=>234|3=>3|39=>164|0=>0|53=>194|55=>23|4=>4|46=>186|45=>185|50=>191|5=>5|9=>9|66=>223|70=>226|76=>239|77=>240|n=>n,fun|n=>n⟩
theorem Tryz.sortCu:Go.Proofs.SlLaysF0.n6 Tryz.prog Tryz.sortCu_ren:={
 mixed:=by kernel_rfl
 f6:=⟨Tryz.f209.name,by decide,Tryz.func209.trans (congrArg some (by kernel_rfl))⟩
 f14:=⟨Tryz.f226.name,by decide,Tryz.func226.trans (congrArg some (by kernel_rfl))⟩
 f15:=Tryz.func107.trans (congrArg some (by kernel_rfl))
 f20:=⟨Tryz.f239.name,by decide,Tryz.func239.trans (congrArg some (by kernel_rfl))⟩
 f21:=⟨Tryz.f240.name,by decide,Tryz.func240.trans (congrArg some (by kernel_rfl))⟩
 f22:=⟨Tryz.f241.name,by decide,Tryz.func241.trans (congrArg some (by kernel_rfl))⟩
 f23:=⟨Tryz.f242.name,by decide,Tryz.func242.trans (congrArg some (by kernel_rfl))⟩
 f24:=⟨Tryz.f243.name,by decide,Tryz.func243.trans (congrArg some (by kernel_rfl))⟩
 f25:=⟨Tryz.f244.name,by decide,Tryz.func244.trans (congrArg some (by kernel_rfl))⟩
 f26:=⟨Tryz.f245.name,by decide,Tryz.func245.trans (congrArg some (by kernel_rfl))⟩
 f27:=⟨Tryz.f246.name,by decide,Tryz.func246.trans (congrArg some (by kernel_rfl))⟩
 f28:=Tryz.func154.trans (congrArg some (by kernel_rfl))
 f29:=Tryz.func155.trans (congrArg some (by kernel_rfl))
 f46:=⟨Tryz.f251.name,by decide,Tryz.func251.trans (congrArg some (by kernel_rfl))⟩
 f47:=Tryz.func197.trans (congrArg some (by kernel_rfl))
 f48:=Tryz.func198.trans (congrArg some (by kernel_rfl))
 f49:=⟨Tryz.f252.name,by decide,Tryz.func252.trans (congrArg some (by kernel_rfl))⟩
 f50:=⟨Tryz.f253.name,by decide,Tryz.func253.trans (congrArg some (by kernel_rfl))⟩
 f57:=⟨Tryz.f255.name,by decide,Tryz.func255.trans (congrArg some (by kernel_rfl))⟩
 t0:=Tryz.underlying0
 a0:=Tryz.isAgg0
 z0:=Tryz.sizeOf0
 v0:=Tryz.zeroValue0
 t3:=Tryz.underlying3
 a3:=Tryz.isAgg3
 z3:=Tryz.sizeOf3
 v3:=Tryz.zeroValue3
 t4:=Tryz.underlying4
 a4:=Tryz.isAgg4
 z4:=Tryz.sizeOf4
 v4:=Tryz.zeroValue4
 t5:=Tryz.underlying5
 a5:=Tryz.isAgg5
 z5:=Tryz.sizeOf5
 v5:=Tryz.zeroValue5
 t9:=Tryz.underlying9
 a9:=Tryz.isAgg9
 z9:=Tryz.sizeOf9
 v9:=Tryz.zeroValue9
 t22:=Tryz.underlying45
 a22:=Tryz.isAgg45
 z22:=Tryz.sizeOf45
 v22:=Tryz.zeroValue45
 t25:=Tryz.underlying234
 a25:=Tryz.isAgg234
 z25:=Tryz.sizeOf234
 v25:=Tryz.zeroValue234
 t39:=Tryz.underlying164
 a39:=Tryz.isAgg164
 z39:=Tryz.sizeOf164
 v39:=Tryz.zeroValue164
 t45:=Tryz.underlying185
 a45:=Tryz.isAgg185
 z45:=Tryz.sizeOf185
 v45:=Tryz.zeroValue185
 t46:=Tryz.underlying186
 a46:=Tryz.isAgg186
 z46:=Tryz.sizeOf186
 v46:=Tryz.zeroValue186
 t50:=Tryz.underlying191
 a50:=Tryz.isAgg191
 z50:=Tryz.sizeOf191
 v50:=Tryz.zeroValue191
 t53:=Tryz.underlying194
 a53:=Tryz.isAgg194
 z53:=Tryz.sizeOf194
 v53:=Tryz.zeroValue194
 t55:=Tryz.underlying23
 a55:=Tryz.isAgg23
 z55:=Tryz.sizeOf23
 v55:=Tryz.zeroValue23
 t66:=Tryz.underlying223
 a66:=Tryz.isAgg223
 z66:=Tryz.sizeOf223
 v66:=Tryz.zeroValue223
 t70:=Tryz.underlying226
 a70:=Tryz.isAgg226
 z70:=Tryz.sizeOf226
 v70:=Tryz.zeroValue226
 t76:=Tryz.underlying239
 a76:=Tryz.isAgg239
 z76:=Tryz.sizeOf239
 v76:=Tryz.zeroValue239
 t77:=Tryz.underlying240
 a77:=Tryz.isAgg240
 z77:=Tryz.sizeOf240
 v77:=Tryz.zeroValue240 }
end Go.Proofs
end
section
open Go Go.Proofs.Tryz Go.AX Go.Sort
namespace Go.Proofs.YtiagceoepkaeoaaGreat.Tb
theorem aam:aQ prog 196 f196:=bU func196
theorem Uq (A:Array Int)(lo hi first:Nat)(hb:first+hi≤A.size)(hs:A.size<4611686018427387904)(hl:lo≤hi) :
  dU prog 196 [.aB 1 0,.pv (ii lo),.pv (ii hi),.pv (ii first)] [(1,.arr 23 0 1 (uA A))] (.pv (.dn [])) [(1,.arr 23 0 1 (uA (siftDown ltInt hi first lo A)))]:=by
 obtain⟨X,hX⟩:∃X,siftDown ltInt hi first lo A=X:=⟨_,rfl⟩
 rw[hX];refine jy aam ?_;repeat' ((conv=>whnf);first|with_reducible apply aG|((with_reducible apply fk)<;>intro hc<;>try exact aK)|refine aC ?_|fail)
 refine⟨{p:Nat×Array Int // p.2.size=A.size∧siftDown ltInt hi first p.1 p.2=X∧p.1≤hi},fun⟨(r,D),_⟩=>⟨[(0,.aB 1 0),(2,.pv (ii hi)),(3,.pv (ii first)),(8,.pv (ii r))],1000000000,[(1,.arr 23 0 1 (uA D))]⟩,fun⟨(r,_),_⟩=>hi-r,⟨⟨(lo,A),rfl,hX,hl⟩,aj ?_⟩,?_⟩
 ·all_goals exact ay
 clear hX;rintro⟨⟨r,D⟩,h1,h2,h3⟩
 simp only at h1 h2 h3;have w1:IntKind.i64.wrap (IntKind.i64.wrap (2*(r:Int))+1)=((2*r+1:Nat):Int):=by rw[aJ (n:=2*(r:Int)) (by omega) (by omega),aJ (by omega) (by omega)];omega
 rw[siftDown] at h2;by_cases hge:2*r+1≥hi
 ·rw[dif_pos hge] at h2;subst h2;have d0:decide (((2*r+1:Nat):Int)≥(hi:Int))=true:=by simp only[gQ];omega
  repeat' ((conv=>whnf);first|with_reducible apply aG|((with_reducible apply fk)<;>intro hc<;>try exact aK)|rewrite[w1]|refine aC ?_|fail)
  refine⟨_,_,⟨rfl,rfl⟩,?_⟩;all_goals exact ay
 rw[dif_neg hge] at h2;have d0:decide (((2*r+1:Nat):Int)≥(hi:Int))=false:=by simp only[kQ];omega
 have w2:IntKind.i64.wrap (((2*r+1:Nat):Int)+1)=((2*r+2:Nat):Int):=by rw[aJ (by omega) (by omega)];omega
 have wr:IntKind.i64.wrap ((first:Int)+(r:Int))=((first+r:Nat):Int):=by rw[aJ (by omega) (by omega)];omega
 have wc:IntKind.i64.wrap ((first:Int)+((2*r+1:Nat):Int))=((first+(2*r+1):Nat):Int):=by rw[aJ (by omega) (by omega)];omega
 have we:IntKind.i64.wrap (((first+(2*r+1):Nat):Int)+1)=((first+(2*r+1)+1:Nat):Int):=by rw[aJ (by omega) (by omega)];omega
 by_cases hA:2*r+1+1<hi
 ·have d1:decide (((2*r+2:Nat):Int)<(hi:Int))=true:=by simp only[gQ];omega
  have wd:IntKind.i64.wrap ((first:Int)+((2*r+2:Nat):Int))=((first+(2*r+2):Nat):Int):=by rw[aJ (by omega) (by omega)];omega
  cases hl1:decide (D[first+(2*r+1)]! < D[first+(2*r+1)+1]!) with
  | true=>
    rw[if_pos (by rw[Aq,hl1];simp;omega)] at h2;cases hl2:decide (D[first+r]! < D[first+(2*r+2)]!) with
    | false=>
      rw[if_pos (by rw[Aq,hl2];rfl)] at h2;subst h2;repeat' ((conv=>whnf);first|with_reducible apply aG|((with_reducible apply fk)<;>intro hc<;>try exact fO)|rewrite[w1]|rewrite[w2]|rewrite[wr]|rewrite[wc]|rewrite[wd]|rewrite[we]|(rewrite[dA])|(refine⟨_,dz _ _ (by first|omega|exact gG),?_⟩)|((with_reducible apply And.intro);exact gG)|(apply aH;refine⟨_,bG _ _,?_⟩)|refine aC ?_|fail)
      refine⟨_,_,⟨rfl,rfl⟩,?_⟩;all_goals exact ay
    | true=>
      rw[if_neg (by rw[Aq,hl2];simp),dif_pos (by omega)] at h2;repeat' ((conv=>whnf);first|with_reducible apply aG|((with_reducible apply fk)<;>intro hc<;>try exact fO)|rewrite[w1]|rewrite[w2]|rewrite[wr]|rewrite[wc]|rewrite[wd]|rewrite[we]|(rewrite[dA])|(refine⟨_,dz _ _ (by first|omega|exact gG),?_⟩)|((with_reducible apply And.intro);exact gG)|(apply aH;refine⟨_,bG _ _,?_⟩)|refine aC ?_|fail)
      refine⟨⟨(2*r+2,swp D (first+r) (first+(2*r+2))),by rw[size_swp];exact h1,h2,by omega⟩,(by show hi-(2*r+2)<hi-r;omega),aj ?_⟩;all_goals exact ay
  | false=>
    rw[if_neg (by rw[Aq,hl1];simp)] at h2;cases hl2:decide (D[first+r]! < D[first+(2*r+1)]!) with
    | false=>
      rw[if_pos (by rw[Aq,hl2];rfl)] at h2;subst h2;repeat' ((conv=>whnf);first|with_reducible apply aG|((with_reducible apply fk)<;>intro hc<;>try exact fO)|rewrite[w1]|rewrite[w2]|rewrite[wr]|rewrite[wc]|rewrite[wd]|rewrite[we]|(rewrite[dA])|(refine⟨_,dz _ _ (by first|omega|exact gG),?_⟩)|((with_reducible apply And.intro);exact gG)|(apply aH;refine⟨_,bG _ _,?_⟩)|refine aC ?_|fail)
      refine⟨_,_,⟨rfl,rfl⟩,?_⟩;all_goals exact ay
    | true=>
      rw[if_neg (by rw[Aq,hl2];simp)] at h2;repeat' ((conv=>whnf);first|with_reducible apply aG|((with_reducible apply fk)<;>intro hc<;>try exact fO)|rewrite[w1]|rewrite[w2]|rewrite[wr]|rewrite[wc]|rewrite[wd]|rewrite[we]|(rewrite[dA])|(refine⟨_,dz _ _ (by first|omega|exact gG),?_⟩)|((with_reducible apply And.intro);exact gG)|(apply aH;refine⟨_,bG _ _,?_⟩)|refine aC ?_|fail)
      refine⟨⟨(2*r+1,swp D (first+r) (first+(2*r+1))),by rw[size_swp];exact h1,h2,by omega⟩,(by show hi-(2*r+1)<hi-r;omega),aj ?_⟩;all_goals exact ay
 have d1:decide (((2*r+2:Nat):Int)<(hi:Int))=false:=by simp only[kQ];omega
 rw[if_neg (by simp;omega)] at h2;cases hl2:decide (D[first+r]! < D[first+(2*r+1)]!) with
 | false=>
   rw[if_pos (by rw[Aq,hl2];rfl)] at h2;subst h2;repeat' ((conv=>whnf);first|with_reducible apply aG|((with_reducible apply fk)<;>intro hc<;>try exact fO)|rewrite[w1]|rewrite[w2]|rewrite[wr]|rewrite[wc]|rewrite[we]|(rewrite[dA])|(refine⟨_,dz _ _ (by first|omega|exact gG),?_⟩)|((with_reducible apply And.intro);exact gG)|(apply aH;refine⟨_,bG _ _,?_⟩)|refine aC ?_|fail)
   refine⟨_,_,⟨rfl,rfl⟩,?_⟩;all_goals exact ay
 | true=>
   rw[if_neg (by rw[Aq,hl2];simp)] at h2;repeat' ((conv=>whnf);first|with_reducible apply aG|((with_reducible apply fk)<;>intro hc<;>try exact fO)|rewrite[w1]|rewrite[w2]|rewrite[wr]|rewrite[wc]|rewrite[we]|(rewrite[dA])|(refine⟨_,dz _ _ (by first|omega|exact gG),?_⟩)|((with_reducible apply And.intro);exact gG)|(apply aH;refine⟨_,bG _ _,?_⟩)|refine aC ?_|fail)
   refine⟨⟨(2*r+1,swp D (first+r) (first+(2*r+1))),by rw[size_swp];exact h1,h2,by omega⟩,(by show hi-(2*r+1)<hi-r;omega),aj ?_⟩;all_goals exact ay
theorem WN:aQ prog 155 f155:=bU func155
theorem aap (x:Nat)(h1:x<18446744073709551616):bC prog 155 [uu x] (ii (bitsLen x)):=by
 refine⟨WN.enters,fun F w dm hF ha=>?_⟩;simp only[dX,bE,uu] at ha;obtain⟨v,r,e1,rfl,rfl⟩:=ha;have hc:dm = #[.int .u64 x]:=by rw[←Array.toList_inj,e1]
 subst hc;refine (Go.Proofs.YtiagceoepkaeoaaGreat.aaq x w (by omega) (by omega)).mono fun e w' ⟨he,hw⟩=>?_
 subst hw;rw[Int.toNat_natCast,bitLen_eq _ (by omega)] at he;exact⟨_,_,he,rfl,by simp only[bE],nI.refl _ _⟩
theorem ac6:aQ prog 107 f107:=bU func107
theorem RY (x:Nat)(h1:x<18446744073709551616):bC prog 107 [uu x] (ii (bitsLen x)):=by
 refine PC.le ?_;refine bM ac6 ?_;repeat' ((conv=>whnf);first|with_reducible apply aG|((with_reducible apply fk)<;>intro hc<;>try exact aK)|(apply aH;refine⟨_,aap x h1,?_⟩)|refine aC ?_|fail)
 all_goals exact ay
theorem ac7:aQ prog 197 f197:=bU func197
theorem afP (n:Nat)(hn:n<4611686018427387904):bC prog 197 [ii n] (uu ((1 <<< bitsLen n:Nat):Int)):=by
 refine PC.le ?_;have wn:IntKind.u64.wrap (n:Int)=(n:Int):=vO (by omega) (by omega);have hk:bitsLen n≤62:=(bitsLen_le_iff n 62).2 (by omega);have hp:=wrap_two_pow (bitsLen n) hk;obtain⟨M,hM⟩:∃M:Nat,M=1 <<< bitsLen n:=⟨_,rfl⟩;rw[←hM] at hp ⊢;have c:=RY n (by omega);obtain⟨k,hk2⟩:∃k:Nat,k=bitsLen n:=⟨_,rfl⟩;rw[←hk2] at hp c hk;have wp:IntKind.u64.wrap (1*2 ^ min (Int.toNat (k:Int)) IntKind.u64.bits)=(M:Int):=by
  rw[Int.toNat_natCast,show min k IntKind.u64.bits=k from Nat.min_eq_left (by show k≤64;omega),Int.one_mul];exact hp
 have dk:decide ((k:Int)<0)=false:=by simp only[kQ];omega
 refine bM ac7 ?_;repeat' ((conv=>whnf);first|with_reducible apply aG|((with_reducible apply fk)<;>intro hc<;>try exact aK)|rewrite[wn]|(apply aH;refine⟨_,c,?_⟩)|refine aC ?_|fail)
 repeat' first|apply And.intro|exact ay|fail
 all_goals try (conv=>whnf)
 all_goals exact wp
theorem aar:aQ prog 198 f198:=bU func198
theorem ac8 (X:Nat)(hX:X<18446744073709551616) :
  dU prog 198 [.ptr 1 0] [(1,.var [.pv (uu X)])] (.pv (uu (xorNextN X:Nat))) [(1,.var [.pv (uu (xorNextN X:Nat))])]:=by
 obtain⟨A,hA⟩:∃A:Nat,A=X ^^^ (X*8192%18446744073709551616):=⟨_,rfl⟩;obtain⟨B,hB⟩:∃B:Nat,B=A ^^^ (A / 128):=⟨_,rfl⟩;obtain⟨C,hC⟩:∃C:Nat,C=B ^^^ (B*131072%18446744073709551616):=⟨_,rfl⟩;have lA:A<18446744073709551616:=by rw[hA];exact Nat.xor_lt_two_pow (n:=64) (by omega) (by omega)
 have lB:B<18446744073709551616:=by rw[hB];exact Nat.xor_lt_two_pow (n:=64) (by omega) (by omega)
 have e1:IntKind.u64.wrap (((BitVec.ofInt IntKind.u64.bits (X:Int) ^^^ BitVec.ofInt IntKind.u64.bits (IntKind.u64.wrap ((X:Int)*2 ^ min (Int.toNat 13) IntKind.u64.bits))).toNat:Nat):Int)=(A:Int):=by
  have e:bits .xor .u64 (X:Int) (IntKind.u64.wrap ((X:Int)*8192))=(A:Int):=by
   rw[IntKind.wrap_u64,show ((X:Int)*8192%18446744073709551616)=((X*8192%18446744073709551616:Nat):Int) by omega,bits_xor_u64_nat _ _ hX (by omega),hA]
  exact e
 have e2:IntKind.u64.wrap (((BitVec.ofInt IntKind.u64.bits (A:Int) ^^^ BitVec.ofInt IntKind.u64.bits (Int.fdiv (A:Int) (2 ^ min (Int.toNat 7) IntKind.u64.bits))).toNat:Nat):Int)=(B:Int):=by
  have e:bits .xor .u64 (A:Int) (Int.fdiv (A:Int) 128)=(B:Int):=by
   rw[Int.fdiv_eq_ediv_of_nonneg _ (by decide),show ((A:Int) / 128)=((A / 128:Nat):Int) by omega,bits_xor_u64_nat _ _ lA (by omega),hB]
  exact e
 have e3:IntKind.u64.wrap (((BitVec.ofInt IntKind.u64.bits (B:Int) ^^^ BitVec.ofInt IntKind.u64.bits (IntKind.u64.wrap ((B:Int)*2 ^ min (Int.toNat 17) IntKind.u64.bits))).toNat:Nat):Int)=(C:Int):=by
  have e:bits .xor .u64 (B:Int) (IntKind.u64.wrap ((B:Int)*131072))=(C:Int):=by
   rw[IntKind.wrap_u64,show ((B:Int)*131072%18446744073709551616)=((B*131072%18446744073709551616:Nat):Int) by omega,bits_xor_u64_nat _ _ lB (by omega),hC]
  exact e
 have hv:xorNextN X=C:=by unfold xorNextN;simp only[];rw[←hA,←hB,←hC]
 rw[hv];clear hA hB hC hv;refine jy aar ?_;repeat' ((conv=>whnf);first|with_reducible apply aG|((with_reducible apply fk)<;>intro hc<;>try exact aK)|rewrite[e1]|rewrite[e2]|rewrite[e3]|refine aC ?_|fail)
 refine⟨_,_,⟨rfl,rfl⟩,?_⟩;all_goals exact ay
end Go.Proofs.YtiagceoepkaeoaaGreat.Tb
end
section
open Go Go.Proofs.Tryz Go.AX Go.Sort Go.Shelf Go.RowKit Go.Lib
namespace Go.Proofs.YtiagceoepkaeoaaGreat.Tb
def VT (x:Pl):List Value:=[.int .i64 x.node,.int .u64 x.dB]
theorem aft (a b c d:Int)(W:World):Calls prog 191 #[.agg #[.int .i64 a,.int .u64 b],.agg #[.int .i64 c,.int .u64 d]] W fun e w'=>e=.returned (.int .i64 (Lib.compareInt a c))∧∃q os',w'=grow (W.drewN q) os':=by
 go_enter func191,Tryz.ntmps191
 go_wp2
 all_goals
  go_ret
  refine⟨?_,0,_,by rw[alloc_eq_grow,alloc_eq_grow,grow_grow];rfl⟩;simp_all [Lib.compareInt];try omega
theorem ahS (x y:Pl)(W:World):Calls prog 191 #[.agg (VT x).toArray,.agg (VT y).toArray] W fun e w'=>e=.returned (.int .i64 (Dj x y))∧∃q os',w'=grow (W.drewN q) os':=
 aft x.node x.dB y.node y.dB W
def VU (x:Mk):List Value:=[.int .i64 x.producer,.int .u64 x.seq,.int .u64 x.offset]
theorem afu (a b c d e f:Int)(W:World):Calls prog 158 #[.agg #[.int .i64 a,.int .u64 b,.int .u64 c],.agg #[.int .i64 d,.int .u64 e,.int .u64 f]] W fun r w'=>r=.returned (.int .i64 (Lib.compareInt c f))∧∃q os',w'=grow (W.drewN q) os':=by
 go_enter func158,Tryz.ntmps158
 go_wp2
 all_goals
  go_ret
  refine⟨?_,0,_,by rw[alloc_eq_grow,alloc_eq_grow,grow_grow];rfl⟩;simp_all [Lib.compareInt];try omega
theorem ahT (x y:Mk)(W:World):Calls prog 158 #[.agg (VU x).toArray,.agg (VU y).toArray] W fun e w'=>e=.returned (.int .i64 (uI Mk.offset x y))∧∃q os',w'=grow (W.drewN q) os':=
 afu x.producer x.seq x.offset y.producer y.seq y.offset W
theorem uj:bC prog 107 [.sc (.int .u64 0)] (.sc (.int .i64 0)):=RY 0 (by omega)
theorem Ea:aQ prog 228 f228:=bU func228
theorem Bj (f:Fn):bC prog 228 [.sc (.slice none 0 0),ii 0,ii 0,.fn f [] []] unit:=by
 refine PC.le ?_;refine bM Ea ?_;repeat' ((conv=>whnf);first|with_reducible apply aG|((with_reducible apply fk)<;>intro hc<;>try exact aK)|refine aC ?_|fail)
 refine⟨Unit,fun _=>⟨[(0,.pv (.sc (.slice none 0 0))),(1,.pv (ii 0)),(2,.pv (ii 0)),(3,.pv (.fn f [] [])),(8,.pv (ii 1))],1000000000,[]⟩,fun _=>0,⟨(),aj ?_⟩,?_⟩
 ·all_goals exact ay
 rintro⟨⟩
 repeat' ((conv=>whnf);first|with_reducible apply aG|((with_reducible apply fk)<;>intro hc<;>try exact aK)|refine aC ?_|fail)
 all_goals exact ay
theorem Eb:aQ prog 215 f215:=bU func215
theorem IC (f:Fn):bC prog 215 [.sc (.slice none 0 0),ii 0,ii 0,ii 0,.fn f [] []] unit:=by
 refine PC.le ?_;refine bM Eb ?_;repeat' ((conv=>whnf);first|with_reducible apply aG|((with_reducible apply fk)<;>intro hc<;>try exact aK)|refine aC ?_|fail)
 refine⟨Unit,fun _=>⟨[(0,.pv (.sc (.slice none 0 0))),(1,.pv (ii 0)),(2,.pv (ii 0)),(3,.pv (ii 0)),(4,.pv (.fn f [] [])),(10,.pv (bl true)),(11,.pv (bl true))],1000000000,[]⟩,fun _=>0,⟨(),aj ?_⟩,?_⟩
 ·all_goals exact ay
 rintro⟨⟩
 repeat' ((conv=>whnf);first|with_reducible apply aG|((with_reducible apply fk)<;>intro hc<;>try exact aK)|(apply aH;refine⟨_,Bj f,?_⟩)|refine aC ?_|fail)
 all_goals exact ay
theorem IE:aQ prog 190 f190:=bU func190
theorem Gp (f:Fn):bC prog 190 [.sc (.slice none 0 0),.fn f [] []] unit:=by
 refine PC.le ?_;refine bM IE ?_;repeat' ((conv=>whnf);first|with_reducible apply aG|((with_reducible apply fk)<;>intro hc<;>try exact aK)|(apply aH;refine⟨_,uj,?_⟩)|(apply aH;refine⟨_,IC f,?_⟩)|refine aC ?_|fail)
 all_goals exact ay
theorem OU (l:List Pl)(h:l.length≤8796093022208):dU prog 190 [.aB 1 0,.pv (.fn (.func 191) [] [])] [(1,.arr 36 0 2 (l.map Pl.c))] (.pv unit)
  [(1,.arr 36 0 2 ((yD l.toArray).toList.map Pl.c))]:=by
 have eg:∀args w,(callFunc 191 args).run prog w=.ok (.enter 191 args) w:=enters_of func191 (by kernel_rfl) rfl;exact Em (enc:=VT) (st:=2) yD (by decide) (fun _=>rfl) (fun x v hv=>by simp[VT] at hv;rcases hv with rfl|rfl|rfl<;>rfl) FB
  (fun blk cap d w hH hblk hsz=>AnyQ.slices_SortFunc_eq Tryz.sortPl 2 Tryz.isAgg36 Tryz.sizeOf36 VT (fun _=>rfl) (fun x v hv=>by simp[VT] at hv;rcases hv with rfl|rfl|rfl<;>rfl) Dj adD 191 #[] blk 0 cap d w eg
   (fun _ _ _ _ x y=>ahS x y _) hH hblk hsz) (Gp _) l (by omega)
theorem Gq:aQ prog 218 f218:=bU func218
theorem Cr (f:Fn):bC prog 218 [.sc (.slice none 0 0),ii 0,ii 0,.fn f [] []] unit:=by
 refine PC.le ?_;refine bM Gq ?_;repeat' ((conv=>whnf);first|with_reducible apply aG|((with_reducible apply fk)<;>intro hc<;>try exact aK)|refine aC ?_|fail)
 refine⟨Unit,fun _=>⟨[(0,.pv (.sc (.slice none 0 0))),(1,.pv (ii 0)),(2,.pv (ii 0)),(3,.pv (.fn f [] [])),(8,.pv (ii 1))],1000000000,[]⟩,fun _=>0,⟨(),aj ?_⟩,?_⟩
 ·all_goals exact ay
 rintro⟨⟩
 repeat' ((conv=>whnf);first|with_reducible apply aG|((with_reducible apply fk)<;>intro hc<;>try exact aK)|refine aC ?_|fail)
 all_goals exact ay
theorem Gr:aQ prog 201 f201:=bU func201
theorem LK (f:Fn):bC prog 201 [.sc (.slice none 0 0),ii 0,ii 0,ii 0,.fn f [] []] unit:=by
 refine PC.le ?_;refine bM Gr ?_;repeat' ((conv=>whnf);first|with_reducible apply aG|((with_reducible apply fk)<;>intro hc<;>try exact aK)|refine aC ?_|fail)
 refine⟨Unit,fun _=>⟨[(0,.pv (.sc (.slice none 0 0))),(1,.pv (ii 0)),(2,.pv (ii 0)),(3,.pv (ii 0)),(4,.pv (.fn f [] [])),(10,.pv (bl true)),(11,.pv (bl true))],1000000000,[]⟩,fun _=>0,⟨(),aj ?_⟩,?_⟩
 ·all_goals exact ay
 rintro⟨⟩
 repeat' ((conv=>whnf);first|with_reducible apply aG|((with_reducible apply fk)<;>intro hc<;>try exact aK)|(apply aH;refine⟨_,Cr f,?_⟩)|refine aC ?_|fail)
 all_goals exact ay
theorem LM:aQ prog 157 f157:=bU func157
theorem IG (f:Fn):bC prog 157 [.sc (.slice none 0 0),.fn f [] []] unit:=by
 refine PC.le ?_;refine bM LM ?_;repeat' ((conv=>whnf);first|with_reducible apply aG|((with_reducible apply fk)<;>intro hc<;>try exact aK)|(apply aH;refine⟨_,uj,?_⟩)|(apply aH;refine⟨_,LK f,?_⟩)|refine aC ?_|fail)
 all_goals exact ay
theorem RU (l:List Mk)(h:l.length≤8796093022208):dU prog 157 [.aB 1 0,.pv (.fn (.func 158) [] [])] [(1,.arr 103 0 3 (l.map Mk.c))] (.pv unit)
  [(1,.arr 103 0 3 (((iP Mk.offset) l.toArray).toList.map Mk.c))]:=by
 have eg:∀args w,(callFunc 158 args).run prog w=.ok (.enter 158 args) w:=enters_of func158 (by kernel_rfl) rfl;exact Em (enc:=VU) (st:=3) (iP Mk.offset) (by decide) (fun _=>rfl) (fun x v hv=>by simp[VU] at hv;rcases hv with rfl|rfl|rfl<;>rfl) (qw Mk.offset)
  (fun blk cap d w hH hblk hsz=>AnyQ.slices_SortFunc_eq Tryz.sortMk 3 Tryz.isAgg103 Tryz.sizeOf103 VU (fun _=>rfl) (fun x v hv=>by simp[VU] at hv;rcases hv with rfl|rfl|rfl<;>rfl) (uI Mk.offset) (Tx Mk.offset) 158 #[] blk 0 cap d w eg
   (fun _ _ _ _ x y=>ahT x y _) hH hblk hsz) (IG _) l (by omega)
end Go.Proofs.YtiagceoepkaeoaaGreat.Tb
end
