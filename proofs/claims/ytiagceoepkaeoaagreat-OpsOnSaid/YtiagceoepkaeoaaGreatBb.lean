/-
  Contracts of functions of the program and of the document, each for every input that its premises name.
-/
import Derived.Test.YtiagceoepkaeoaaGreatAe
import Derived.Test.YtiagceoepkaeoaaGreatChecked
import Derived.KernelRfl
import Derived.Test.YtiagceoepkaeoaaGreatAf
import Derived.WalkKit
import Derived.Test.YtiagceoepkaeoaaGreatProg
import Derived.Test.YtiagceoepkaeoaaGreatBa
import Derived.Sort.Walk7
set_option linter.unusedSectionVars false
set_option linter.unusedVariables false
set_option linter.unusedSimpArgs false
set_option maxRecDepth 100000
set_option maxHeartbeats 4000000
section
open Go Go.Proofs.Tryz Go.AX
namespace Go.Proofs.YtiagceoepkaeoaaGreat.Tb
def i3:TI:=⟨1,8,[.int .i64 0],.zN .i64,none⟩
theorem o3:bY prog 3 i3:=⟨by kernel_rfl,by kernel_rfl,rfl,by kernel_rfl,(fun _=>rfl),by kernel_rfl,(fun ks h=>(by cases h))⟩
def i5:TI:=⟨1,1,[.int .u8 0],.zN .u8,none⟩
theorem o5:bY prog 5 i5:=⟨by kernel_rfl,by kernel_rfl,rfl,by kernel_rfl,(fun _=>rfl),by kernel_rfl,(fun ks h=>(by cases h))⟩
def i9:TI:=⟨1,16,[.string ByteArray.empty],.LQ,none⟩
theorem o9:bY prog 9 i9:=⟨by kernel_rfl,by kernel_rfl,rfl,by kernel_rfl,(fun _=>rfl),by kernel_rfl,(fun ks h=>(by cases h))⟩
def i22:TI:=⟨1,24,[.slice none 0 0],.slt 38,none⟩
theorem o22:bY prog 22 i22:=⟨by kernel_rfl,by kernel_rfl,rfl,by kernel_rfl,(fun _=>rfl),by kernel_rfl,(fun ks h=>(by cases h))⟩
def i23:TI:=⟨1,8,[.int .u64 0],.zN .u64,none⟩
theorem o23:bY prog 23 i23:=⟨by kernel_rfl,by kernel_rfl,rfl,by kernel_rfl,(fun _=>rfl),by kernel_rfl,(fun ks h=>(by cases h))⟩
def i24:TI:=⟨1,24,[.slice none 0 0],.slt 47,none⟩
theorem o24:bY prog 24 i24:=⟨by kernel_rfl,by kernel_rfl,rfl,by kernel_rfl,(fun _=>rfl),by kernel_rfl,(fun ks h=>(by cases h))⟩
def i25:TI:=⟨1,24,[.slice none 0 0],.slt 50,none⟩
theorem o25:bY prog 25 i25:=⟨by kernel_rfl,by kernel_rfl,rfl,by kernel_rfl,(fun _=>rfl),by kernel_rfl,(fun ks h=>(by cases h))⟩
def i26:TI:=⟨1,24,[.slice none 0 0],.slt 68,none⟩
theorem o26:bY prog 26 i26:=⟨by kernel_rfl,by kernel_rfl,rfl,by kernel_rfl,(fun _=>rfl),by kernel_rfl,(fun ks h=>(by cases h))⟩
def i28:TI:=⟨5,88,[.int .u64 0,.int .u64 0,.slice none 0 0,.slice none 0 0,.slice none 0 0],.str [(0,23),(1,23),(2,24),(3,25),(4,26)],none⟩
theorem o28:bY prog 28 i28:=⟨by kernel_rfl,by kernel_rfl,rfl,by kernel_rfl,(fun h=>(by cases h)),by kernel_rfl,(fun ks h=>(by cases h))⟩
def i33:TI:=⟨1,24,[.slice none 0 0],.slt 80,none⟩
theorem o33:bY prog 33 i33:=⟨by kernel_rfl,by kernel_rfl,rfl,by kernel_rfl,(fun _=>rfl),by kernel_rfl,(fun ks h=>(by cases h))⟩
def i34:TI:=⟨1,24,[.slice none 0 0],.slt 103,none⟩
theorem o34:bY prog 34 i34:=⟨by kernel_rfl,by kernel_rfl,rfl,by kernel_rfl,(fun _=>rfl),by kernel_rfl,(fun ks h=>(by cases h))⟩
def i36:TI:=⟨2,16,[.int .i64 0,.int .u64 0],.str [(0,3),(1,23)],some [.int .i64,.int .u64]⟩
theorem o36:bY prog 36 i36:=⟨by kernel_rfl,by kernel_rfl,rfl,by kernel_rfl,(fun h=>(by cases h)),by kernel_rfl,(fun ks h=>(by cases h;exact⟨jS (by kernel_rfl) (by kernel_rfl),(by kernel_rfl)⟩))⟩
def i38:TI:=⟨18,176,[.int .i64 0,.int .u64 0,.int .u64 0,.int .i64 0,.int .i64 0,.int .u64 0,.int .u64 0,.int .u64 0,.int .u64 0,.int .i64 0,.int .i64 0,.int .i64 0,.slice none 0 0,.slice none 0 0,.int .i64 0,.int .u64 0,.int .i64 0,.int .u64 0],.str [(0,3),(1,23),(2,23),(3,3),(4,3),(5,23),(6,23),(7,23),(8,23),(9,3),(10,3),(11,3),(12,33),(13,34),(14,36),(16,36)],none⟩
theorem o38:bY prog 38 i38:=⟨by kernel_rfl,by kernel_rfl,rfl,by kernel_rfl,(fun h=>(by cases h)),by kernel_rfl,(fun ks h=>(by cases h))⟩
def i39:TI:=⟨1,8,[.int .i64 0],.zN .i64,none⟩
theorem o39:bY prog 39 i39:=⟨by kernel_rfl,by kernel_rfl,rfl,by kernel_rfl,(fun _=>rfl),by kernel_rfl,(fun ks h=>(by cases h))⟩
def i41:TI:=⟨5,40,[.int .i64 0,.int .u64 0,.int .u64 0,.int .u64 0,.int .i64 0],.str [(0,39),(1,23),(2,23),(3,23),(4,3)],some [.int .i64,.int .u64,.int .u64,.int .u64,.int .i64]⟩
theorem o41:bY prog 41 i41:=⟨by kernel_rfl,by kernel_rfl,rfl,by kernel_rfl,(fun h=>(by cases h)),by kernel_rfl,(fun ks h=>(by cases h;exact⟨jS (by kernel_rfl) (by kernel_rfl),(by kernel_rfl)⟩))⟩
def i44:TI:=⟨1,24,[.slice none 0 0],.slt 23,none⟩
theorem o44:bY prog 44 i44:=⟨by kernel_rfl,by kernel_rfl,rfl,by kernel_rfl,(fun _=>rfl),by kernel_rfl,(fun ks h=>(by cases h))⟩
def i45:TI:=⟨1,24,[.slice none 0 0],.slt 127,none⟩
theorem o45:bY prog 45 i45:=⟨by kernel_rfl,by kernel_rfl,rfl,by kernel_rfl,(fun _=>rfl),by kernel_rfl,(fun ks h=>(by cases h))⟩
def i47:TI:=⟨9,120,[.int .u64 0,.int .i64 0,.int .u64 0,.int .u64 0,.int .u64 0,.int .u64 0,.slice none 0 0,.slice none 0 0,.slice none 0 0],.str [(0,23),(1,3),(2,23),(3,23),(4,23),(5,23),(6,44),(7,34),(8,45)],none⟩
theorem o47:bY prog 47 i47:=⟨by kernel_rfl,by kernel_rfl,rfl,by kernel_rfl,(fun h=>(by cases h)),by kernel_rfl,(fun ks h=>(by cases h))⟩
def i50:TI:=⟨6,64,[.int .u64 0,.int .i64 0,.int .i64 0,.slice none 0 0,.int .i64 0,.int .u64 0],.str [(0,23),(1,3),(2,3),(3,33),(4,3),(5,23)],none⟩
theorem o50:bY prog 50 i50:=⟨by kernel_rfl,by kernel_rfl,rfl,by kernel_rfl,(fun h=>(by cases h)),by kernel_rfl,(fun ks h=>(by cases h))⟩
def i63:TI:=⟨3,24,[.int .u64 0,.int .u64 0,.int .u64 0],.str [(0,23),(1,23),(2,23)],some [.int .u64,.int .u64,.int .u64]⟩
theorem o63:bY prog 63 i63:=⟨by kernel_rfl,by kernel_rfl,rfl,by kernel_rfl,(fun h=>(by cases h)),by kernel_rfl,(fun ks h=>(by cases h;exact⟨jS (by kernel_rfl) (by kernel_rfl),(by kernel_rfl)⟩))⟩
def i68:TI:=⟨8,64,[.int .i64 0,.int .u64 0,.int .u64 0,.int .i64 0,.int .u64 0,.int .u64 0,.int .u64 0,.int .i64 0],.str [(0,3),(1,23),(2,23),(3,41)],some [.int .i64,.int .u64,.int .u64,.int .i64,.int .u64,.int .u64,.int .u64,.int .i64]⟩
theorem o68:bY prog 68 i68:=⟨by kernel_rfl,by kernel_rfl,rfl,by kernel_rfl,(fun h=>(by cases h)),by kernel_rfl,(fun ks h=>(by cases h;exact⟨jS (by kernel_rfl) (by kernel_rfl),(by kernel_rfl)⟩))⟩
def i71:TI:=⟨1,24,[.slice none 0 0],.slt 63,none⟩
theorem o71:bY prog 71 i71:=⟨by kernel_rfl,by kernel_rfl,rfl,by kernel_rfl,(fun _=>rfl),by kernel_rfl,(fun ks h=>(by cases h))⟩
def i78:TI:=⟨1,24,[.slice none 0 0],.slt 36,none⟩
theorem o78:bY prog 78 i78:=⟨by kernel_rfl,by kernel_rfl,rfl,by kernel_rfl,(fun _=>rfl),by kernel_rfl,(fun ks h=>(by cases h))⟩
def i80:TI:=⟨2,32,[.int .u64 0,.slice none 0 0],.str [(0,23),(1,78)],none⟩
theorem o80:bY prog 80 i80:=⟨by kernel_rfl,by kernel_rfl,rfl,by kernel_rfl,(fun h=>(by cases h)),by kernel_rfl,(fun ks h=>(by cases h))⟩
def i85:TI:=⟨1,8,[.pointer none],.Pv 88,none⟩
theorem o85:bY prog 85 i85:=⟨by kernel_rfl,by kernel_rfl,rfl,by kernel_rfl,(fun _=>rfl),by kernel_rfl,(fun ks h=>(by cases h))⟩
def i86:TI:=⟨1,8,[.pointer none],.Pv 47,none⟩
theorem o86:bY prog 86 i86:=⟨by kernel_rfl,by kernel_rfl,rfl,by kernel_rfl,(fun _=>rfl),by kernel_rfl,(fun ks h=>(by cases h))⟩
def i88:TI:=⟨29,312,[.int .u64 0,.int .u64 0,.slice none 0 0,.slice none 0 0,.slice none 0 0,.int .i64 0,.int .u64 0,.int .u64 0,.int .i64 0,.int .i64 0,.int .u64 0,.int .u64 0,.int .u64 0,.int .u64 0,.int .i64 0,.int .i64 0,.int .i64 0,.slice none 0 0,.slice none 0 0,.int .i64 0,.int .u64 0,.int .i64 0,.int .u64 0,.pointer none,.int .i64 0,.int .u64 0,.int .u64 0,.int .u64 0,.int .i64 0],.str [(0,28),(5,38),(23,86),(24,41)],none⟩
theorem o88:bY prog 88 i88:=⟨by kernel_rfl,by kernel_rfl,rfl,by kernel_rfl,(fun h=>(by cases h)),by kernel_rfl,(fun ks h=>(by cases h))⟩
def i90:TI:=⟨1,8,[.nilFunc],.mh,none⟩
theorem o90:bY prog 90 i90:=⟨by kernel_rfl,by kernel_rfl,rfl,by kernel_rfl,(fun _=>rfl),by kernel_rfl,(fun ks h=>(by cases h))⟩
def i92:TI:=⟨2,16,[.int .i64 0,.nilFunc],.str [(0,3),(1,90)],none⟩
theorem o92:bY prog 92 i92:=⟨by kernel_rfl,by kernel_rfl,rfl,by kernel_rfl,(fun h=>(by cases h)),by kernel_rfl,(fun ks h=>(by cases h))⟩
def i98:TI:=⟨1,8,[.nilFunc],.mh,none⟩
theorem o98:bY prog 98 i98:=⟨by kernel_rfl,by kernel_rfl,rfl,by kernel_rfl,(fun _=>rfl),by kernel_rfl,(fun ks h=>(by cases h))⟩
def ag8:TI:=⟨3,24,[.int .i64 0,.int .u64 0,.int .u64 0],.str [(0,3),(1,23),(2,23)],some [.int .i64,.int .u64,.int .u64]⟩
theorem ajD:bY prog 103 ag8:=⟨by kernel_rfl,by kernel_rfl,rfl,by kernel_rfl,(fun h=>(by cases h)),by kernel_rfl,(fun ks h=>(by cases h;exact⟨jS (by kernel_rfl) (by kernel_rfl),(by kernel_rfl)⟩))⟩
def ag9:TI:=⟨1,8,[.nilFunc],.mh,none⟩
theorem ajE:bY prog 111 ag9:=⟨by kernel_rfl,by kernel_rfl,rfl,by kernel_rfl,(fun _=>rfl),by kernel_rfl,(fun ks h=>(by cases h))⟩
def aha:TI:=⟨1,8,[.nilFunc],.mh,none⟩
theorem ajF:bY prog 113 aha:=⟨by kernel_rfl,by kernel_rfl,rfl,by kernel_rfl,(fun _=>rfl),by kernel_rfl,(fun ks h=>(by cases h))⟩
def ahb:TI:=⟨1,8,[.nilFunc],.mh,none⟩
theorem ajG:bY prog 114 ahb:=⟨by kernel_rfl,by kernel_rfl,rfl,by kernel_rfl,(fun _=>rfl),by kernel_rfl,(fun ks h=>(by cases h))⟩
def ahc:TI:=⟨1,8,[.nilFunc],.mh,none⟩
theorem ajH:bY prog 120 ahc:=⟨by kernel_rfl,by kernel_rfl,rfl,by kernel_rfl,(fun _=>rfl),by kernel_rfl,(fun ks h=>(by cases h))⟩
def i127:TI:=⟨2,16,[.int .i64 0,.int .u64 0],.str [(0,3),(1,23)],some [.int .i64,.int .u64]⟩
theorem ajI:bY prog 127 i127:=⟨by kernel_rfl,by kernel_rfl,rfl,by kernel_rfl,(fun h=>(by cases h)),by kernel_rfl,(fun ks h=>(by cases h;exact⟨jS (by kernel_rfl) (by kernel_rfl),(by kernel_rfl)⟩))⟩
def ahd:TI:=⟨1,8,[.nilFunc],.mh,none⟩
theorem ajJ:bY prog 128 ahd:=⟨by kernel_rfl,by kernel_rfl,rfl,by kernel_rfl,(fun _=>rfl),by kernel_rfl,(fun ks h=>(by cases h))⟩
def ahe:TI:=⟨1,8,[.nilFunc],.mh,none⟩
theorem ajK:bY prog 136 ahe:=⟨by kernel_rfl,by kernel_rfl,rfl,by kernel_rfl,(fun _=>rfl),by kernel_rfl,(fun ks h=>(by cases h))⟩
def i138:TI:=⟨1,8,[.nilFunc],.mh,none⟩
theorem ajL:bY prog 138 i138:=⟨by kernel_rfl,by kernel_rfl,rfl,by kernel_rfl,(fun _=>rfl),by kernel_rfl,(fun ks h=>(by cases h))⟩
def ahf:TI:=⟨1,8,[.nilFunc],.mh,none⟩
theorem ajM:bY prog 140 ahf:=⟨by kernel_rfl,by kernel_rfl,rfl,by kernel_rfl,(fun _=>rfl),by kernel_rfl,(fun ks h=>(by cases h))⟩
def i143:TI:=⟨26,208,[.int .i64 0,.nilFunc,.int .i64 0,.nilFunc,.int .i64 0,.nilFunc,.int .i64 0,.nilFunc,.int .i64 0,.nilFunc,.int .i64 0,.nilFunc,.int .i64 0,.nilFunc,.int .i64 0,.nilFunc,.int .i64 0,.nilFunc,.int .i64 0,.nilFunc,.int .i64 0,.nilFunc,.int .i64 0,.nilFunc,.int .i64 0,.nilFunc],.Qn 13 92,none⟩
theorem ajN:bY prog 143 i143:=⟨by kernel_rfl,by kernel_rfl,rfl,by kernel_rfl,(fun h=>(by cases h)),by kernel_rfl,(fun ks h=>(by cases h))⟩
def i148:TI:=⟨1,8,[.nilFunc],.mh,none⟩
theorem ajO:bY prog 148 i148:=⟨by kernel_rfl,by kernel_rfl,rfl,by kernel_rfl,(fun _=>rfl),by kernel_rfl,(fun ks h=>(by cases h))⟩
def i152:TI:=⟨1,8,[.nilFunc],.mh,none⟩
theorem ajP:bY prog 152 i152:=⟨by kernel_rfl,by kernel_rfl,rfl,by kernel_rfl,(fun _=>rfl),by kernel_rfl,(fun ks h=>(by cases h))⟩
def ahg:TI:=⟨1,8,[.map none],.adx 23 3,none⟩
theorem ajQ:bY prog 156 ahg:=⟨by kernel_rfl,by kernel_rfl,rfl,by kernel_rfl,(fun _=>rfl),by kernel_rfl,(fun ks h=>(by cases h))⟩
def i159:TI:=⟨1,8,[.nilFunc],.mh,none⟩
theorem ajR:bY prog 159 i159:=⟨by kernel_rfl,by kernel_rfl,rfl,by kernel_rfl,(fun _=>rfl),by kernel_rfl,(fun ks h=>(by cases h))⟩
def i164:TI:=⟨1,8,[.int .u64 0],.zN .u64,none⟩
theorem ajS:bY prog 164 i164:=⟨by kernel_rfl,by kernel_rfl,rfl,by kernel_rfl,(fun _=>rfl),by kernel_rfl,(fun ks h=>(by cases h))⟩
def ahh:TI:=⟨1,8,[.nilFunc],.mh,none⟩
theorem ajT:bY prog 166 ahh:=⟨by kernel_rfl,by kernel_rfl,rfl,by kernel_rfl,(fun _=>rfl),by kernel_rfl,(fun ks h=>(by cases h))⟩
def ahi:TI:=⟨1,8,[.nilFunc],.mh,none⟩
theorem ajU:bY prog 169 ahi:=⟨by kernel_rfl,by kernel_rfl,rfl,by kernel_rfl,(fun _=>rfl),by kernel_rfl,(fun ks h=>(by cases h))⟩
def i171:TI:=⟨1,8,[.nilFunc],.mh,none⟩
theorem ajV:bY prog 171 i171:=⟨by kernel_rfl,by kernel_rfl,rfl,by kernel_rfl,(fun _=>rfl),by kernel_rfl,(fun ks h=>(by cases h))⟩
def i173:TI:=⟨1,8,[.nilFunc],.mh,none⟩
theorem ajW:bY prog 173 i173:=⟨by kernel_rfl,by kernel_rfl,rfl,by kernel_rfl,(fun _=>rfl),by kernel_rfl,(fun ks h=>(by cases h))⟩
def i175:TI:=⟨1,24,[.slice none 0 0],.slt 3,none⟩
theorem ajX:bY prog 175 i175:=⟨by kernel_rfl,by kernel_rfl,rfl,by kernel_rfl,(fun _=>rfl),by kernel_rfl,(fun ks h=>(by cases h))⟩
def ahj:TI:=⟨1,8,[.nilFunc],.mh,none⟩
theorem ajY:bY prog 181 ahj:=⟨by kernel_rfl,by kernel_rfl,rfl,by kernel_rfl,(fun _=>rfl),by kernel_rfl,(fun ks h=>(by cases h))⟩
def i183:TI:=⟨1,8,[.nilFunc],.mh,none⟩
theorem ajZ:bY prog 183 i183:=⟨by kernel_rfl,by kernel_rfl,rfl,by kernel_rfl,(fun _=>rfl),by kernel_rfl,(fun ks h=>(by cases h))⟩
def ahk:TI:=⟨1,8,[.int .i64 0],.zN .i64,none⟩
theorem aj0:bY prog 185 ahk:=⟨by kernel_rfl,by kernel_rfl,rfl,by kernel_rfl,(fun _=>rfl),by kernel_rfl,(fun ks h=>(by cases h))⟩
def i194:TI:=⟨1,4,[.int .u32 0],.zN .u32,none⟩
theorem aj1:bY prog 194 i194:=⟨by kernel_rfl,by kernel_rfl,rfl,by kernel_rfl,(fun _=>rfl),by kernel_rfl,(fun ks h=>(by cases h))⟩
def i198:TI:=⟨1,8,[.nilFunc],.mh,none⟩
theorem aj2:bY prog 198 i198:=⟨by kernel_rfl,by kernel_rfl,rfl,by kernel_rfl,(fun _=>rfl),by kernel_rfl,(fun ks h=>(by cases h))⟩
def ahl:TI:=⟨1,8,[.nilFunc],.mh,none⟩
theorem aj3:bY prog 200 ahl:=⟨by kernel_rfl,by kernel_rfl,rfl,by kernel_rfl,(fun _=>rfl),by kernel_rfl,(fun ks h=>(by cases h))⟩
def ahm:TI:=⟨1,8,[.nilFunc],.mh,none⟩
theorem aj4:bY prog 202 ahm:=⟨by kernel_rfl,by kernel_rfl,rfl,by kernel_rfl,(fun _=>rfl),by kernel_rfl,(fun ks h=>(by cases h))⟩
def ahn:TI:=⟨1,8,[.nilFunc],.mh,none⟩
theorem aj5:bY prog 204 ahn:=⟨by kernel_rfl,by kernel_rfl,rfl,by kernel_rfl,(fun _=>rfl),by kernel_rfl,(fun ks h=>(by cases h))⟩
def aho:TI:=⟨1,8,[.pointer none],.Pv 50,none⟩
theorem aj6:bY prog 205 aho:=⟨by kernel_rfl,by kernel_rfl,rfl,by kernel_rfl,(fun _=>rfl),by kernel_rfl,(fun ks h=>(by cases h))⟩
def ahp:TI:=⟨1,8,[.nilFunc],.mh,none⟩
theorem aj7:bY prog 220 ahp:=⟨by kernel_rfl,by kernel_rfl,rfl,by kernel_rfl,(fun _=>rfl),by kernel_rfl,(fun ks h=>(by cases h))⟩
def i222:TI:=⟨1,8,[.nilFunc],.mh,none⟩
theorem aj8:bY prog 222 i222:=⟨by kernel_rfl,by kernel_rfl,rfl,by kernel_rfl,(fun _=>rfl),by kernel_rfl,(fun ks h=>(by cases h))⟩
def ahq:TI:=⟨1,8,[.int .u64 0],.zN .u64,none⟩
theorem aj9:bY prog 223 ahq:=⟨by kernel_rfl,by kernel_rfl,rfl,by kernel_rfl,(fun _=>rfl),by kernel_rfl,(fun ks h=>(by cases h))⟩
def i226:TI:=⟨1,8,[.pointer none],.Pv 3,none⟩
theorem akb:bY prog 226 i226:=⟨by kernel_rfl,by kernel_rfl,rfl,by kernel_rfl,(fun _=>rfl),by kernel_rfl,(fun ks h=>(by cases h))⟩
def i234:TI:=⟨1,8,[.nilFunc],.mh,none⟩
theorem akc:bY prog 234 i234:=⟨by kernel_rfl,by kernel_rfl,rfl,by kernel_rfl,(fun _=>rfl),by kernel_rfl,(fun ks h=>(by cases h))⟩
def tab:Tab:=[(3,i3),(5,i5),(9,i9),(22,i22),(23,i23),(24,i24),(25,i25),(26,i26),(28,i28),(33,i33),(34,i34),(36,i36),(38,i38),(39,i39),(41,i41),(44,i44),(45,i45),(47,i47),(50,i50),(63,i63),(68,i68),(71,i71),(78,i78),(80,i80),(85,i85),(86,i86),(88,i88),(90,i90),(92,i92),(98,i98),(103,ag8),(111,ag9),(113,aha),(114,ahb),(120,ahc),(127,i127),(128,ahd),(136,ahe),(138,i138),(140,ahf),(143,i143),(148,i148),(152,i152),(156,ahg),(159,i159),(164,i164),(166,ahh),(169,ahi),(171,i171),(173,i173),(175,i175),(181,ahj),(183,i183),(185,ahk),(194,i194),(198,i198),(200,ahl),(202,ahm),(204,ahn),(205,aho),(220,ahp),(222,i222),(223,ahq),(226,i226),(234,i234)]
theorem Ox:bP prog tab:=Hq (by
 intro x hx;simp only[tab,List.mem_cons,List.mem_nil_iff,or_false] at hx;rcases hx with rfl|rfl|rfl|rfl|rfl|rfl|rfl|rfl|rfl|rfl|rfl|rfl|rfl|rfl|rfl|rfl|rfl|rfl|rfl|rfl|rfl|rfl|rfl|rfl|rfl|rfl|rfl|rfl|rfl|rfl|rfl|rfl|rfl|rfl|rfl|rfl|rfl|rfl|rfl|rfl|rfl|rfl|rfl|rfl|rfl|rfl|rfl|rfl|rfl|rfl|rfl|rfl|rfl|rfl|rfl|rfl|rfl|rfl|rfl|rfl|rfl|rfl|rfl|rfl|rfl
 ·exact o3
 ·exact o5
 ·exact o9
 ·exact o22
 ·exact o23
 ·exact o24
 ·exact o25
 ·exact o26
 ·exact o28
 ·exact o33
 ·exact o34
 ·exact o36
 ·exact o38
 ·exact o39
 ·exact o41
 ·exact o44
 ·exact o45
 ·exact o47
 ·exact o50
 ·exact o63
 ·exact o68
 ·exact o71
 ·exact o78
 ·exact o80
 ·exact o85
 ·exact o86
 ·exact o88
 ·exact o90
 ·exact o92
 ·exact o98
 ·exact ajD
 ·exact ajE
 ·exact ajF
 ·exact ajG
 ·exact ajH
 ·exact ajI
 ·exact ajJ
 ·exact ajK
 ·exact ajL
 ·exact ajM
 ·exact ajN
 ·exact ajO
 ·exact ajP
 ·exact ajQ
 ·exact ajR
 ·exact ajS
 ·exact ajT
 ·exact ajU
 ·exact ajV
 ·exact ajW
 ·exact ajX
 ·exact ajY
 ·exact ajZ
 ·exact aj0
 ·exact aj1
 ·exact aj2
 ·exact aj3
 ·exact aj4
 ·exact aj5
 ·exact aj6
 ·exact aj7
 ·exact aj8
 ·exact aj9
 ·exact akb
 exact akc)
end Go.Proofs.YtiagceoepkaeoaaGreat.Tb
end
section
open Go Go.Proofs.Tryz Go.AX Go.Sort
namespace Go.Proofs.YtiagceoepkaeoaaGreat.Tb
theorem mixed:prog.follows .mixedOrders=true:=by kernel_rfl
theorem bN {f:FuncId}{fn:Func}(hf:Mg prog f fn){args:List PV}{Q:PV→Prop}(h:adf args fun s=>VC prog tab (codeOf fn) s (fnK tab fn.results.toList Q))(hl:Nat.ble args.length fn.ntmps=true:=by rfl):PC prog f args Q:=WJ Ox (Ab mixed Ox) hf hl h
theorem jA {f:FuncId}{fn:Func}(hf:Mg prog f fn){args:List AV}{hp:List (Nat×aD)}{Q:AV→List (Nat×aD)→Prop}(h:adh args hp fun s=>VC prog tab (codeOf fn) s (fnG tab fn.results.toList Q))(hl:Nat.ble args.length fn.ntmps=true:=by rfl):GC prog f args hp Q:=zU Ox (Ab mixed Ox) hf hl h
theorem abU:Mg prog 123 f123:=bZ func123
theorem YM (x:Int):bE prog 123 [uu x] (bl false):=by
 refine PC.le ?_;have e:(x != x)=false:=by simp
 refine bN abU ?_;repeat' ((conv=>whnf);first|with_reducible apply aK|((with_reducible apply fk)<;>intro hc<;>try exact aM)|((with_reducible apply And.intro);exact aG)|fail)
 repeat' first|((conv=>whnf);with_reducible apply And.intro)|exact aL|fail
 all_goals try (conv=>whnf)
 all_goals exact e
theorem Zq:Mg prog 151 f151:=bZ func151
theorem bJ (x y:Int):bE prog 151 [uu x,uu y] (bl (decide (x<y))):=by
 refine PC.le ?_;refine bN Zq ?_;repeat' ((conv=>whnf);first|with_reducible apply aK|((with_reducible apply fk)<;>intro hc<;>try exact aM)|(apply aC;(conv=>whnf);refine⟨_,YM _,?_⟩)|((with_reducible apply And.intro);exact aG)|fail)
 all_goals
  all_goals exact aL
theorem abV:Mg prog 145 f145:=bZ func145
theorem aeI (A:Array Int)(a b:Nat)(hab:a≤b)(hb:b≤A.size)(hs:A.size<4611686018427387904) :
  dR prog 145 [.aF 1 0,.pv (ii a),.pv (ii b)] [(1,.arr 23 0 1 (uA A))] (.pv (.dn [])) [(1,.arr 23 0 1 (uA (insertionSort ltInt A a b)))]:=by
 obtain⟨X,hX⟩:∃X,insertionSort ltInt A a b=X:=⟨_,rfl⟩;rw[hX];unfold insertionSort at hX;have eA:IntKind.i64.wrap ((a:Int)+1)=((a+1:Nat):Int):=by rw[aO (by omega) (by omega)];omega
 refine jA abV ?_;repeat' ((conv=>whnf);first|with_reducible apply aK|((with_reducible apply fk)<;>intro hc<;>try exact aM)|((with_reducible apply And.intro);exact aG)|fail)
 refine⟨{p:Nat×Array Int // p.2.size=A.size∧insOuter ltInt a b p.1 p.2=X∧a+1≤p.1∧p.1≤b+1},fun⟨(i,D),_⟩=>⟨[(0,.aF 1 0),(1,.pv (ii a)),(2,.pv (ii b)),(6,.pv (ii i))],1000000000,[(1,.arr 23 0 1 (uA D))]⟩,fun⟨(i,_),_⟩=>b+1-i,⟨⟨(a+1,A),rfl,hX,Nat.le_refl _,by omega⟩,ak ?_⟩,?_⟩
 ·repeat' first
   |fail
   |with_reducible exact True.intro
   |with_reducible exact rfl
   |with_reducible exact ah _
   |((conv=>whnf);with_reducible apply And.intro)
   |((conv=>whnf);with_reducible exact True.intro)
   |exact rfl
   |exact fun h=>h
   |exact ah _
  all_goals try (conv=>whnf)
  all_goals exact eA
 clear hX eA;rintro⟨⟨i,D⟩,h1,h2,h3,h4⟩
 simp only at h1 h2 h3 h4;by_cases hlt:i<b
 ·have d0:decide ((i:Int)<(b:Int))=true:=by simp only[kC];omega
  have eW:IntKind.i64.wrap ((i:Int)+1)=((i+1:Nat):Int):=by rw[aO (by omega) (by omega)];omega
  rw[insOuter,if_pos hlt] at h2;repeat' ((conv=>whnf);first|with_reducible apply aK|((with_reducible apply fk)<;>intro hc<;>try exact aM)|((with_reducible apply And.intro);exact aG)|fail)
  refine⟨{p:Nat×Array Int // p.2.size=A.size∧insOuter ltInt a b (i+1) (insInner ltInt a p.1 p.2)=X∧p.1≤i},fun⟨(j,E),_⟩=>⟨[(0,.aF 1 0),(1,.pv (ii a)),(2,.pv (ii b)),(6,.pv (ii i)),(7,.pv (ii j))],1000000000,[(1,.arr 23 0 1 (uA E))]⟩,fun⟨(j,_),_⟩=>j,⟨⟨(i,D),h1,h2,Nat.le_refl _⟩,ak ?_⟩,?_⟩
  ·repeat' first
    |fail
    |with_reducible exact True.intro
    |with_reducible exact rfl
    |with_reducible exact ah _
    |((conv=>whnf);with_reducible apply And.intro)
    |((conv=>whnf);with_reducible exact True.intro)
    |exact rfl
    |exact fun h=>h
    |exact ah _
   all_goals try (conv=>whnf)
  rintro⟨⟨j,E⟩,g1,g2,g3⟩
  simp only at g1 g2 g3;by_cases hja:a<j
  ·have d1:decide ((j:Int)>(a:Int))=true:=by simp only[kC];omega
   obtain⟨m,rfl⟩:∃m,j=m+1:=⟨j-1,by omega⟩;have eM:IntKind.i64.wrap (((m+1:Nat):Int)-1)=(m:Int):=by rw[aO (by omega) (by omega)];omega
   have r1:=Qv E (n:=((m+1:Nat):Int)) (m+1) rfl (by omega);have r0:=Qv E (n:=IntKind.i64.wrap (((m+1:Nat):Int)-1)) m eM (by omega);have r2:((uA E).set (((m+1:Nat):Int)).toNat [uu E[m]!])[(IntKind.i64.wrap (((m+1:Nat):Int)-1)).toNat]? = some (dh E[m]!):=by
    rw[eM,Int.toNat_natCast,Int.toNat_natCast,List.getElem?_set_ne (by omega)];exact XG E m (by omega)
   rw[insInner] at g2;cases hl:decide (E[m+1]! < E[m]!) with
   | true=>
     rw[if_pos (by rw[Aq,hl];simp;omega)] at g2;repeat' ((conv=>whnf);first|with_reducible apply aK|((with_reducible apply fk)<;>intro hc<;>try exact aM)|((refine⟨_,r1,?_⟩))|((refine⟨_,r0,?_⟩))|((refine⟨_,r2,?_⟩))|(apply aC;(conv=>whnf);refine⟨_,bJ _ _,?_⟩)|(((with_reducible apply And.intro);focus (simp only[List.length_set,BK];omega)))|(((with_reducible apply And.intro);focus (rw[eM];simp only[List.length_set,BK];omega)))|((with_reducible apply And.intro);exact aG)|fail)
     refine⟨⟨(m,swp E (m+1) m),by rw[size_swp];exact g1,g2,by omega⟩,Nat.lt_succ_self _,ak ?_⟩;repeat' first|((conv=>whnf);with_reducible apply And.intro)|exact aL|fail
     all_goals try (conv=>whnf)
     all_goals first
      |exact eM
      | (refine iG ?_
         rw[eM,←adN];rfl)
   | false=>
     rw[if_neg (by rw[Aq,hl];simp)] at g2;repeat' ((conv=>whnf);first|with_reducible apply aK|((with_reducible apply fk)<;>intro hc<;>try exact aM)|((refine⟨_,r1,?_⟩))|((refine⟨_,r0,?_⟩))|(apply aC;(conv=>whnf);refine⟨_,bJ _ _,?_⟩)|(((with_reducible apply And.intro);focus (simp only[List.length_set,BK];omega)))|(((with_reducible apply And.intro);focus (rw[eM];simp only[List.length_set,BK];omega)))|((with_reducible apply And.intro);exact aG)|fail)
     refine⟨⟨(i+1,E),g1,g2,by omega,by omega⟩,(by show b+1-(i+1)<b+1-i;omega),ak ?_⟩;repeat' first|((conv=>whnf);with_reducible apply And.intro)|exact aL|fail
     all_goals try (conv=>whnf)
     all_goals exact eW
  have d1:decide ((j:Int)>(a:Int))=false:=by simp only[tq];omega
  have e2:insInner ltInt a j E=E:=by
   cases j with
   |zero=>rfl
   |succ m=>rw[insInner,if_neg (by simp;omega)]
  rw[e2] at g2;repeat' ((conv=>whnf);first|with_reducible apply aK|((with_reducible apply fk)<;>intro hc<;>try exact aM)|((with_reducible apply And.intro);exact aG)|fail)
  refine⟨⟨(i+1,E),g1,g2,by omega,by omega⟩,(by show b+1-(i+1)<b+1-i;omega),ak ?_⟩;repeat' first|((conv=>whnf);with_reducible apply And.intro)|exact aL|fail
  all_goals try (conv=>whnf)
  all_goals exact eW
 have d0:decide ((i:Int)<(b:Int))=false:=by simp only[tq];omega
 rw[insOuter,if_neg hlt] at h2;subst h2;repeat' ((conv=>whnf);first|with_reducible apply aK|((with_reducible apply fk)<;>intro hc<;>try exact aM)|((with_reducible apply And.intro);exact aG)|fail)
 refine⟨_,_,⟨rfl,rfl⟩,?_⟩;all_goals exact aL
end Go.Proofs.YtiagceoepkaeoaaGreat.Tb
end
section
open Go Go.Proofs.Tryz Go.AX
namespace Go.Proofs.YtiagceoepkaeoaaGreat.Tb
theorem qE:Mg prog 139 f139:=bZ func139
theorem mW (l:List Pl)(f:FuncId)(first aR:List PV)(p:Pl→Bool)(hp:∀x∈l,bE prog f (first++([.agg x.c]++aR)) (bl (p x))) :
  bE prog 139 [vP l,.fn (.func f) first aR] (ii (qo p l)):=by
 refine PC.le (kL qE fun hb=>?_);have hb:l.length≤9223372036854775807:=by simpa[DR,y7,vP] using hb
 refine bN qE ?_;repeat' ((conv=>whnf);first|with_reducible apply aK|((with_reducible apply fk)<;>intro hc<;>try exact aM)|((with_reducible apply And.intro);exact aG)|fail)
 refine⟨{k:Nat // k≤l.length∧∀j (hj:j<l.length),j<k→p l[j]=false},fun⟨k,_⟩=>⟨[(0,.pv (vP l)),(1,.pv (.fn (.func f) first aR)),(7,.pv (ii l.length)),(8,.pv (ii k))],1000000000,[]⟩,fun⟨k,_⟩=>l.length-k,⟨⟨0,by simp⟩,ak ?_⟩,?_⟩
 ·repeat' first
   |fail
   |with_reducible exact True.intro
   |with_reducible exact rfl
   |with_reducible exact ah _
   |((conv=>whnf);with_reducible apply And.intro)
   |((conv=>whnf);with_reducible exact True.intro)
   |exact rfl
   |exact fun h=>h
   |exact ah _
  all_goals try (conv=>whnf)
  simp
 rintro⟨k,hk,hn⟩
 repeat' ((conv=>whnf);first|with_reducible apply aK|((with_reducible apply fk)<;>intro hc<;>try exact aM)|((with_reducible apply And.intro);exact aG)|fail)
 ·skip
  have hlt:k<l.length:=by simpa using hc
  refine⟨_,cu _ _ _ hlt,?_⟩;repeat' ((conv=>whnf);first|with_reducible apply aK|((with_reducible apply fk)<;>intro hc<;>try exact aM)|(apply aC;(conv=>whnf);refine⟨_,hp _ (List.getElem_mem hlt),?_⟩)|((with_reducible apply And.intro);exact aG)|fail)
  ·skip
   repeat' first|((conv=>whnf);with_reducible apply And.intro)|exact aL|fail
   all_goals try (conv=>whnf)
   exact (nU _ hlt hn hc).symm
  skip
  repeat' ((conv=>whnf);first|with_reducible apply aK|((with_reducible apply fk)<;>intro hc<;>try exact aM)|((with_reducible apply And.intro);exact aG)|fail)
  refine⟨⟨k+1,hlt,dS hn fun _=>hc⟩,dec_lt hlt,ak ?_⟩;repeat' first|((conv=>whnf);with_reducible apply And.intro)|exact aL|fail
  all_goals try (conv=>whnf)
  exact aO (by omega) (by omega)
 skip
 repeat' first|((conv=>whnf);with_reducible apply And.intro)|exact aL|fail
 all_goals try (conv=>whnf)
 have:k=l.length:=by simp at hc;omega
 subst this;exact (iP _ (tH hn)).symm
theorem wG:Mg prog 96 f96:=bZ func96
theorem om (l:List Pl)(f:FuncId)(first aR:List PV)(p:Pl→Bool)(hp:∀x∈l,bE prog f (first++([.agg x.c]++aR)) (bl (p x))) :
  bE prog 96 [vP l,.fn (.func f) first aR] (bl (l.any p)):=by
 refine PC.le ?_;refine bN wG ?_;repeat' ((conv=>whnf);first|with_reducible apply aK|((with_reducible apply fk)<;>intro hc<;>try exact aM)|(apply aC;(conv=>whnf);refine⟨_,mW _ _ _ _ _ hp,?_⟩)|((with_reducible apply And.intro);exact aG)|fail)
 repeat' first|((conv=>whnf);with_reducible apply And.intro)|exact aL|fail
 all_goals try (conv=>whnf)
 exact tF _ _
theorem rZ:Mg prog 214 f214:=bZ func214
theorem DV (l:List Fr)(f:FuncId)(first aR:List PV)(p:Fr→Bool)(hp:∀x∈l,bE prog f (first++([.agg x.c]++aR)) (bl (p x))) :
  bE prog 214 [p8 l,.fn (.func f) first aR] (ii (qo p l)):=by
 refine PC.le (kL rZ fun hb=>?_);have hb:l.length≤9223372036854775807:=by simpa[DR,y7,p8] using hb
 refine bN rZ ?_;repeat' ((conv=>whnf);first|with_reducible apply aK|((with_reducible apply fk)<;>intro hc<;>try exact aM)|((with_reducible apply And.intro);exact aG)|fail)
 refine⟨{k:Nat // k≤l.length∧∀j (hj:j<l.length),j<k→p l[j]=false},fun⟨k,_⟩=>⟨[(0,.pv (p8 l)),(1,.pv (.fn (.func f) first aR)),(7,.pv (ii l.length)),(8,.pv (ii k))],1000000000,[]⟩,fun⟨k,_⟩=>l.length-k,⟨⟨0,by simp⟩,ak ?_⟩,?_⟩
 ·repeat' first
   |fail
   |with_reducible exact True.intro
   |with_reducible exact rfl
   |with_reducible exact ah _
   |((conv=>whnf);with_reducible apply And.intro)
   |((conv=>whnf);with_reducible exact True.intro)
   |exact rfl
   |exact fun h=>h
   |exact ah _
  all_goals try (conv=>whnf)
  simp
 rintro⟨k,hk,hn⟩
 repeat' ((conv=>whnf);first|with_reducible apply aK|((with_reducible apply fk)<;>intro hc<;>try exact aM)|((with_reducible apply And.intro);exact aG)|fail)
 ·skip
  have hlt:k<l.length:=by simpa using hc
  refine⟨_,cu _ _ _ hlt,?_⟩;repeat' ((conv=>whnf);first|with_reducible apply aK|((with_reducible apply fk)<;>intro hc<;>try exact aM)|(apply aC;(conv=>whnf);refine⟨_,hp _ (List.getElem_mem hlt),?_⟩)|((with_reducible apply And.intro);exact aG)|fail)
  ·skip
   repeat' first|((conv=>whnf);with_reducible apply And.intro)|exact aL|fail
   all_goals try (conv=>whnf)
   exact (nU _ hlt hn hc).symm
  skip
  repeat' ((conv=>whnf);first|with_reducible apply aK|((with_reducible apply fk)<;>intro hc<;>try exact aM)|((with_reducible apply And.intro);exact aG)|fail)
  refine⟨⟨k+1,hlt,dS hn fun _=>hc⟩,dec_lt hlt,ak ?_⟩;repeat' first|((conv=>whnf);with_reducible apply And.intro)|exact aL|fail
  all_goals try (conv=>whnf)
  exact aO (by omega) (by omega)
 skip
 repeat' first|((conv=>whnf);with_reducible apply And.intro)|exact aL|fail
 all_goals try (conv=>whnf)
 have:k=l.length:=by simp at hc;omega
 subst this;exact (iP _ (tH hn)).symm
theorem xW:Mg prog 188 f188:=bZ func188
theorem zy (l:List Fr)(f:FuncId)(first aR:List PV)(p:Fr→Bool)(hp:∀x∈l,bE prog f (first++([.agg x.c]++aR)) (bl (p x))) :
  bE prog 188 [p8 l,.fn (.func f) first aR] (bl (l.any p)):=by
 refine PC.le ?_;refine bN xW ?_;repeat' ((conv=>whnf);first|with_reducible apply aK|((with_reducible apply fk)<;>intro hc<;>try exact aM)|(apply aC;(conv=>whnf);refine⟨_,DV _ _ _ _ _ hp,?_⟩)|((with_reducible apply And.intro);exact aG)|fail)
 repeat' first|((conv=>whnf);with_reducible apply And.intro)|exact aL|fail
 all_goals try (conv=>whnf)
 exact tF _ _
theorem pU:Mg prog 53 f53:=bZ func53
theorem dW (l:List Lg)(f:FuncId)(first aR:List PV)(p:Lg→Bool)(hp:∀x∈l,bE prog f (first++([.agg x.c]++aR)) (bl (p x))) :
  bE prog 53 [dN l,.fn (.func f) first aR] (ii (qo p l)):=by
 refine PC.le (kL pU fun hb=>?_);have hb:l.length≤9223372036854775807:=by simpa[DR,y7,dN] using hb
 refine bN pU ?_;repeat' ((conv=>whnf);first|with_reducible apply aK|((with_reducible apply fk)<;>intro hc<;>try exact aM)|((with_reducible apply And.intro);exact aG)|fail)
 refine⟨{k:Nat // k≤l.length∧∀j (hj:j<l.length),j<k→p l[j]=false},fun⟨k,_⟩=>⟨[(0,.pv (dN l)),(1,.pv (.fn (.func f) first aR)),(7,.pv (ii l.length)),(8,.pv (ii k))],1000000000,[]⟩,fun⟨k,_⟩=>l.length-k,⟨⟨0,by simp⟩,ak ?_⟩,?_⟩
 ·repeat' first
   |fail
   |with_reducible exact True.intro
   |with_reducible exact rfl
   |with_reducible exact ah _
   |((conv=>whnf);with_reducible apply And.intro)
   |((conv=>whnf);with_reducible exact True.intro)
   |exact rfl
   |exact fun h=>h
   |exact ah _
  all_goals try (conv=>whnf)
  simp
 rintro⟨k,hk,hn⟩
 repeat' ((conv=>whnf);first|with_reducible apply aK|((with_reducible apply fk)<;>intro hc<;>try exact aM)|((with_reducible apply And.intro);exact aG)|fail)
 ·skip
  have hlt:k<l.length:=by simpa using hc
  refine⟨_,cu _ _ _ hlt,?_⟩;repeat' ((conv=>whnf);first|with_reducible apply aK|((with_reducible apply fk)<;>intro hc<;>try exact aM)|(apply aC;(conv=>whnf);refine⟨_,hp _ (List.getElem_mem hlt),?_⟩)|((with_reducible apply And.intro);exact aG)|fail)
  ·skip
   repeat' first|((conv=>whnf);with_reducible apply And.intro)|exact aL|fail
   all_goals try (conv=>whnf)
   exact (nU _ hlt hn hc).symm
  skip
  repeat' ((conv=>whnf);first|with_reducible apply aK|((with_reducible apply fk)<;>intro hc<;>try exact aM)|((with_reducible apply And.intro);exact aG)|fail)
  refine⟨⟨k+1,hlt,dS hn fun _=>hc⟩,dec_lt hlt,ak ?_⟩;repeat' first|((conv=>whnf);with_reducible apply And.intro)|exact aL|fail
  all_goals try (conv=>whnf)
  exact aO (by omega) (by omega)
 skip
 repeat' first|((conv=>whnf);with_reducible apply And.intro)|exact aL|fail
 all_goals try (conv=>whnf)
 have:k=l.length:=by simp at hc;omega
 subst this;exact (iP _ (tH hn)).symm
theorem uS:Mg prog 110 f110:=bZ func110
theorem wK (l:List Lg)(f:FuncId)(first aR:List PV)(p:Lg→Bool)(hp:∀x∈l,bE prog f (first++([.agg x.c]++aR)) (bl (p x))) :
  bE prog 110 [dN l,.fn (.func f) first aR] (bl (l.any p)):=by
 refine PC.le ?_;refine bN uS ?_;repeat' ((conv=>whnf);first|with_reducible apply aK|((with_reducible apply fk)<;>intro hc<;>try exact aM)|(apply aC;(conv=>whnf);refine⟨_,dW _ _ _ _ _ hp,?_⟩)|((with_reducible apply And.intro);exact aG)|fail)
 repeat' first|((conv=>whnf);with_reducible apply And.intro)|exact aL|fail
 all_goals try (conv=>whnf)
 exact tF _ _
theorem r9:Mg prog 205 f205:=bZ func205
theorem DW (l:List Mk)(f:FuncId)(first aR:List PV)(p:Mk→Bool)(hp:∀x∈l,bE prog f (first++([.agg x.c]++aR)) (bl (p x))) :
  bE prog 205 [qp l,.fn (.func f) first aR] (ii (qo p l)):=by
 refine PC.le (kL r9 fun hb=>?_);have hb:l.length≤9223372036854775807:=by simpa[DR,y7,qp] using hb
 refine bN r9 ?_;repeat' ((conv=>whnf);first|with_reducible apply aK|((with_reducible apply fk)<;>intro hc<;>try exact aM)|((with_reducible apply And.intro);exact aG)|fail)
 refine⟨{k:Nat // k≤l.length∧∀j (hj:j<l.length),j<k→p l[j]=false},fun⟨k,_⟩=>⟨[(0,.pv (qp l)),(1,.pv (.fn (.func f) first aR)),(7,.pv (ii l.length)),(8,.pv (ii k))],1000000000,[]⟩,fun⟨k,_⟩=>l.length-k,⟨⟨0,by simp⟩,ak ?_⟩,?_⟩
 ·repeat' first
   |fail
   |with_reducible exact True.intro
   |with_reducible exact rfl
   |with_reducible exact ah _
   |((conv=>whnf);with_reducible apply And.intro)
   |((conv=>whnf);with_reducible exact True.intro)
   |exact rfl
   |exact fun h=>h
   |exact ah _
  all_goals try (conv=>whnf)
  simp
 rintro⟨k,hk,hn⟩
 repeat' ((conv=>whnf);first|with_reducible apply aK|((with_reducible apply fk)<;>intro hc<;>try exact aM)|((with_reducible apply And.intro);exact aG)|fail)
 ·skip
  have hlt:k<l.length:=by simpa using hc
  refine⟨_,cu _ _ _ hlt,?_⟩;repeat' ((conv=>whnf);first|with_reducible apply aK|((with_reducible apply fk)<;>intro hc<;>try exact aM)|(apply aC;(conv=>whnf);refine⟨_,hp _ (List.getElem_mem hlt),?_⟩)|((with_reducible apply And.intro);exact aG)|fail)
  ·skip
   repeat' first|((conv=>whnf);with_reducible apply And.intro)|exact aL|fail
   all_goals try (conv=>whnf)
   exact (nU _ hlt hn hc).symm
  skip
  repeat' ((conv=>whnf);first|with_reducible apply aK|((with_reducible apply fk)<;>intro hc<;>try exact aM)|((with_reducible apply And.intro);exact aG)|fail)
  refine⟨⟨k+1,hlt,dS hn fun _=>hc⟩,dec_lt hlt,ak ?_⟩;repeat' first|((conv=>whnf);with_reducible apply And.intro)|exact aL|fail
  all_goals try (conv=>whnf)
  exact aO (by omega) (by omega)
 skip
 repeat' first|((conv=>whnf);with_reducible apply And.intro)|exact aL|fail
 all_goals try (conv=>whnf)
 have:k=l.length:=by simp at hc;omega
 subst this;exact (iP _ (tH hn)).symm
theorem xX:Mg prog 170 f170:=bZ func170
theorem jd (l:List Mk)(f:FuncId)(first aR:List PV)(p:Mk→Bool)(hp:∀x∈l,bE prog f (first++([.agg x.c]++aR)) (bl (p x))) :
  bE prog 170 [qp l,.fn (.func f) first aR] (bl (l.any p)):=by
 refine PC.le ?_;refine bN xX ?_;repeat' ((conv=>whnf);first|with_reducible apply aK|((with_reducible apply fk)<;>intro hc<;>try exact aM)|(apply aC;(conv=>whnf);refine⟨_,DW _ _ _ _ _ hp,?_⟩)|((with_reducible apply And.intro);exact aG)|fail)
 repeat' first|((conv=>whnf);with_reducible apply And.intro)|exact aL|fail
 all_goals try (conv=>whnf)
 exact tF _ _
theorem pV:Mg prog 203 f203:=bZ func203
theorem l9 (l:List Cu)(f:FuncId)(first aR:List PV)(p:Cu→Bool)(hp:∀x∈l,bE prog f (first++([.agg x.c]++aR)) (bl (p x))) :
  bE prog 203 [H8 l,.fn (.func f) first aR] (ii (qo p l)):=by
 refine PC.le (kL pV fun hb=>?_);have hb:l.length≤9223372036854775807:=by simpa[DR,y7,H8] using hb
 refine bN pV ?_;repeat' ((conv=>whnf);first|with_reducible apply aK|((with_reducible apply fk)<;>intro hc<;>try exact aM)|((with_reducible apply And.intro);exact aG)|fail)
 refine⟨{k:Nat // k≤l.length∧∀j (hj:j<l.length),j<k→p l[j]=false},fun⟨k,_⟩=>⟨[(0,.pv (H8 l)),(1,.pv (.fn (.func f) first aR)),(7,.pv (ii l.length)),(8,.pv (ii k))],1000000000,[]⟩,fun⟨k,_⟩=>l.length-k,⟨⟨0,by simp⟩,ak ?_⟩,?_⟩
 ·repeat' first
   |fail
   |with_reducible exact True.intro
   |with_reducible exact rfl
   |with_reducible exact ah _
   |((conv=>whnf);with_reducible apply And.intro)
   |((conv=>whnf);with_reducible exact True.intro)
   |exact rfl
   |exact fun h=>h
   |exact ah _
  all_goals try (conv=>whnf)
  simp
 rintro⟨k,hk,hn⟩
 repeat' ((conv=>whnf);first|with_reducible apply aK|((with_reducible apply fk)<;>intro hc<;>try exact aM)|((with_reducible apply And.intro);exact aG)|fail)
 ·skip
  have hlt:k<l.length:=by simpa using hc
  refine⟨_,cu _ _ _ hlt,?_⟩;repeat' ((conv=>whnf);first|with_reducible apply aK|((with_reducible apply fk)<;>intro hc<;>try exact aM)|(apply aC;(conv=>whnf);refine⟨_,hp _ (List.getElem_mem hlt),?_⟩)|((with_reducible apply And.intro);exact aG)|fail)
  ·skip
   repeat' first|((conv=>whnf);with_reducible apply And.intro)|exact aL|fail
   all_goals try (conv=>whnf)
   exact (nU _ hlt hn hc).symm
  skip
  repeat' ((conv=>whnf);first|with_reducible apply aK|((with_reducible apply fk)<;>intro hc<;>try exact aM)|((with_reducible apply And.intro);exact aG)|fail)
  refine⟨⟨k+1,hlt,dS hn fun _=>hc⟩,dec_lt hlt,ak ?_⟩;repeat' first|((conv=>whnf);with_reducible apply And.intro)|exact aL|fail
  all_goals try (conv=>whnf)
  exact aO (by omega) (by omega)
 skip
 repeat' first|((conv=>whnf);with_reducible apply And.intro)|exact aL|fail
 all_goals try (conv=>whnf)
 have:k=l.length:=by simp at hc;omega
 subst this;exact (iP _ (tH hn)).symm
theorem uT:Mg prog 165 f165:=bZ func165
theorem wL (l:List Cu)(f:FuncId)(first aR:List PV)(p:Cu→Bool)(hp:∀x∈l,bE prog f (first++([.agg x.c]++aR)) (bl (p x))) :
  bE prog 165 [H8 l,.fn (.func f) first aR] (bl (l.any p)):=by
 refine PC.le ?_;refine bN uT ?_;repeat' ((conv=>whnf);first|with_reducible apply aK|((with_reducible apply fk)<;>intro hc<;>try exact aM)|(apply aC;(conv=>whnf);refine⟨_,l9 _ _ _ _ _ hp,?_⟩)|((with_reducible apply And.intro);exact aG)|fail)
 repeat' first|((conv=>whnf);with_reducible apply And.intro)|exact aL|fail
 all_goals try (conv=>whnf)
 exact tF _ _
theorem sj:Mg prog 136 f136:=bZ func136
theorem nX (l:List Pa)(f:FuncId)(first aR:List PV)(p:Pa→Bool)(hp:∀x∈l,bE prog f (first++([.agg x.c]++aR)) (bl (p x))) :
  bE prog 136 [uR l,.fn (.func f) first aR] (ii (qo p l)):=by
 refine PC.le (kL sj fun hb=>?_);have hb:l.length≤9223372036854775807:=by simpa[DR,y7,uR] using hb
 refine bN sj ?_;repeat' ((conv=>whnf);first|with_reducible apply aK|((with_reducible apply fk)<;>intro hc<;>try exact aM)|((with_reducible apply And.intro);exact aG)|fail)
 refine⟨{k:Nat // k≤l.length∧∀j (hj:j<l.length),j<k→p l[j]=false},fun⟨k,_⟩=>⟨[(0,.pv (uR l)),(1,.pv (.fn (.func f) first aR)),(7,.pv (ii l.length)),(8,.pv (ii k))],1000000000,[]⟩,fun⟨k,_⟩=>l.length-k,⟨⟨0,by simp⟩,ak ?_⟩,?_⟩
 ·repeat' first
   |fail
   |with_reducible exact True.intro
   |with_reducible exact rfl
   |with_reducible exact ah _
   |((conv=>whnf);with_reducible apply And.intro)
   |((conv=>whnf);with_reducible exact True.intro)
   |exact rfl
   |exact fun h=>h
   |exact ah _
  all_goals try (conv=>whnf)
  simp
 rintro⟨k,hk,hn⟩
 repeat' ((conv=>whnf);first|with_reducible apply aK|((with_reducible apply fk)<;>intro hc<;>try exact aM)|((with_reducible apply And.intro);exact aG)|fail)
 ·skip
  have hlt:k<l.length:=by simpa using hc
  refine⟨_,cu _ _ _ hlt,?_⟩;repeat' ((conv=>whnf);first|with_reducible apply aK|((with_reducible apply fk)<;>intro hc<;>try exact aM)|(apply aC;(conv=>whnf);refine⟨_,hp _ (List.getElem_mem hlt),?_⟩)|((with_reducible apply And.intro);exact aG)|fail)
  ·skip
   repeat' first|((conv=>whnf);with_reducible apply And.intro)|exact aL|fail
   all_goals try (conv=>whnf)
   exact (nU _ hlt hn hc).symm
  skip
  repeat' ((conv=>whnf);first|with_reducible apply aK|((with_reducible apply fk)<;>intro hc<;>try exact aM)|((with_reducible apply And.intro);exact aG)|fail)
  refine⟨⟨k+1,hlt,dS hn fun _=>hc⟩,dec_lt hlt,ak ?_⟩;repeat' first|((conv=>whnf);with_reducible apply And.intro)|exact aL|fail
  all_goals try (conv=>whnf)
  exact aO (by omega) (by omega)
 skip
 repeat' first|((conv=>whnf);with_reducible apply And.intro)|exact aL|fail
 all_goals try (conv=>whnf)
 have:k=l.length:=by simp at hc;omega
 subst this;exact (iP _ (tH hn)).symm
theorem xY:Mg prog 120 f120:=bZ func120
theorem zA (l:List Pa)(f:FuncId)(first aR:List PV)(p:Pa→Bool)(hp:∀x∈l,bE prog f (first++([.agg x.c]++aR)) (bl (p x))) :
  bE prog 120 [uR l,.fn (.func f) first aR] (bl (l.any p)):=by
 refine PC.le ?_;refine bN xY ?_;repeat' ((conv=>whnf);first|with_reducible apply aK|((with_reducible apply fk)<;>intro hc<;>try exact aM)|(apply aC;(conv=>whnf);refine⟨_,nX _ _ _ _ _ hp,?_⟩)|((with_reducible apply And.intro);exact aG)|fail)
 repeat' first|((conv=>whnf);with_reducible apply And.intro)|exact aL|fail
 all_goals try (conv=>whnf)
 exact tF _ _
theorem yA:Mg prog 156 f156:=bZ func156
theorem KS (l:List Int)(f:FuncId)(first aR:List PV)(p:Int→Bool)(hp:∀x∈l,bE prog f (first++([uu x]++aR)) (bl (p x))) :
  bE prog 156 [p9 l,.fn (.func f) first aR] (ii (qo p l)):=by
 refine PC.le (kL yA fun hb=>?_);have hb:l.length≤9223372036854775807:=by simpa[DR,y7,p9] using hb
 refine bN yA ?_;repeat' ((conv=>whnf);first|with_reducible apply aK|((with_reducible apply fk)<;>intro hc<;>try exact aM)|((with_reducible apply And.intro);exact aG)|fail)
 refine⟨{k:Nat // k≤l.length∧∀j (hj:j<l.length),j<k→p l[j]=false},fun⟨k,_⟩=>⟨[(0,.pv (p9 l)),(1,.pv (.fn (.func f) first aR)),(7,.pv (ii l.length)),(8,.pv (ii k))],1000000000,[]⟩,fun⟨k,_⟩=>l.length-k,⟨⟨0,by simp⟩,ak ?_⟩,?_⟩
 ·repeat' first
   |fail
   |with_reducible exact True.intro
   |with_reducible exact rfl
   |with_reducible exact ah _
   |((conv=>whnf);with_reducible apply And.intro)
   |((conv=>whnf);with_reducible exact True.intro)
   |exact rfl
   |exact fun h=>h
   |exact ah _
  all_goals try (conv=>whnf)
  simp
 rintro⟨k,hk,hn⟩
 repeat' ((conv=>whnf);first|with_reducible apply aK|((with_reducible apply fk)<;>intro hc<;>try exact aM)|((with_reducible apply And.intro);exact aG)|fail)
 ·skip
  have hlt:k<l.length:=by simpa using hc
  refine⟨_,cu _ _ _ hlt,?_⟩;repeat' ((conv=>whnf);first|with_reducible apply aK|((with_reducible apply fk)<;>intro hc<;>try exact aM)|(apply aC;(conv=>whnf);refine⟨_,hp _ (List.getElem_mem hlt),?_⟩)|((with_reducible apply And.intro);exact aG)|fail)
  ·skip
   repeat' first|((conv=>whnf);with_reducible apply And.intro)|exact aL|fail
   all_goals try (conv=>whnf)
   exact (nU _ hlt hn hc).symm
  skip
  repeat' ((conv=>whnf);first|with_reducible apply aK|((with_reducible apply fk)<;>intro hc<;>try exact aM)|((with_reducible apply And.intro);exact aG)|fail)
  refine⟨⟨k+1,hlt,dS hn fun _=>hc⟩,dec_lt hlt,ak ?_⟩;repeat' first|((conv=>whnf);with_reducible apply And.intro)|exact aL|fail
  all_goals try (conv=>whnf)
  exact aO (by omega) (by omega)
 skip
 repeat' first|((conv=>whnf);with_reducible apply And.intro)|exact aL|fail
 all_goals try (conv=>whnf)
 have:k=l.length:=by simp at hc;omega
 subst this;exact (iP _ (tH hn)).symm
theorem Cb:Mg prog 108 f108:=bZ func108
theorem DX (l:List Int)(f:FuncId)(first aR:List PV)(p:Int→Bool)(hp:∀x∈l,bE prog f (first++([uu x]++aR)) (bl (p x))) :
  bE prog 108 [p9 l,.fn (.func f) first aR] (bl (l.any p)):=by
 refine PC.le ?_;refine bN Cb ?_;repeat' ((conv=>whnf);first|with_reducible apply aK|((with_reducible apply fk)<;>intro hc<;>try exact aM)|(apply aC;(conv=>whnf);refine⟨_,KS _ _ _ _ _ hp,?_⟩)|((with_reducible apply And.intro);exact aG)|fail)
 repeat' first|((conv=>whnf);with_reducible apply And.intro)|exact aL|fail
 all_goals try (conv=>whnf)
 exact tF _ _
theorem yB:Mg prog 44 f44:=bZ func44
theorem AR (l:List Pl)(h:l.length*16≤140737488355328):dR prog 44 [.pv (vP l)] [] (.aF 1001 0) [(1001,.arr 36 0 2 (l.map Pl.c))]:=by
 refine MV [] ?_ fun h0=>?_
 all_goals
  refine jA yB ?_;repeat' ((conv=>whnf);first|with_reducible apply aK|((with_reducible apply fk)<;>intro hc<;>try exact aM)|((with_reducible apply And.intro);exact aG)|fail)
  refine⟨_,_,⟨rfl,rfl⟩,?_⟩;repeat' first|((conv=>whnf);with_reducible apply And.intro)|exact aL|fail
  all_goals try (conv=>whnf)
 exact h0
theorem AU (l:List Pl)(h:l.length*16≤140737488355328):bE prog 44 [vP l] (vP l):=by
 refine PC.le (Sn [] ?_ fun h0=>?_);all_goals
  refine bN yB ?_;repeat' ((conv=>whnf);first|with_reducible apply aK|((with_reducible apply fk)<;>intro hc<;>try exact aM)|((with_reducible apply And.intro);exact aG)|fail)
  repeat' first|((conv=>whnf);with_reducible apply And.intro)|exact aL|fail
  all_goals try (conv=>whnf)
 exact h0
theorem AY:Mg prog 45 f45:=bZ func45
theorem NY (l:List Mk)(h:l.length*24≤140737488355328):dR prog 45 [.pv (qp l)] [] (.aF 1001 0) [(1001,.arr 103 0 3 (l.map Mk.c))]:=by
 refine MV [] ?_ fun h0=>?_
 all_goals
  refine jA AY ?_;repeat' ((conv=>whnf);first|with_reducible apply aK|((with_reducible apply fk)<;>intro hc<;>try exact aM)|((with_reducible apply And.intro);exact aG)|fail)
  refine⟨_,_,⟨rfl,rfl⟩,?_⟩;repeat' first|((conv=>whnf);with_reducible apply And.intro)|exact aL|fail
  all_goals try (conv=>whnf)
 exact h0
theorem wM (l:List Mk)(h:l.length*24≤140737488355328):bE prog 45 [qp l] (qp l):=by
 refine PC.le (Sn [] ?_ fun h0=>?_);all_goals
  refine bN AY ?_;repeat' ((conv=>whnf);first|with_reducible apply aK|((with_reducible apply fk)<;>intro hc<;>try exact aM)|((with_reducible apply And.intro);exact aG)|fail)
  repeat' first|((conv=>whnf);with_reducible apply And.intro)|exact aL|fail
  all_goals try (conv=>whnf)
 exact h0
end Go.Proofs.YtiagceoepkaeoaaGreat.Tb
end
section
namespace Go.Proofs
open Go.Shelf
def Tryz.sortPa_ren:Go.Shelf.Ren:=⟨fun|6=>87|15=>107|14=>137|28=>154|29=>155|20=>180|21=>181|22=>182|23=>183|24=>184|25=>185|26=>186|27=>187|46=>211|47=>197|48=>198|49=>212|50=>213|57=>227|n=>n,fun|22=>26|24=>68|25=>148|3=>3|39=>164|0=>0|53=>194|55=>23|4=>4|46=>186|45=>185|50=>191|5=>5|9=>9|66=>223|70=>226|76=>239|77=>240|n=>n,fun|n=>n⟩
theorem Tryz.sortPa:Go.Proofs.SlLaysF0.n6 Tryz.prog Tryz.sortPa_ren:={
 mixed:=by kernel_rfl
 f6:=⟨Tryz.f87.name,by decide,Tryz.func87.trans (congrArg some (by kernel_rfl))⟩
 f14:=⟨Tryz.f137.name,by decide,Tryz.func137.trans (congrArg some (by kernel_rfl))⟩
 f15:=Tryz.func107.trans (congrArg some (by kernel_rfl))
 f20:=⟨Tryz.f180.name,by decide,Tryz.func180.trans (congrArg some (by kernel_rfl))⟩
 f21:=⟨Tryz.f181.name,by decide,Tryz.func181.trans (congrArg some (by kernel_rfl))⟩
 f22:=⟨Tryz.f182.name,by decide,Tryz.func182.trans (congrArg some (by kernel_rfl))⟩
 f23:=⟨Tryz.f183.name,by decide,Tryz.func183.trans (congrArg some (by kernel_rfl))⟩
 f24:=⟨Tryz.f184.name,by decide,Tryz.func184.trans (congrArg some (by kernel_rfl))⟩
 f25:=⟨Tryz.f185.name,by decide,Tryz.func185.trans (congrArg some (by kernel_rfl))⟩
 f26:=⟨Tryz.f186.name,by decide,Tryz.func186.trans (congrArg some (by kernel_rfl))⟩
 f27:=⟨Tryz.f187.name,by decide,Tryz.func187.trans (congrArg some (by kernel_rfl))⟩
 f28:=Tryz.func154.trans (congrArg some (by kernel_rfl))
 f29:=Tryz.func155.trans (congrArg some (by kernel_rfl))
 f46:=⟨Tryz.f211.name,by decide,Tryz.func211.trans (congrArg some (by kernel_rfl))⟩
 f47:=Tryz.func197.trans (congrArg some (by kernel_rfl))
 f48:=Tryz.func198.trans (congrArg some (by kernel_rfl))
 f49:=⟨Tryz.f212.name,by decide,Tryz.func212.trans (congrArg some (by kernel_rfl))⟩
 f50:=⟨Tryz.f213.name,by decide,Tryz.func213.trans (congrArg some (by kernel_rfl))⟩
 f57:=⟨Tryz.f227.name,by decide,Tryz.func227.trans (congrArg some (by kernel_rfl))⟩
 t0:=Tryz.underlying0
 a0:=Tryz.isAgg0
 z0:=Tryz.sizeOf0
 v0:=Tryz.zeroValue0
 t3:=Tryz.underlying3
 a3:=Tryz.isAgg3
 z3:=Tryz.sizeOf3
 v3:=Tryz.zeroValue3
 t4:=Tryz.underlying4
 a4:=Tryz.isAgg4
 z4:=Tryz.sizeOf4
 v4:=Tryz.zeroValue4
 t5:=Tryz.underlying5
 a5:=Tryz.isAgg5
 z5:=Tryz.sizeOf5
 v5:=Tryz.zeroValue5
 t9:=Tryz.underlying9
 a9:=Tryz.isAgg9
 z9:=Tryz.sizeOf9
 v9:=Tryz.zeroValue9
 t22:=Tryz.underlying26
 a22:=Tryz.isAgg26
 z22:=Tryz.sizeOf26
 v22:=Tryz.zeroValue26
 t25:=Tryz.underlying148
 a25:=Tryz.isAgg148
 z25:=Tryz.sizeOf148
 v25:=Tryz.zeroValue148
 t39:=Tryz.underlying164
 a39:=Tryz.isAgg164
 z39:=Tryz.sizeOf164
 v39:=Tryz.zeroValue164
 t45:=Tryz.underlying185
 a45:=Tryz.isAgg185
 z45:=Tryz.sizeOf185
 v45:=Tryz.zeroValue185
 t46:=Tryz.underlying186
 a46:=Tryz.isAgg186
 z46:=Tryz.sizeOf186
 v46:=Tryz.zeroValue186
 t50:=Tryz.underlying191
 a50:=Tryz.isAgg191
 z50:=Tryz.sizeOf191
 v50:=Tryz.zeroValue191
 t53:=Tryz.underlying194
 a53:=Tryz.isAgg194
 z53:=Tryz.sizeOf194
 v53:=Tryz.zeroValue194
 t55:=Tryz.underlying23
 a55:=Tryz.isAgg23
 z55:=Tryz.sizeOf23
 v55:=Tryz.zeroValue23
 t66:=Tryz.underlying223
 a66:=Tryz.isAgg223
 z66:=Tryz.sizeOf223
 v66:=Tryz.zeroValue223
 t70:=Tryz.underlying226
 a70:=Tryz.isAgg226
 z70:=Tryz.sizeOf226
 v70:=Tryz.zeroValue226
 t76:=Tryz.underlying239
 a76:=Tryz.isAgg239
 z76:=Tryz.sizeOf239
 v76:=Tryz.zeroValue239
 t77:=Tryz.underlying240
 a77:=Tryz.isAgg240
 z77:=Tryz.sizeOf240
 v77:=Tryz.zeroValue240 }
def Tryz.sortMk_ren:Go.Shelf.Ren:=⟨fun|6=>157|15=>107|14=>201|28=>154|29=>155|20=>218|21=>219|22=>220|23=>221|24=>222|25=>223|26=>224|27=>225|46=>236|47=>197|48=>198|49=>237|50=>238|57=>250|n=>n,fun|22=>34|24=>103|25=>198|3=>3|39=>164|0=>0|53=>194|55=>23|4=>4|46=>186|45=>185|50=>191|5=>5|9=>9|66=>223|70=>226|76=>239|77=>240|n=>n,fun|n=>n⟩
theorem Tryz.sortMk:Go.Proofs.SlLaysF0.n6 Tryz.prog Tryz.sortMk_ren:={
 mixed:=by kernel_rfl
 f6:=⟨Tryz.f157.name,by decide,Tryz.func157.trans (congrArg some (by kernel_rfl))⟩
 f14:=⟨Tryz.f201.name,by decide,Tryz.func201.trans (congrArg some (by kernel_rfl))⟩
 f15:=Tryz.func107.trans (congrArg some (by kernel_rfl))
 f20:=⟨Tryz.f218.name,by decide,Tryz.func218.trans (congrArg some (by kernel_rfl))⟩
 f21:=⟨Tryz.f219.name,by decide,Tryz.func219.trans (congrArg some (by kernel_rfl))⟩
 f22:=⟨Tryz.f220.name,by decide,Tryz.func220.trans (congrArg some (by kernel_rfl))⟩
 f23:=⟨Tryz.f221.name,by decide,Tryz.func221.trans (congrArg some (by kernel_rfl))⟩
 f24:=⟨Tryz.f222.name,by decide,Tryz.func222.trans (congrArg some (by kernel_rfl))⟩
 f25:=⟨Tryz.f223.name,by decide,Tryz.func223.trans (congrArg some (by kernel_rfl))⟩
 f26:=⟨Tryz.f224.name,by decide,Tryz.func224.trans (congrArg some (by kernel_rfl))⟩
 f27:=⟨Tryz.f225.name,by decide,Tryz.func225.trans (congrArg some (by kernel_rfl))⟩
 f28:=Tryz.func154.trans (congrArg some (by kernel_rfl))
 f29:=Tryz.func155.trans (congrArg some (by kernel_rfl))
 f46:=⟨Tryz.f236.name,by decide,Tryz.func236.trans (congrArg some (by kernel_rfl))⟩
 f47:=Tryz.func197.trans (congrArg some (by kernel_rfl))
 f48:=Tryz.func198.trans (congrArg some (by kernel_rfl))
 f49:=⟨Tryz.f237.name,by decide,Tryz.func237.trans (congrArg some (by kernel_rfl))⟩
 f50:=⟨Tryz.f238.name,by decide,Tryz.func238.trans (congrArg some (by kernel_rfl))⟩
 f57:=⟨Tryz.f250.name,by decide,Tryz.func250.trans (congrArg some (by kernel_rfl))⟩
 t0:=Tryz.underlying0
 a0:=Tryz.isAgg0
 z0:=Tryz.sizeOf0
 v0:=Tryz.zeroValue0
 t3:=Tryz.underlying3
 a3:=Tryz.isAgg3
 z3:=Tryz.sizeOf3
 v3:=Tryz.zeroValue3
 t4:=Tryz.underlying4
 a4:=Tryz.isAgg4
 z4:=Tryz.sizeOf4
 v4:=Tryz.zeroValue4
 t5:=Tryz.underlying5
 a5:=Tryz.isAgg5
 z5:=Tryz.sizeOf5
 v5:=Tryz.zeroValue5
 t9:=Tryz.underlying9
 a9:=Tryz.isAgg9
 z9:=Tryz.sizeOf9
 v9:=Tryz.zeroValue9
 t22:=Tryz.underlying34
 a22:=Tryz.isAgg34
 z22:=Tryz.sizeOf34
 v22:=Tryz.zeroValue34
 t25:=Tryz.underlying198
 a25:=Tryz.isAgg198
 z25:=Tryz.sizeOf198
 v25:=Tryz.zeroValue198
 t39:=Tryz.underlying164
 a39:=Tryz.isAgg164
 z39:=Tryz.sizeOf164
 v39:=Tryz.zeroValue164
 t45:=Tryz.underlying185
 a45:=Tryz.isAgg185
 z45:=Tryz.sizeOf185
 v45:=Tryz.zeroValue185
 t46:=Tryz.underlying186
 a46:=Tryz.isAgg186
 z46:=Tryz.sizeOf186
 v46:=Tryz.zeroValue186
 t50:=Tryz.underlying191
 a50:=Tryz.isAgg191
 z50:=Tryz.sizeOf191
 v50:=Tryz.zeroValue191
 t53:=Tryz.underlying194
 a53:=Tryz.isAgg194
 z53:=Tryz.sizeOf194
 v53:=Tryz.zeroValue194
 t55:=Tryz.underlying23
 a55:=Tryz.isAgg23
 z55:=Tryz.sizeOf23
 v55:=Tryz.zeroValue23
 t66:=Tryz.underlying223
 a66:=Tryz.isAgg223
 z66:=Tryz.sizeOf223
 v66:=Tryz.zeroValue223
 t70:=Tryz.underlying226
 a70:=Tryz.isAgg226
 z70:=Tryz.sizeOf226
 v70:=Tryz.zeroValue226
 t76:=Tryz.underlying239
 a76:=Tryz.isAgg239
 z76:=Tryz.sizeOf239
 v76:=Tryz.zeroValue239
 t77:=Tryz.underlying240
 a77:=Tryz.isAgg240
 z77:=Tryz.sizeOf240
 v77:=Tryz.zeroValue240 }
def Tryz.sortPl_ren:Go.Shelf.Ren:=⟨fun|6=>190|15=>107|14=>215|28=>154|29=>155|20=>228|21=>229|22=>230|23=>231|24=>232|25=>233|26=>234|27=>235|46=>247|47=>197|48=>198|49=>248|50=>249|57=>254|n=>n,fun|22=>78|24=>36|25=>220|3=>3|39=>164|0=>0|53=>194|55=>23|4=>4|46=>186|45=>185|50=>191|5=>5|9=>9|66=>223|70=>226|76=>239|77=>240|n=>n,fun|n=>n⟩
theorem Tryz.sortPl:Go.Proofs.SlLaysF0.n6 Tryz.prog Tryz.sortPl_ren:={
 mixed:=by kernel_rfl
 f6:=⟨Tryz.f190.name,by decide,Tryz.func190.trans (congrArg some (by kernel_rfl))⟩
 f14:=⟨Tryz.f215.name,by decide,Tryz.func215.trans (congrArg some (by kernel_rfl))⟩
 f15:=Tryz.func107.trans (congrArg some (by kernel_rfl))
 f20:=⟨Tryz.f228.name,by decide,Tryz.func228.trans (congrArg some (by kernel_rfl))⟩
 f21:=⟨Tryz.f229.name,by decide,Tryz.func229.trans (congrArg some (by kernel_rfl))⟩
 f22:=⟨Tryz.f230.name,by decide,Tryz.func230.trans (congrArg some (by kernel_rfl))⟩
 f23:=⟨Tryz.f231.name,by decide,Tryz.func231.trans (congrArg some (by kernel_rfl))⟩
 f24:=⟨Tryz.f232.name,by decide,Tryz.func232.trans (congrArg some (by kernel_rfl))⟩
 f25:=⟨Tryz.f233.name,by decide,Tryz.func233.trans (congrArg some (by kernel_rfl))⟩
 f26:=⟨Tryz.f234.name,by decide,Tryz.func234.trans (congrArg some (by kernel_rfl))⟩
 f27:=⟨Tryz.f235.name,by decide,Tryz.func235.trans (congrArg some (by kernel_rfl))⟩
 f28:=Tryz.func154.trans (congrArg some (by kernel_rfl))
 f29:=Tryz.func155.trans (congrArg some (by kernel_rfl))
 f46:=⟨Tryz.f247.name,by decide,Tryz.func247.trans (congrArg some (by kernel_rfl))⟩
 f47:=Tryz.func197.trans (congrArg some (by kernel_rfl))
 f48:=Tryz.func198.trans (congrArg some (by kernel_rfl))
 f49:=⟨Tryz.f248.name,by decide,Tryz.func248.trans (congrArg some (by kernel_rfl))⟩
 f50:=⟨Tryz.f249.name,by decide,Tryz.func249.trans (congrArg some (by kernel_rfl))⟩
 f57:=⟨Tryz.f254.name,by decide,Tryz.func254.trans (congrArg some (by kernel_rfl))⟩
 t0:=Tryz.underlying0
 a0:=Tryz.isAgg0
 z0:=Tryz.sizeOf0
 v0:=Tryz.zeroValue0
 t3:=Tryz.underlying3
 a3:=Tryz.isAgg3
 z3:=Tryz.sizeOf3
 v3:=Tryz.zeroValue3
 t4:=Tryz.underlying4
 a4:=Tryz.isAgg4
 z4:=Tryz.sizeOf4
 v4:=Tryz.zeroValue4
 t5:=Tryz.underlying5
 a5:=Tryz.isAgg5
 z5:=Tryz.sizeOf5
 v5:=Tryz.zeroValue5
 t9:=Tryz.underlying9
 a9:=Tryz.isAgg9
 z9:=Tryz.sizeOf9
 v9:=Tryz.zeroValue9
 t22:=Tryz.underlying78
 a22:=Tryz.isAgg78
 z22:=Tryz.sizeOf78
 v22:=Tryz.zeroValue78
 t25:=Tryz.underlying220
 a25:=Tryz.isAgg220
 z25:=Tryz.sizeOf220
 v25:=Tryz.zeroValue220
 t39:=Tryz.underlying164
 a39:=Tryz.isAgg164
 z39:=Tryz.sizeOf164
 v39:=Tryz.zeroValue164
 t45:=Tryz.underlying185
 a45:=Tryz.isAgg185
 z45:=Tryz.sizeOf185
 v45:=Tryz.zeroValue185
 t46:=Tryz.underlying186
 a46:=Tryz.isAgg186
 z46:=Tryz.sizeOf186
 v46:=Tryz.zeroValue186
 t50:=Tryz.underlying191
 a50:=Tryz.isAgg191
 z50:=Tryz.sizeOf191
 v50:=Tryz.zeroValue191
 t53:=Tryz.underlying194
 a53:=Tryz.isAgg194
 z53:=Tryz.sizeOf194
 v53:=Tryz.zeroValue194
 t55:=Tryz.underlying23
 a55:=Tryz.isAgg23
 z55:=Tryz.sizeOf23
 v55:=Tryz.zeroValue23
 t66:=Tryz.underlying223
 a66:=Tryz.isAgg223
 z66:=Tryz.sizeOf223
 v66:=Tryz.zeroValue223
 t70:=Tryz.underlying226
 a70:=Tryz.isAgg226
 z70:=Tryz.sizeOf226
 v70:=Tryz.zeroValue226
 t76:=Tryz.underlying239
 a76:=Tryz.isAgg239
 z76:=Tryz.sizeOf239
 v76:=Tryz.zeroValue239
 t77:=Tryz.underlying240
 a77:=Tryz.isAgg240
 z77:=Tryz.sizeOf240
 v77:=Tryz.zeroValue240 }
def Tryz.sortCu_ren:Go.Shelf.Ren:=⟨fun|6=>209|15=>107|14=>226|28=>154|29=>155|20=>239|21=>240|22=>241|23=>242|24=>243|25=>244|26=>245|27=>246|46=>251|47=>197|48=>198|49=>252|50=>253|57=>255|n=>n,fun|22=>45|24=>127|25=>234|3=>3|39=>164|0=>0|53=>194|55=>23|4=>4|46=>186|45=>185|50=>191|5=>5|9=>9|66=>223|70=>226|76=>239|77=>240|n=>n,fun|n=>n⟩
theorem Tryz.sortCu:Go.Proofs.SlLaysF0.n6 Tryz.prog Tryz.sortCu_ren:={
 mixed:=by kernel_rfl
 f6:=⟨Tryz.f209.name,by decide,Tryz.func209.trans (congrArg some (by kernel_rfl))⟩
 f14:=⟨Tryz.f226.name,by decide,Tryz.func226.trans (congrArg some (by kernel_rfl))⟩
 f15:=Tryz.func107.trans (congrArg some (by kernel_rfl))
 f20:=⟨Tryz.f239.name,by decide,Tryz.func239.trans (congrArg some (by kernel_rfl))⟩
 f21:=⟨Tryz.f240.name,by decide,Tryz.func240.trans (congrArg some (by kernel_rfl))⟩
 f22:=⟨Tryz.f241.name,by decide,Tryz.func241.trans (congrArg some (by kernel_rfl))⟩
 f23:=⟨Tryz.f242.name,by decide,Tryz.func242.trans (congrArg some (by kernel_rfl))⟩
 f24:=⟨Tryz.f243.name,by decide,Tryz.func243.trans (congrArg some (by kernel_rfl))⟩
 f25:=⟨Tryz.f244.name,by decide,Tryz.func244.trans (congrArg some (by kernel_rfl))⟩
 f26:=⟨Tryz.f245.name,by decide,Tryz.func245.trans (congrArg some (by kernel_rfl))⟩
 f27:=⟨Tryz.f246.name,by decide,Tryz.func246.trans (congrArg some (by kernel_rfl))⟩
 f28:=Tryz.func154.trans (congrArg some (by kernel_rfl))
 f29:=Tryz.func155.trans (congrArg some (by kernel_rfl))
 f46:=⟨Tryz.f251.name,by decide,Tryz.func251.trans (congrArg some (by kernel_rfl))⟩
 f47:=Tryz.func197.trans (congrArg some (by kernel_rfl))
 f48:=Tryz.func198.trans (congrArg some (by kernel_rfl))
 f49:=⟨Tryz.f252.name,by decide,Tryz.func252.trans (congrArg some (by kernel_rfl))⟩
 f50:=⟨Tryz.f253.name,by decide,Tryz.func253.trans (congrArg some (by kernel_rfl))⟩
 f57:=⟨Tryz.f255.name,by decide,Tryz.func255.trans (congrArg some (by kernel_rfl))⟩
 t0:=Tryz.underlying0
 a0:=Tryz.isAgg0
 z0:=Tryz.sizeOf0
 v0:=Tryz.zeroValue0
 t3:=Tryz.underlying3
 a3:=Tryz.isAgg3
 z3:=Tryz.sizeOf3
 v3:=Tryz.zeroValue3
 t4:=Tryz.underlying4
 a4:=Tryz.isAgg4
 z4:=Tryz.sizeOf4
 v4:=Tryz.zeroValue4
 t5:=Tryz.underlying5
 a5:=Tryz.isAgg5
 z5:=Tryz.sizeOf5
 v5:=Tryz.zeroValue5
 t9:=Tryz.underlying9
 a9:=Tryz.isAgg9
 z9:=Tryz.sizeOf9
 v9:=Tryz.zeroValue9
 t22:=Tryz.underlying45
 a22:=Tryz.isAgg45
 z22:=Tryz.sizeOf45
 v22:=Tryz.zeroValue45
 t25:=Tryz.underlying234
 a25:=Tryz.isAgg234
 z25:=Tryz.sizeOf234
 v25:=Tryz.zeroValue234
 t39:=Tryz.underlying164
 a39:=Tryz.isAgg164
 z39:=Tryz.sizeOf164
 v39:=Tryz.zeroValue164
 t45:=Tryz.underlying185
 a45:=Tryz.isAgg185
 z45:=Tryz.sizeOf185
 v45:=Tryz.zeroValue185
 t46:=Tryz.underlying186
 a46:=Tryz.isAgg186
 z46:=Tryz.sizeOf186
 v46:=Tryz.zeroValue186
 t50:=Tryz.underlying191
 a50:=Tryz.isAgg191
 z50:=Tryz.sizeOf191
 v50:=Tryz.zeroValue191
 t53:=Tryz.underlying194
 a53:=Tryz.isAgg194
 z53:=Tryz.sizeOf194
 v53:=Tryz.zeroValue194
 t55:=Tryz.underlying23
 a55:=Tryz.isAgg23
 z55:=Tryz.sizeOf23
 v55:=Tryz.zeroValue23
 t66:=Tryz.underlying223
 a66:=Tryz.isAgg223
 z66:=Tryz.sizeOf223
 v66:=Tryz.zeroValue223
 t70:=Tryz.underlying226
 a70:=Tryz.isAgg226
 z70:=Tryz.sizeOf226
 v70:=Tryz.zeroValue226
 t76:=Tryz.underlying239
 a76:=Tryz.isAgg239
 z76:=Tryz.sizeOf239
 v76:=Tryz.zeroValue239
 t77:=Tryz.underlying240
 a77:=Tryz.isAgg240
 z77:=Tryz.sizeOf240
 v77:=Tryz.zeroValue240 }
end Go.Proofs
end
section
open Go Go.Proofs.Tryz Go.AX Go.Sort
namespace Go.Proofs.YtiagceoepkaeoaaGreat.Tb
theorem Zr:Mg prog 196 f196:=bZ func196
theorem TA (A:Array Int)(lo hi first:Nat)(hb:first+hi≤A.size)(hs:A.size<4611686018427387904)(hl:lo≤hi) :
  dR prog 196 [.aF 1 0,.pv (ii lo),.pv (ii hi),.pv (ii first)] [(1,.arr 23 0 1 (uA A))] (.pv (.dn [])) [(1,.arr 23 0 1 (uA (siftDown ltInt hi first lo A)))]:=by
 obtain⟨X,hX⟩:∃X,siftDown ltInt hi first lo A=X:=⟨_,rfl⟩
 rw[hX];refine jA Zr ?_;repeat' ((conv=>whnf);first|with_reducible apply aK|((with_reducible apply fk)<;>intro hc<;>try exact aM)|((with_reducible apply And.intro);exact aG)|fail)
 refine⟨{p:Nat×Array Int // p.2.size=A.size∧siftDown ltInt hi first p.1 p.2=X∧p.1≤hi},fun⟨(r,D),_⟩=>⟨[(0,.aF 1 0),(2,.pv (ii hi)),(3,.pv (ii first)),(8,.pv (ii r))],1000000000,[(1,.arr 23 0 1 (uA D))]⟩,fun⟨(r,_),_⟩=>hi-r,⟨⟨(lo,A),rfl,hX,hl⟩,ak ?_⟩,?_⟩
 ·repeat' first
   |fail
   |with_reducible exact True.intro
   |with_reducible exact rfl
   |with_reducible exact ah _
   |((conv=>whnf);with_reducible apply And.intro)
   |((conv=>whnf);with_reducible exact True.intro)
   |exact rfl
   |exact fun h=>h
   |exact ah _
  all_goals try (conv=>whnf)
 clear hX;rintro⟨⟨r,D⟩,h1,h2,h3⟩
 simp only at h1 h2 h3;have w1:IntKind.i64.wrap (IntKind.i64.wrap (2*(r:Int))+1)=((2*r+1:Nat):Int):=by rw[aO (n:=2*(r:Int)) (by omega) (by omega),aO (by omega) (by omega)];omega
 rw[siftDown] at h2;by_cases hge:2*r+1≥hi
 ·rw[dif_pos hge] at h2;subst h2;have d0:decide (((2*r+1:Nat):Int)≥(hi:Int))=true:=by simp only[kC];omega
  repeat' ((conv=>whnf);first|with_reducible apply aK|((with_reducible apply fk)<;>intro hc<;>try exact aM)|rewrite[w1]|((with_reducible apply And.intro);exact aG)|fail)
  refine⟨_,_,⟨rfl,rfl⟩,?_⟩;all_goals exact aL
 rw[dif_neg hge] at h2;have d0:decide (((2*r+1:Nat):Int)≥(hi:Int))=false:=by simp only[tq];omega
 have w2:IntKind.i64.wrap (((2*r+1:Nat):Int)+1)=((2*r+2:Nat):Int):=by rw[aO (by omega) (by omega)];omega
 have wr:IntKind.i64.wrap ((first:Int)+(r:Int))=((first+r:Nat):Int):=by rw[aO (by omega) (by omega)];omega
 have wc:IntKind.i64.wrap ((first:Int)+((2*r+1:Nat):Int))=((first+(2*r+1):Nat):Int):=by rw[aO (by omega) (by omega)];omega
 have we:IntKind.i64.wrap (((first+(2*r+1):Nat):Int)+1)=((first+(2*r+1)+1:Nat):Int):=by rw[aO (by omega) (by omega)];omega
 by_cases hA:2*r+1+1<hi
 ·have d1:decide (((2*r+2:Nat):Int)<(hi:Int))=true:=by simp only[kC];omega
  have wd:IntKind.i64.wrap ((first:Int)+((2*r+2:Nat):Int))=((first+(2*r+2):Nat):Int):=by rw[aO (by omega) (by omega)];omega
  cases hl1:decide (D[first+(2*r+1)]! < D[first+(2*r+1)+1]!) with
  | true=>
    rw[if_pos (by rw[Aq,hl1];simp;omega)] at h2;cases hl2:decide (D[first+r]! < D[first+(2*r+2)]!) with
    | false=>
      rw[if_pos (by rw[Aq,hl2];rfl)] at h2;subst h2;repeat' ((conv=>whnf);first|with_reducible apply aK|((with_reducible apply fk)<;>intro hc<;>try exact iK)|rewrite[w1]|rewrite[w2]|rewrite[wr]|rewrite[wc]|rewrite[wd]|rewrite[we]|(rewrite[dz])|(refine⟨_,dx _ _ (by first|omega|exact gq),?_⟩)|((with_reducible apply And.intro);exact gq)|(apply aC;(conv=>whnf);refine⟨_,bJ _ _,?_⟩)|((with_reducible apply And.intro);exact aG)|fail)
      refine⟨_,_,⟨rfl,rfl⟩,?_⟩;all_goals exact aL
    | true=>
      rw[if_neg (by rw[Aq,hl2];simp),dif_pos (by omega)] at h2;repeat' ((conv=>whnf);first|with_reducible apply aK|((with_reducible apply fk)<;>intro hc<;>try exact iK)|rewrite[w1]|rewrite[w2]|rewrite[wr]|rewrite[wc]|rewrite[wd]|rewrite[we]|(rewrite[dz])|(refine⟨_,dx _ _ (by first|omega|exact gq),?_⟩)|((with_reducible apply And.intro);exact gq)|(apply aC;(conv=>whnf);refine⟨_,bJ _ _,?_⟩)|((with_reducible apply And.intro);exact aG)|fail)
      refine⟨⟨(2*r+2,swp D (first+r) (first+(2*r+2))),by rw[size_swp];exact h1,h2,by omega⟩,(by show hi-(2*r+2)<hi-r;omega),ak ?_⟩;all_goals exact aL
  | false=>
    rw[if_neg (by rw[Aq,hl1];simp)] at h2;cases hl2:decide (D[first+r]! < D[first+(2*r+1)]!) with
    | false=>
      rw[if_pos (by rw[Aq,hl2];rfl)] at h2;subst h2;repeat' ((conv=>whnf);first|with_reducible apply aK|((with_reducible apply fk)<;>intro hc<;>try exact iK)|rewrite[w1]|rewrite[w2]|rewrite[wr]|rewrite[wc]|rewrite[wd]|rewrite[we]|(rewrite[dz])|(refine⟨_,dx _ _ (by first|omega|exact gq),?_⟩)|((with_reducible apply And.intro);exact gq)|(apply aC;(conv=>whnf);refine⟨_,bJ _ _,?_⟩)|((with_reducible apply And.intro);exact aG)|fail)
      refine⟨_,_,⟨rfl,rfl⟩,?_⟩;all_goals exact aL
    | true=>
      rw[if_neg (by rw[Aq,hl2];simp)] at h2;repeat' ((conv=>whnf);first|with_reducible apply aK|((with_reducible apply fk)<;>intro hc<;>try exact iK)|rewrite[w1]|rewrite[w2]|rewrite[wr]|rewrite[wc]|rewrite[wd]|rewrite[we]|(rewrite[dz])|(refine⟨_,dx _ _ (by first|omega|exact gq),?_⟩)|((with_reducible apply And.intro);exact gq)|(apply aC;(conv=>whnf);refine⟨_,bJ _ _,?_⟩)|((with_reducible apply And.intro);exact aG)|fail)
      refine⟨⟨(2*r+1,swp D (first+r) (first+(2*r+1))),by rw[size_swp];exact h1,h2,by omega⟩,(by show hi-(2*r+1)<hi-r;omega),ak ?_⟩;all_goals exact aL
 have d1:decide (((2*r+2:Nat):Int)<(hi:Int))=false:=by simp only[tq];omega
 rw[if_neg (by simp;omega)] at h2;cases hl2:decide (D[first+r]! < D[first+(2*r+1)]!) with
 | false=>
   rw[if_pos (by rw[Aq,hl2];rfl)] at h2;subst h2;repeat' ((conv=>whnf);first|with_reducible apply aK|((with_reducible apply fk)<;>intro hc<;>try exact iK)|rewrite[w1]|rewrite[w2]|rewrite[wr]|rewrite[wc]|rewrite[we]|(rewrite[dz])|(refine⟨_,dx _ _ (by first|omega|exact gq),?_⟩)|((with_reducible apply And.intro);exact gq)|(apply aC;(conv=>whnf);refine⟨_,bJ _ _,?_⟩)|((with_reducible apply And.intro);exact aG)|fail)
   refine⟨_,_,⟨rfl,rfl⟩,?_⟩;all_goals exact aL
 | true=>
   rw[if_neg (by rw[Aq,hl2];simp)] at h2;repeat' ((conv=>whnf);first|with_reducible apply aK|((with_reducible apply fk)<;>intro hc<;>try exact iK)|rewrite[w1]|rewrite[w2]|rewrite[wr]|rewrite[wc]|rewrite[we]|(rewrite[dz])|(refine⟨_,dx _ _ (by first|omega|exact gq),?_⟩)|((with_reducible apply And.intro);exact gq)|(apply aC;(conv=>whnf);refine⟨_,bJ _ _,?_⟩)|((with_reducible apply And.intro);exact aG)|fail)
   refine⟨⟨(2*r+1,swp D (first+r) (first+(2*r+1))),by rw[size_swp];exact h1,h2,by omega⟩,(by show hi-(2*r+1)<hi-r;omega),ak ?_⟩;all_goals exact aL
theorem V3:Mg prog 155 f155:=bZ func155
theorem Zv (x:Nat)(h1:x<18446744073709551616):bE prog 155 [uu x] (ii (bitsLen x)):=by
 refine⟨V3.enters,fun F w dw hF ha=>?_⟩;simp only[eu,bG,uu] at ha;obtain⟨v,r,e1,rfl,rfl⟩:=ha;have hc:dw = #[.int .u64 x]:=by rw[←Array.toList_inj,e1]
 subst hc;refine (Go.Proofs.YtiagceoepkaeoaaGreat.Zw x w (by omega) (by omega)).mono fun e w' ⟨he,hw⟩=>?_
 subst hw;rw[Int.toNat_natCast,bitLen_eq _ (by omega)] at he;exact⟨_,_,he,rfl,by simp only[bG],nR.refl _ _⟩
theorem abZ:Mg prog 107 f107:=bZ func107
theorem Q9 (x:Nat)(h1:x<18446744073709551616):bE prog 107 [uu x] (ii (bitsLen x)):=by
 refine PC.le ?_;refine bN abZ ?_;repeat' ((conv=>whnf);first|with_reducible apply aK|((with_reducible apply fk)<;>intro hc<;>try exact aM)|(apply aC;(conv=>whnf);refine⟨_,Zv x h1,?_⟩)|((with_reducible apply And.intro);exact aG)|fail)
 all_goals exact aL
theorem ab0:Mg prog 197 f197:=bZ func197
theorem aeL (n:Nat)(hn:n<4611686018427387904):bE prog 197 [ii n] (uu ((1 <<< bitsLen n:Nat):Int)):=by
 refine PC.le ?_;have wn:IntKind.u64.wrap (n:Int)=(n:Int):=vN (by omega) (by omega);have hk:bitsLen n≤62:=(bitsLen_le_iff n 62).2 (by omega);have hp:=wrap_two_pow (bitsLen n) hk;obtain⟨M,hM⟩:∃M:Nat,M=1 <<< bitsLen n:=⟨_,rfl⟩;rw[←hM] at hp ⊢;have c:=Q9 n (by omega);obtain⟨k,hk2⟩:∃k:Nat,k=bitsLen n:=⟨_,rfl⟩;rw[←hk2] at hp c hk;have wp:IntKind.u64.wrap (1*2 ^ min (Int.toNat (k:Int)) IntKind.u64.bits)=(M:Int):=by
  rw[Int.toNat_natCast,show min k IntKind.u64.bits=k from Nat.min_eq_left (by show k≤64;omega),Int.one_mul];exact hp
 have dk:decide ((k:Int)<0)=false:=by simp only[tq];omega
 refine bN ab0 ?_;repeat' ((conv=>whnf);first|with_reducible apply aK|((with_reducible apply fk)<;>intro hc<;>try exact aM)|rewrite[wn]|(apply aC;(conv=>whnf);refine⟨_,c,?_⟩)|((with_reducible apply And.intro);exact aG)|fail)
 repeat' first|((conv=>whnf);with_reducible apply And.intro)|exact aL|fail
 all_goals try (conv=>whnf)
 all_goals exact wp
theorem Zx:Mg prog 198 f198:=bZ func198
theorem ab1 (X:Nat)(hX:X<18446744073709551616) :
  dR prog 198 [.ptr 1 0] [(1,.var [.pv (uu X)])] (.pv (uu (xorNextN X:Nat))) [(1,.var [.pv (uu (xorNextN X:Nat))])]:=by
 obtain⟨A,hA⟩:∃A:Nat,A=X ^^^ (X*8192%18446744073709551616):=⟨_,rfl⟩;obtain⟨B,hB⟩:∃B:Nat,B=A ^^^ (A / 128):=⟨_,rfl⟩;obtain⟨C,hC⟩:∃C:Nat,C=B ^^^ (B*131072%18446744073709551616):=⟨_,rfl⟩;have lA:A<18446744073709551616:=by rw[hA];exact Nat.xor_lt_two_pow (n:=64) (by omega) (by omega)
 have lB:B<18446744073709551616:=by rw[hB];exact Nat.xor_lt_two_pow (n:=64) (by omega) (by omega)
 have e1:IntKind.u64.wrap (((BitVec.ofInt IntKind.u64.bits (X:Int) ^^^ BitVec.ofInt IntKind.u64.bits (IntKind.u64.wrap ((X:Int)*2 ^ min (Int.toNat 13) IntKind.u64.bits))).toNat:Nat):Int)=(A:Int):=by
  have e:bits .xor .u64 (X:Int) (IntKind.u64.wrap ((X:Int)*8192))=(A:Int):=by
   rw[IntKind.wrap_u64,show ((X:Int)*8192%18446744073709551616)=((X*8192%18446744073709551616:Nat):Int) by omega,bits_xor_u64_nat _ _ hX (by omega),hA]
  exact e
 have e2:IntKind.u64.wrap (((BitVec.ofInt IntKind.u64.bits (A:Int) ^^^ BitVec.ofInt IntKind.u64.bits (Int.fdiv (A:Int) (2 ^ min (Int.toNat 7) IntKind.u64.bits))).toNat:Nat):Int)=(B:Int):=by
  have e:bits .xor .u64 (A:Int) (Int.fdiv (A:Int) 128)=(B:Int):=by
   rw[Int.fdiv_eq_ediv_of_nonneg _ (by decide),show ((A:Int) / 128)=((A / 128:Nat):Int) by omega,bits_xor_u64_nat _ _ lA (by omega),hB]
  exact e
 have e3:IntKind.u64.wrap (((BitVec.ofInt IntKind.u64.bits (B:Int) ^^^ BitVec.ofInt IntKind.u64.bits (IntKind.u64.wrap ((B:Int)*2 ^ min (Int.toNat 17) IntKind.u64.bits))).toNat:Nat):Int)=(C:Int):=by
  have e:bits .xor .u64 (B:Int) (IntKind.u64.wrap ((B:Int)*131072))=(C:Int):=by
   rw[IntKind.wrap_u64,show ((B:Int)*131072%18446744073709551616)=((B*131072%18446744073709551616:Nat):Int) by omega,bits_xor_u64_nat _ _ lB (by omega),hC]
  exact e
 have hv:xorNextN X=C:=by unfold xorNextN;simp only[];rw[←hA,←hB,←hC]
 rw[hv];clear hA hB hC hv;refine jA Zx ?_;repeat' ((conv=>whnf);first|with_reducible apply aK|((with_reducible apply fk)<;>intro hc<;>try exact aM)|rewrite[e1]|rewrite[e2]|rewrite[e3]|((with_reducible apply And.intro);exact aG)|fail)
 refine⟨_,_,⟨rfl,rfl⟩,?_⟩;all_goals exact aL
end Go.Proofs.YtiagceoepkaeoaaGreat.Tb
end
section
open Go Go.Proofs.Tryz Go.AX Go.Sort Go.Shelf Go.RowKit Go.Lib
namespace Go.Proofs.YtiagceoepkaeoaaGreat.Tb
def Vf (x:Pl):List Value:=[.int .i64 x.node,.int .u64 x.dB]
theorem aen (a b c d:Int)(W:World):Calls prog 191 #[.agg #[.int .i64 a,.int .u64 b],.agg #[.int .i64 c,.int .u64 d]] W fun e w'=>e=.returned (.int .i64 (Lib.compareInt a c))∧∃q os',w'=grow (W.drewN q) os':=by
 go_enter func191,Tryz.ntmps191
 go_wp2
 all_goals
  go_ret
  refine⟨?_,0,_,by rw[alloc_eq_grow,alloc_eq_grow,grow_grow];rfl⟩;simp_all [Lib.compareInt];try omega
theorem agI (x y:Pl)(W:World):Calls prog 191 #[.agg (Vf x).toArray,.agg (Vf y).toArray] W fun e w'=>e=.returned (.int .i64 (C8 x y))∧∃q os',w'=grow (W.drewN q) os':=
 aen x.node x.dB y.node y.dB W
def Vg (x:Mk):List Value:=[.int .i64 x.producer,.int .u64 x.seq,.int .u64 x.offset]
theorem aeo (a b c d e f:Int)(W:World):Calls prog 158 #[.agg #[.int .i64 a,.int .u64 b,.int .u64 c],.agg #[.int .i64 d,.int .u64 e,.int .u64 f]] W fun r w'=>r=.returned (.int .i64 (Lib.compareInt c f))∧∃q os',w'=grow (W.drewN q) os':=by
 go_enter func158,Tryz.ntmps158
 go_wp2
 all_goals
  go_ret
  refine⟨?_,0,_,by rw[alloc_eq_grow,alloc_eq_grow,grow_grow];rfl⟩;simp_all [Lib.compareInt];try omega
theorem agJ (x y:Mk)(W:World):Calls prog 158 #[.agg (Vg x).toArray,.agg (Vg y).toArray] W fun e w'=>e=.returned (.int .i64 (uE Mk.offset x y))∧∃q os',w'=grow (W.drewN q) os':=
 aeo x.producer x.seq x.offset y.producer y.seq y.offset W
theorem tZ:bE prog 107 [.sc (.int .u64 0)] (.sc (.int .i64 0)):=Q9 0 (by omega)
theorem DY:Mg prog 228 f228:=bZ func228
theorem Ba (f:Fn):bE prog 228 [.sc (.slice none 0 0),ii 0,ii 0,.fn f [] []] unit:=by
 refine PC.le ?_;refine bN DY ?_;repeat' ((conv=>whnf);first|with_reducible apply aK|((with_reducible apply fk)<;>intro hc<;>try exact aM)|((with_reducible apply And.intro);exact aG)|fail)
 refine⟨Unit,fun _=>⟨[(0,.pv (.sc (.slice none 0 0))),(1,.pv (ii 0)),(2,.pv (ii 0)),(3,.pv (.fn f [] [])),(8,.pv (ii 1))],1000000000,[]⟩,fun _=>0,⟨(),ak ?_⟩,?_⟩
 ·repeat' first
   |fail
   |with_reducible exact True.intro
   |with_reducible exact rfl
   |with_reducible exact ah _
   |((conv=>whnf);with_reducible apply And.intro)
   |((conv=>whnf);with_reducible exact True.intro)
   |exact rfl
   |exact fun h=>h
   |exact ah _
  all_goals try (conv=>whnf)
 rintro⟨⟩
 repeat' ((conv=>whnf);first|with_reducible apply aK|((with_reducible apply fk)<;>intro hc<;>try exact aM)|((with_reducible apply And.intro);exact aG)|fail)
 all_goals exact aL
theorem DZ:Mg prog 215 f215:=bZ func215
theorem Ih (f:Fn):bE prog 215 [.sc (.slice none 0 0),ii 0,ii 0,ii 0,.fn f [] []] unit:=by
 refine PC.le ?_;refine bN DZ ?_;repeat' ((conv=>whnf);first|with_reducible apply aK|((with_reducible apply fk)<;>intro hc<;>try exact aM)|((with_reducible apply And.intro);exact aG)|fail)
 refine⟨Unit,fun _=>⟨[(0,.pv (.sc (.slice none 0 0))),(1,.pv (ii 0)),(2,.pv (ii 0)),(3,.pv (ii 0)),(4,.pv (.fn f [] [])),(10,.pv (bl true)),(11,.pv (bl true))],1000000000,[]⟩,fun _=>0,⟨(),ak ?_⟩,?_⟩
 ·repeat' first
   |fail
   |with_reducible exact True.intro
   |with_reducible exact rfl
   |with_reducible exact ah _
   |((conv=>whnf);with_reducible apply And.intro)
   |((conv=>whnf);with_reducible exact True.intro)
   |exact rfl
   |exact fun h=>h
   |exact ah _
  all_goals try (conv=>whnf)
 rintro⟨⟩
 repeat' ((conv=>whnf);first|with_reducible apply aK|((with_reducible apply fk)<;>intro hc<;>try exact aM)|(apply aC;(conv=>whnf);refine⟨_,Ba f,?_⟩)|((with_reducible apply And.intro);exact aG)|fail)
 all_goals exact aL
theorem Ii:Mg prog 190 f190:=bZ func190
theorem FY (f:Fn):bE prog 190 [.sc (.slice none 0 0),.fn f [] []] unit:=by
 refine PC.le ?_;refine bN Ii ?_;repeat' ((conv=>whnf);first|with_reducible apply aK|((with_reducible apply fk)<;>intro hc<;>try exact aM)|(apply aC;(conv=>whnf);refine⟨_,tZ,?_⟩)|(apply aC;(conv=>whnf);refine⟨_,Ih f,?_⟩)|((with_reducible apply And.intro);exact aG)|fail)
 all_goals exact aL
theorem Oj (l:List Pl)(h:l.length≤8796093022208):dR prog 190 [.aF 1 0,.pv (.fn (.func 191) [] [])] [(1,.arr 36 0 2 (l.map Pl.c))] (.pv unit)
  [(1,.arr 36 0 2 ((yu l.toArray).toList.map Pl.c))]:=by
 have eg:∀args w,(callFunc 191 args).run prog w=.ok (.enter 191 args) w:=enters_of func191 (by kernel_rfl) rfl;exact Ee (enc:=Vf) (st:=2) yu (by decide) (fun _=>rfl) (fun x v hv=>by simp[Vf] at hv;rcases hv with rfl|rfl|rfl<;>rfl) Fq
  (fun blk cap d w hH hblk hsz=>AnyQ.slices_SortFunc_eq Tryz.sortPl 2 Tryz.isAgg36 Tryz.sizeOf36 Vf (fun _=>rfl) (fun x v hv=>by simp[Vf] at hv;rcases hv with rfl|rfl|rfl<;>rfl) C8 acy 191 #[] blk 0 cap d w eg
   (fun _ _ _ _ x y=>agI x y _) hH hblk hsz) (FY _) l (by omega)
theorem FZ:Mg prog 218 f218:=bZ func218
theorem Ce (f:Fn):bE prog 218 [.sc (.slice none 0 0),ii 0,ii 0,.fn f [] []] unit:=by
 refine PC.le ?_;refine bN FZ ?_;repeat' ((conv=>whnf);first|with_reducible apply aK|((with_reducible apply fk)<;>intro hc<;>try exact aM)|((with_reducible apply And.intro);exact aG)|fail)
 refine⟨Unit,fun _=>⟨[(0,.pv (.sc (.slice none 0 0))),(1,.pv (ii 0)),(2,.pv (ii 0)),(3,.pv (.fn f [] [])),(8,.pv (ii 1))],1000000000,[]⟩,fun _=>0,⟨(),ak ?_⟩,?_⟩
 ·repeat' first
   |fail
   |with_reducible exact True.intro
   |with_reducible exact rfl
   |with_reducible exact ah _
   |((conv=>whnf);with_reducible apply And.intro)
   |((conv=>whnf);with_reducible exact True.intro)
   |exact rfl
   |exact fun h=>h
   |exact ah _
  all_goals try (conv=>whnf)
 rintro⟨⟩
 repeat' ((conv=>whnf);first|with_reducible apply aK|((with_reducible apply fk)<;>intro hc<;>try exact aM)|((with_reducible apply And.intro);exact aG)|fail)
 all_goals exact aL
theorem F3:Mg prog 201 f201:=bZ func201
theorem K8 (f:Fn):bE prog 201 [.sc (.slice none 0 0),ii 0,ii 0,ii 0,.fn f [] []] unit:=by
 refine PC.le ?_;refine bN F3 ?_;repeat' ((conv=>whnf);first|with_reducible apply aK|((with_reducible apply fk)<;>intro hc<;>try exact aM)|((with_reducible apply And.intro);exact aG)|fail)
 refine⟨Unit,fun _=>⟨[(0,.pv (.sc (.slice none 0 0))),(1,.pv (ii 0)),(2,.pv (ii 0)),(3,.pv (ii 0)),(4,.pv (.fn f [] [])),(10,.pv (bl true)),(11,.pv (bl true))],1000000000,[]⟩,fun _=>0,⟨(),ak ?_⟩,?_⟩
 ·repeat' first
   |fail
   |with_reducible exact True.intro
   |with_reducible exact rfl
   |with_reducible exact ah _
   |((conv=>whnf);with_reducible apply And.intro)
   |((conv=>whnf);with_reducible exact True.intro)
   |exact rfl
   |exact fun h=>h
   |exact ah _
  all_goals try (conv=>whnf)
 rintro⟨⟩
 repeat' ((conv=>whnf);first|with_reducible apply aK|((with_reducible apply fk)<;>intro hc<;>try exact aM)|(apply aC;(conv=>whnf);refine⟨_,Ce f,?_⟩)|((with_reducible apply And.intro);exact aG)|fail)
 all_goals exact aL
theorem K9:Mg prog 157 f157:=bZ func157
theorem Ij (f:Fn):bE prog 157 [.sc (.slice none 0 0),.fn f [] []] unit:=by
 refine PC.le ?_;refine bN K9 ?_;repeat' ((conv=>whnf);first|with_reducible apply aK|((with_reducible apply fk)<;>intro hc<;>try exact aM)|(apply aC;(conv=>whnf);refine⟨_,tZ,?_⟩)|(apply aC;(conv=>whnf);refine⟨_,K8 f,?_⟩)|((with_reducible apply And.intro);exact aG)|fail)
 all_goals exact aL
theorem Q8 (l:List Mk)(h:l.length≤8796093022208):dR prog 157 [.aF 1 0,.pv (.fn (.func 158) [] [])] [(1,.arr 103 0 3 (l.map Mk.c))] (.pv unit)
  [(1,.arr 103 0 3 (((iQ Mk.offset) l.toArray).toList.map Mk.c))]:=by
 have eg:∀args w,(callFunc 158 args).run prog w=.ok (.enter 158 args) w:=enters_of func158 (by kernel_rfl) rfl;exact Ee (enc:=Vg) (st:=3) (iQ Mk.offset) (by decide) (fun _=>rfl) (fun x v hv=>by simp[Vg] at hv;rcases hv with rfl|rfl|rfl<;>rfl) (qx Mk.offset)
  (fun blk cap d w hH hblk hsz=>AnyQ.slices_SortFunc_eq Tryz.sortMk 3 Tryz.isAgg103 Tryz.sizeOf103 Vg (fun _=>rfl) (fun x v hv=>by simp[Vg] at hv;rcases hv with rfl|rfl|rfl<;>rfl) (uE Mk.offset) (Sz Mk.offset) 158 #[] blk 0 cap d w eg
   (fun _ _ _ _ x y=>agJ x y _) hH hblk hsz) (Ij _) l (by omega)
end Go.Proofs.YtiagceoepkaeoaaGreat.Tb
end
