/- Own lemmas, used by the last text. Conditions: those that each theorem states. -/
import Derived.Test.YtnjclpglagcagaaGreatEcaf
import Derived.Test.YtnjclpglagcagaaGreatProg
set_option maxRecDepth 200000
set_option maxHeartbeats 8000000
namespace Go.Proofs.Tryz
open Go.Psl
@[simp] theorem ASs:AMD=1000132:=APv
def ty2:Ty:=⟨1,8,false, .int .i64,[(.int .i64 0)]⟩
def ty3:Ty:=⟨1,8,false, .int .i64,[(.int .i64 0)]⟩
def ty4:Ty:=⟨1,1,false, .bool,[(.bool false)]⟩
def ty5:Ty:=⟨1,1,false, .int .u8,[(.int .u8 0)]⟩
def ty6:Ty:=⟨1,1,false, .int .u8,[(.int .u8 0)]⟩
def ty8:Ty:=⟨4,24,true, .struct [(0,2),(1,3),(2,4),(3,6)],[(.int .i64 0),(.int .i64 0),(.bool false),(.int .u8 0)]⟩
def ty9:Ty:=⟨1,16,false, .str,[(.string ByteArray.empty)]⟩
def ty10:Ty:=⟨1,16,false, .str,[(.string ByteArray.empty)]⟩
def ty11:Ty:=⟨1,16,false, .str,[(.string ByteArray.empty)]⟩
def ty12:Ty:=⟨1,8,false, .int .u64,[(.int .u64 0)]⟩
def ty14:Ty:=⟨2,24,true, .struct [(0,9),(1,12)],[(.string ByteArray.empty),(.int .u64 0)]⟩
def ty15:Ty:=⟨1,8,false, .ptr 335,[(.pointer none)]⟩
def ty16:Ty:=⟨1,8,false, .ptr 338,[(.pointer none)]⟩
def ty17:Ty:=⟨1,8,false, .ptr 346,[(.pointer none)]⟩
def ty19:Ty:=⟨1,8,true, .struct [(0,17)],[(.pointer none)]⟩
def ty20:Ty:=⟨1,16,false, .ifc true,[.nilIface]⟩
def ty22:Ty:=⟨1,24,false, .slice 100,[(.slice none 0 0)]⟩
def ty24:Ty:=⟨3,24,true, .struct [(0,3),(1,3),(2,3)],[(.int .i64 0),(.int .i64 0),(.int .i64 0)]⟩
def ty25:Ty:=⟨1,24,false, .slice 170,[(.slice none 0 0)]⟩
def ty26:Ty:=⟨1,24,false, .slice 149,[(.slice none 0 0)]⟩
def ty28:Ty:=⟨2,16,true, .struct [(0,3),(1,3)],[(.int .i64 0),(.int .i64 0)]⟩
def ty30:Ty:=⟨7,72,true, .struct [(0,26),(1,28),(3,3),(4,3),(5,3),(6,3)],[(.slice none 0 0),(.int .i64 0),(.int .i64 0),(.int .i64 0),(.int .i64 0),(.int .i64 0),(.int .i64 0)]⟩
def ty31:Ty:=⟨1,24,false, .slice 133,[(.slice none 0 0)]⟩
def ty33:Ty:=⟨2,16,true, .struct [(0,3),(1,3)],[(.int .i64 0),(.int .i64 0)]⟩
def ty35:Ty:=⟨10,96,true, .struct [(0,31),(1,3),(2,33),(4,33),(6,33),(8,33)],[(.slice none 0 0),(.int .i64 0),(.int .i64 0),(.int .i64 0),(.int .i64 0),(.int .i64 0),(.int .i64 0),(.int .i64 0),(.int .i64 0),(.int .i64 0)]⟩
def ty37:Ty:=⟨25,216,true, .struct [(0,28),(2,28),(4,28),(6,28),(8,28),(10,28),(12,3),(13,3),(14,3),(15,35)],[(.int .i64 0),(.int .i64 0),(.int .i64 0),(.int .i64 0),(.int .i64 0),(.int .i64 0),(.int .i64 0),(.int .i64 0),(.int .i64 0),(.int .i64 0),(.int .i64 0),(.int .i64 0),(.int .i64 0),(.int .i64 0),(.int .i64 0),(.slice none 0 0),(.int .i64 0),(.int .i64 0),(.int .i64 0),(.int .i64 0),(.int .i64 0),(.int .i64 0),(.int .i64 0),(.int .i64 0),(.int .i64 0)]⟩
def ty38:Ty:=⟨1,24,false, .slice 79,[(.slice none 0 0)]⟩
def ty39:Ty:=⟨1,8,false, .other,[.nilFunc]⟩
def ty43:Ty:=⟨1,24,false, .slice 73,[(.slice none 0 0)]⟩
def ty44:Ty:=⟨1,24,false, .slice 83,[(.slice none 0 0)]⟩
def ty45:Ty:=⟨1,8,false, .int .i64,[(.int .i64 0)]⟩
def ty48:Ty:=⟨1,24,false, .slice 37,[(.slice none 0 0)]⟩
def ty50:Ty:=⟨4,32,true, .struct [(0,3),(1,3),(2,3),(3,3)],[(.int .i64 0),(.int .i64 0),(.int .i64 0),(.int .i64 0)]⟩
def ty54:Ty:=⟨2,48,true, .struct [(0,43),(1,44)],[(.slice none 0 0),(.slice none 0 0)]⟩
def ty61:Ty:=⟨1,24,false, .slice 65,[(.slice none 0 0)]⟩
def ty65:Ty:=⟨4,32,true, .struct [(0,5),(1,3),(2,3),(3,3)],[(.int .u8 0),(.int .i64 0),(.int .i64 0),(.int .i64 0)]⟩
def ty73:Ty:=⟨5,40,true, .struct [(0,3),(1,28),(3,28)],[(.int .i64 0),(.int .i64 0),(.int .i64 0),(.int .i64 0),(.int .i64 0)]⟩
def ty77:Ty:=⟨4,32,true, .struct [(0,28),(2,28)],[(.int .i64 0),(.int .i64 0),(.int .i64 0),(.int .i64 0)]⟩
def ty79:Ty:=⟨11,104,true, .struct [(0,3),(1,77),(5,28),(7,28),(9,3),(10,61)],[(.int .i64 0),(.int .i64 0),(.int .i64 0),(.int .i64 0),(.int .i64 0),(.int .i64 0),(.int .i64 0),(.int .i64 0),(.int .i64 0),(.int .i64 0),(.slice none 0 0)]⟩
def ty83:Ty:=⟨6,48,true, .struct [(0,3),(1,77),(5,3)],[(.int .i64 0),(.int .i64 0),(.int .i64 0),(.int .i64 0),(.int .i64 0),(.int .i64 0)]⟩
def ty86:Ty:=⟨1,8,false, .other,[.nilFunc]⟩
def ty95:Ty:=⟨1,8,false, .ptr 177,[(.pointer none)]⟩
def AQ8:Ty:=⟨2,16,true, .struct [(0,3),(1,3)],[(.int .i64 0),(.int .i64 0)]⟩
def mZ:Ty:=⟨1,8,false, .other,[.nilFunc]⟩
def AQ9:Ty:=⟨1,8,false, .other,[.nilFunc]⟩
def ma:Ty:=⟨10,80,true, .array 5 28,[(.int .i64 0),(.int .i64 0),(.int .i64 0),(.int .i64 0),(.int .i64 0),(.int .i64 0),(.int .i64 0),(.int .i64 0),(.int .i64 0),(.int .i64 0)]⟩
def ARA:Ty:=⟨1,8,false, .ptr 189,[(.pointer none)]⟩
def ARB:Ty:=⟨1,8,false, .other,[.nilFunc]⟩
def ARC:Ty:=⟨1,8,false, .other,[.nilFunc]⟩
def ARD:Ty:=⟨1,8,false, .other,[.nilFunc]⟩
def ARE:Ty:=⟨4,32,true, .struct [(0,28),(2,28)],[(.int .i64 0),(.int .i64 0),(.int .i64 0),(.int .i64 0)]⟩
def mi:Ty:=⟨7,56,true, .struct [(0,3),(1,3),(2,3),(3,28),(5,3),(6,3)],[(.int .i64 0),(.int .i64 0),(.int .i64 0),(.int .i64 0),(.int .i64 0),(.int .i64 0),(.int .i64 0)]⟩
def ARF:Ty:=⟨1,24,false, .slice 33,[(.slice none 0 0)]⟩
def ARG:Ty:=⟨1,8,false, .other,[.nilFunc]⟩
def ARH:Ty:=⟨1,8,false, .other,[.nilFunc]⟩
def ARI:Ty:=⟨1,8,false, .other,[.nilFunc]⟩
def ml:Ty:=⟨2,16,true, .struct [(0,3),(1,3)],[(.int .i64 0),(.int .i64 0)]⟩
def ARJ:Ty:=⟨1,8,false, .other,[.nilFunc]⟩
def ARK:Ty:=⟨1,24,false, .slice 4,[(.slice none 0 0)]⟩
def ARL:Ty:=⟨5,40,true, .struct [(0,3),(1,3),(2,3),(3,3),(4,3)],[(.int .i64 0),(.int .i64 0),(.int .i64 0),(.int .i64 0),(.int .i64 0)]⟩
def ARM:Ty:=⟨1,24,false, .slice 160,[(.slice none 0 0)]⟩
def ARN:Ty:=⟨2,48,true, .struct [(0,158),(1,161)],[(.slice none 0 0),(.slice none 0 0)]⟩
def ARO:Ty:=⟨7,56,true, .struct [(0,3),(1,3),(2,3),(3,3),(4,3),(5,28)],[(.int .i64 0),(.int .i64 0),(.int .i64 0),(.int .i64 0),(.int .i64 0),(.int .i64 0),(.int .i64 0)]⟩
def ARP:Ty:=⟨1,24,false, .slice 44,[(.slice none 0 0)]⟩
def ARQ:Ty:=⟨6,48,true, .struct [(0,3),(1,3),(2,3),(3,3),(4,28)],[(.int .i64 0),(.int .i64 0),(.int .i64 0),(.int .i64 0),(.int .i64 0),(.int .i64 0)]⟩
def ABu:Ty:=⟨1,24,false, .slice 28,[(.slice none 0 0)]⟩
def ARR:Ty:=⟨1,24,false, .slice 3,[(.slice none 0 0)]⟩
def ARS:Ty:=⟨5,40,true, .array 5 3,[(.int .i64 0),(.int .i64 0),(.int .i64 0),(.int .i64 0),(.int .i64 0)]⟩
def mp:Ty:=⟨6,64,true, .struct [(0,25),(1,175)],[(.slice none 0 0),(.int .i64 0),(.int .i64 0),(.int .i64 0),(.int .i64 0),(.int .i64 0)]⟩
def ART:Ty:=⟨1,8,false, .other,[.nilFunc]⟩
def ARU:Ty:=⟨1,24,false, .slice 45,[(.slice none 0 0)]⟩
def ARV:Ty:=⟨9,120,true, .struct [(0,54),(2,30)],[(.slice none 0 0),(.slice none 0 0),(.slice none 0 0),(.int .i64 0),(.int .i64 0),(.int .i64 0),(.int .i64 0),(.int .i64 0),(.int .i64 0)]⟩
def my:Ty:=⟨1,8,false, .other,[.nilFunc]⟩
def ARW:Ty:=⟨1,8,false, .other,[.nilFunc]⟩
def ARX:Ty:=⟨1,24,false, .slice 200,[(.slice none 0 0)]⟩
def ARY:Ty:=⟨3,24,true, .struct [(0,3),(1,28)],[(.int .i64 0),(.int .i64 0),(.int .i64 0)]⟩
def ARZ:Ty:=⟨1,8,false, .ptr 28,[(.pointer none)]⟩
def ARa:Ty:=⟨6,48,true, .array 6 202,[(.pointer none),(.pointer none),(.pointer none),(.pointer none),(.pointer none),(.pointer none)]⟩
def ARb:Ty:=⟨1,8,false, .ptr 37,[(.pointer none)]⟩
def ARc:Ty:=⟨14,112,true, .struct [(0,133),(7,129),(11,3),(12,28)],[(.int .i64 0),(.int .i64 0),(.int .i64 0),(.int .i64 0),(.int .i64 0),(.int .i64 0),(.int .i64 0),(.int .i64 0),(.int .i64 0),(.int .i64 0),(.int .i64 0),(.int .i64 0),(.int .i64 0),(.int .i64 0)]⟩
def ARd:Ty:=⟨2,16,true, .struct [(0,3),(1,3)],[(.int .i64 0),(.int .i64 0)]⟩
def ARe:Ty:=⟨1,8,true, .struct [(0,45)],[(.int .i64 0)]⟩
def ARf:Ty:=⟨1,8,false, .other,[.nilFunc]⟩
def ARg:Ty:=⟨1,8,false, .ptr 225,[(.pointer none)]⟩
def m7:Ty:=⟨8,64,true, .array 8 219,[.nilFunc, .nilFunc, .nilFunc, .nilFunc, .nilFunc, .nilFunc, .nilFunc, .nilFunc]⟩
def ARh:Ty:=⟨10,96,true, .struct [(0,35)],[(.slice none 0 0),(.int .i64 0),(.int .i64 0),(.int .i64 0),(.int .i64 0),(.int .i64 0),(.int .i64 0),(.int .i64 0),(.int .i64 0),(.int .i64 0)]⟩
def m9:Ty:=⟨1,8,false, .int .u64,[(.int .u64 0)]⟩
def ARi:Ty:=⟨1,8,false, .other,[.nilFunc]⟩
def ARj:Ty:=⟨1,8,false, .ptr 275,[(.pointer none)]⟩
def ARk:Ty:=⟨2,16,true, .struct [(0,3),(1,4)],[(.int .i64 0),(.bool false)]⟩
def ARl:Ty:=⟨1,8,false, .other,[.nilFunc]⟩
def ARm:Ty:=⟨1,8,false, .other,[.nilFunc]⟩
def ARn:Ty:=⟨1,8,false, .other,[.nilFunc]⟩
def ARo:Ty:=⟨1,8,false, .other,[.nilFunc]⟩
def nI:Ty:=⟨1,8,false, .ptr 133,[(.pointer none)]⟩
def ARp:Ty:=⟨2,16,true, .struct [(0,3),(1,39)],[(.int .i64 0), .nilFunc]⟩
def nK:Ty:=⟨1,24,false, .slice 263,[(.slice none 0 0)]⟩
def nM:Ty:=⟨3,24,true, .array 3 45,[(.int .i64 0),(.int .i64 0),(.int .i64 0)]⟩
def ARq:Ty:=⟨1,8,false, .map 243 276,[(.map none)]⟩
def nN:Ty:=⟨10,112,true, .struct [(0,163),(2,167),(9,273)],[(.slice none 0 0),(.slice none 0 0),(.int .i64 0),(.int .i64 0),(.int .i64 0),(.int .i64 0),(.int .i64 0),(.int .i64 0),(.int .i64 0),(.map none)]⟩
def ARr:Ty:=⟨1,24,false, .slice 280,[(.slice none 0 0)]⟩
def nR:Ty:=⟨2,16,true, .struct [(0,3),(1,3)],[(.int .i64 0),(.int .i64 0)]⟩
def nU:Ty:=⟨16,128,true, .array 8 28,[(.int .i64 0),(.int .i64 0),(.int .i64 0),(.int .i64 0),(.int .i64 0),(.int .i64 0),(.int .i64 0),(.int .i64 0),(.int .i64 0),(.int .i64 0),(.int .i64 0),(.int .i64 0),(.int .i64 0),(.int .i64 0),(.int .i64 0),(.int .i64 0)]⟩
def ARs:Ty:=⟨2,16,true, .array 2 3,[(.int .i64 0),(.int .i64 0)]⟩
def ARt:Ty:=⟨4,32,true, .array 2 28,[(.int .i64 0),(.int .i64 0),(.int .i64 0),(.int .i64 0)]⟩
def ARu:Ty:=⟨1,8,false, .other,[.nilFunc]⟩
def ARv:Ty:=⟨1,8,false, .int .u64,[(.int .u64 0)]⟩
def ARw:Ty:=⟨1,24,false, .slice 215,[(.slice none 0 0)]⟩
def ARx:Ty:=⟨1,16,false, .ifc false,[.nilIface]⟩
def ARy:Ty:=⟨1,8,false, .other,[.nilFunc]⟩
def ARz:Ty:=⟨1,8,false, .int .i64,[(.int .i64 0)]⟩
def ng:Ty:=⟨1,4,false, .int .u32,[(.int .u32 0)]⟩
def AR0:Ty:=⟨1,8,false, .other,[.nilFunc]⟩
def AR1:Ty:=⟨1,8,false, .int .u64,[(.int .u64 0)]⟩
def AR2:Ty:=⟨1,8,false, .ptr 3,[(.pointer none)]⟩
def AR3:Ty:=⟨1,8,false, .ptr 323,[(.pointer none)]⟩
def AR4:Ty:=⟨4,40,true, .struct [(0,17),(1,17),(2,17),(3,9)],[(.pointer none),(.pointer none),(.pointer none),(.string ByteArray.empty)]⟩
def AR5:Ty:=⟨0,0,true, .array 0 16,[]⟩
def AR6:Ty:=⟨0,0,true, .struct [(0,336)],[]⟩
def ni:Ty:=⟨1,1,false, .int .u8,[(.int .u8 0)]⟩
def AR7:Ty:=⟨1,1,false, .int .u8,[(.int .u8 0)]⟩
def nj:Ty:=⟨1,8,false, .other,[.nilFunc]⟩
def AR8:Ty:=⟨1,8,false, .ptr 5,[(.pointer none)]⟩
def AR9:Ty:=⟨1,4,false, .int .i32,[(.int .i32 0)]⟩
def ASA:Ty:=⟨1,4,false, .int .i32,[(.int .i32 0)]⟩
def ASB:Ty:=⟨11,48,true, .struct [(0,12),(1,12),(2,321),(3,339),(4,5),(5,5),(6,340),(7,341),(8,342),(9,343),(10,344)],[(.int .u64 0),(.int .u64 0),(.int .u32 0),(.int .u8 0),(.int .u8 0),(.int .u8 0),(.int .u8 0), .nilFunc,(.pointer none),(.int .i32 0),(.int .i32 0)]⟩
def ASC:Ty:=⟨1,24,false, .slice 353,[(.slice none 0 0)]⟩
def ASD:Ty:=⟨3,40,true, .struct [(0,3),(1,173),(2,4)],[(.int .i64 0),(.slice none 0 0),(.bool false)]⟩
def tyL:List (Nat × Ty):=[(2,ty2),(3,ty3),(4,ty4),(5,ty5),(6,ty6),(8,ty8),(9,ty9),(10,ty10),(11,ty11),(12,ty12),(14,ty14),(15,ty15),(16,ty16),(17,ty17),(19,ty19),(20,ty20),(22,ty22),(24,ty24),(25,ty25),(26,ty26),(28,ty28),(30,ty30),(31,ty31),(33,ty33),(35,ty35),(37,ty37),(38,ty38),(39,ty39),(43,ty43),(44,ty44),(45,ty45),(48,ty48),(50,ty50),(54,ty54),(61,ty61),(65,ty65),(73,ty73),(77,ty77),(79,ty79),(83,ty83),(86,ty86),(95,ty95),(100,AQ8),(101,mZ),(104,AQ9),(105,ma),(108,ARA),(115,ARB),(118,ARC),(124,ARD),(129,ARE),(133,mi),(138,ARF),(140,ARG),(146,ARH),(147,ARI),(149,ml),(156,ARJ),(158,ARK),(160,ARL),(161,ARM),(163,ARN),(167,ARO),(168,ARP),(170,ARQ),(171,ABu),(173,ARR),(175,ARS),(177,mp),(181,ART),(186,ARU),(189,ARV),(192,my),(196,ARW),(198,ARX),(200,ARY),(202,ARZ),(203,ARa),(205,ARb),(211,ARc),(215,ARd),(218,ARe),(219,ARf),(221,ARg),(222,m7),(225,ARh),(227,m9),(231,ARi),(236,ARj),(243,ARk),(246,ARl),(249,ARm),(250,ARn),(256,ARo),(259,nI),(263,ARp),(268,nK),(272,nM),(273,ARq),(275,nN),(276,ARr),(280,nR),(285,nU),(286,ARs),(289,ARt),(293,ARu),(296,ARv),(302,ARw),(308,ARx),(311,ARy),(314,ARz),(321,ng),(322,AR0),(323,AR1),(327,AR2),(329,AR3),(335,AR4),(336,AR5),(338,AR6),(339,ni),(340,AR7),(341,nj),(342,AR8),(343,AR9),(344,ASA),(346,ASB),(351,ASC),(353,ASD)]
def eqL:List (Nat × List CK):=[(8,[.int, .int, .bool, .int]),(24,[.int, .int, .int]),(28,[.int, .int]),(33,[.int, .int]),(50,[.int, .int, .int, .int]),(65,[.int, .int, .int, .int]),(73,[.int, .int, .int, .int, .int]),(77,[.int, .int, .int, .int]),(83,[.int, .int, .int, .int, .int, .int]),(100,[.int, .int]),(129,[.int, .int, .int, .int]),(133,[.int, .int, .int, .int, .int, .int, .int]),(149,[.int, .int]),(160,[.int, .int, .int, .int, .int]),(167,[.int, .int, .int, .int, .int, .int, .int]),(170,[.int, .int, .int, .int, .int, .int]),(200,[.int, .int, .int]),(211,[.int, .int, .int, .int, .int, .int, .int, .int, .int, .int, .int, .int, .int, .int]),(215,[.int, .int]),(218,[.int]),(243,[.int, .bool]),(280,[.int, .int])]
def tys:Tys:=lk tyL
def eqs:Eqs:=lk eqL
theorem gok:GOk prog tys:=jn (by kernel_rfl)
theorem eok:EB prog eqs:=dT (by kernel_rfl)
theorem mixed:prog.follows .mixedOrders=true:=by kernel_rfl
@[simp] theorem g2:tys 2=some ⟨1,8,false, .int .i64,[(.int .i64 0)]⟩:=AF rfl
@[simp] theorem g3:tys 3=some ⟨1,8,false, .int .i64,[(.int .i64 0)]⟩:=AF rfl
@[simp] theorem g4:tys 4=some ⟨1,1,false, .bool,[(.bool false)]⟩:=AF rfl
@[simp] theorem g5:tys 5=some ⟨1,1,false, .int .u8,[(.int .u8 0)]⟩:=AF rfl
@[simp] theorem g6:tys 6=some ⟨1,1,false, .int .u8,[(.int .u8 0)]⟩:=AF rfl
@[simp] theorem g8:tys 8=some ⟨4,24,true, .struct [(0,2),(1,3),(2,4),(3,6)],[(.int .i64 0),(.int .i64 0),(.bool false),(.int .u8 0)]⟩:=AF rfl
@[simp] theorem g9:tys 9=some ⟨1,16,false, .str,[(.string ByteArray.empty)]⟩:=AF rfl
@[simp] theorem g10:tys 10=some ⟨1,16,false, .str,[(.string ByteArray.empty)]⟩:=AF rfl
@[simp] theorem g11:tys 11=some ⟨1,16,false, .str,[(.string ByteArray.empty)]⟩:=AF rfl
@[simp] theorem g12:tys 12=some ⟨1,8,false, .int .u64,[(.int .u64 0)]⟩:=AF rfl
@[simp] theorem g14:tys 14=some ⟨2,24,true, .struct [(0,9),(1,12)],[(.string ByteArray.empty),(.int .u64 0)]⟩:=AF rfl
@[simp] theorem g15:tys 15=some ⟨1,8,false, .ptr 335,[(.pointer none)]⟩:=AF rfl
@[simp] theorem g16:tys 16=some ⟨1,8,false, .ptr 338,[(.pointer none)]⟩:=AF rfl
@[simp] theorem g17:tys 17=some ⟨1,8,false, .ptr 346,[(.pointer none)]⟩:=AF rfl
@[simp] theorem g19:tys 19=some ⟨1,8,true, .struct [(0,17)],[(.pointer none)]⟩:=AF rfl
@[simp] theorem g20:tys 20=some ⟨1,16,false, .ifc true,[.nilIface]⟩:=AF rfl
@[simp] theorem g22:tys 22=some ⟨1,24,false, .slice 100,[(.slice none 0 0)]⟩:=AF rfl
@[simp] theorem g24:tys 24=some ⟨3,24,true, .struct [(0,3),(1,3),(2,3)],[(.int .i64 0),(.int .i64 0),(.int .i64 0)]⟩:=AF rfl
@[simp] theorem g25:tys 25=some ⟨1,24,false, .slice 170,[(.slice none 0 0)]⟩:=AF rfl
@[simp] theorem g26:tys 26=some ⟨1,24,false, .slice 149,[(.slice none 0 0)]⟩:=AF rfl
@[simp] theorem g28:tys 28=some ⟨2,16,true, .struct [(0,3),(1,3)],[(.int .i64 0),(.int .i64 0)]⟩:=AF rfl
@[simp] theorem g30:tys 30=some ⟨7,72,true, .struct [(0,26),(1,28),(3,3),(4,3),(5,3),(6,3)],[(.slice none 0 0),(.int .i64 0),(.int .i64 0),(.int .i64 0),(.int .i64 0),(.int .i64 0),(.int .i64 0)]⟩:=AF rfl
@[simp] theorem g31:tys 31=some ⟨1,24,false, .slice 133,[(.slice none 0 0)]⟩:=AF rfl
@[simp] theorem g33:tys 33=some ⟨2,16,true, .struct [(0,3),(1,3)],[(.int .i64 0),(.int .i64 0)]⟩:=AF rfl
@[simp] theorem g35:tys 35=some ⟨10,96,true, .struct [(0,31),(1,3),(2,33),(4,33),(6,33),(8,33)],[(.slice none 0 0),(.int .i64 0),(.int .i64 0),(.int .i64 0),(.int .i64 0),(.int .i64 0),(.int .i64 0),(.int .i64 0),(.int .i64 0),(.int .i64 0)]⟩:=AF rfl
@[simp] theorem g37:tys 37=some ⟨25,216,true, .struct [(0,28),(2,28),(4,28),(6,28),(8,28),(10,28),(12,3),(13,3),(14,3),(15,35)],[(.int .i64 0),(.int .i64 0),(.int .i64 0),(.int .i64 0),(.int .i64 0),(.int .i64 0),(.int .i64 0),(.int .i64 0),(.int .i64 0),(.int .i64 0),(.int .i64 0),(.int .i64 0),(.int .i64 0),(.int .i64 0),(.int .i64 0),(.slice none 0 0),(.int .i64 0),(.int .i64 0),(.int .i64 0),(.int .i64 0),(.int .i64 0),(.int .i64 0),(.int .i64 0),(.int .i64 0),(.int .i64 0)]⟩:=AF rfl
@[simp] theorem g38:tys 38=some ⟨1,24,false, .slice 79,[(.slice none 0 0)]⟩:=AF rfl
@[simp] theorem g39:tys 39=some ⟨1,8,false, .other,[.nilFunc]⟩:=AF rfl
@[simp] theorem g43:tys 43=some ⟨1,24,false, .slice 73,[(.slice none 0 0)]⟩:=AF rfl
@[simp] theorem g44:tys 44=some ⟨1,24,false, .slice 83,[(.slice none 0 0)]⟩:=AF rfl
@[simp] theorem g45:tys 45=some ⟨1,8,false, .int .i64,[(.int .i64 0)]⟩:=AF rfl
@[simp] theorem g48:tys 48=some ⟨1,24,false, .slice 37,[(.slice none 0 0)]⟩:=AF rfl
@[simp] theorem g50:tys 50=some ⟨4,32,true, .struct [(0,3),(1,3),(2,3),(3,3)],[(.int .i64 0),(.int .i64 0),(.int .i64 0),(.int .i64 0)]⟩:=AF rfl
@[simp] theorem g54:tys 54=some ⟨2,48,true, .struct [(0,43),(1,44)],[(.slice none 0 0),(.slice none 0 0)]⟩:=AF rfl
@[simp] theorem g61:tys 61=some ⟨1,24,false, .slice 65,[(.slice none 0 0)]⟩:=AF rfl
@[simp] theorem g65:tys 65=some ⟨4,32,true, .struct [(0,5),(1,3),(2,3),(3,3)],[(.int .u8 0),(.int .i64 0),(.int .i64 0),(.int .i64 0)]⟩:=AF rfl
@[simp] theorem g73:tys 73=some ⟨5,40,true, .struct [(0,3),(1,28),(3,28)],[(.int .i64 0),(.int .i64 0),(.int .i64 0),(.int .i64 0),(.int .i64 0)]⟩:=AF rfl
@[simp] theorem g77:tys 77=some ⟨4,32,true, .struct [(0,28),(2,28)],[(.int .i64 0),(.int .i64 0),(.int .i64 0),(.int .i64 0)]⟩:=AF rfl
@[simp] theorem g79:tys 79=some ⟨11,104,true, .struct [(0,3),(1,77),(5,28),(7,28),(9,3),(10,61)],[(.int .i64 0),(.int .i64 0),(.int .i64 0),(.int .i64 0),(.int .i64 0),(.int .i64 0),(.int .i64 0),(.int .i64 0),(.int .i64 0),(.int .i64 0),(.slice none 0 0)]⟩:=AF rfl
@[simp] theorem g83:tys 83=some ⟨6,48,true, .struct [(0,3),(1,77),(5,3)],[(.int .i64 0),(.int .i64 0),(.int .i64 0),(.int .i64 0),(.int .i64 0),(.int .i64 0)]⟩:=AF rfl
@[simp] theorem g86:tys 86=some ⟨1,8,false, .other,[.nilFunc]⟩:=AF rfl
@[simp] theorem g95:tys 95=some ⟨1,8,false, .ptr 177,[(.pointer none)]⟩:=AF rfl
@[simp] theorem g100:tys 100=some ⟨2,16,true, .struct [(0,3),(1,3)],[(.int .i64 0),(.int .i64 0)]⟩:=AF rfl
@[simp] theorem g101:tys 101=some ⟨1,8,false, .other,[.nilFunc]⟩:=AF rfl
@[simp] theorem g104:tys 104=some ⟨1,8,false, .other,[.nilFunc]⟩:=AF rfl
@[simp] theorem g105:tys 105=some ⟨10,80,true, .array 5 28,[(.int .i64 0),(.int .i64 0),(.int .i64 0),(.int .i64 0),(.int .i64 0),(.int .i64 0),(.int .i64 0),(.int .i64 0),(.int .i64 0),(.int .i64 0)]⟩:=AF rfl
@[simp] theorem g108:tys 108=some ⟨1,8,false, .ptr 189,[(.pointer none)]⟩:=AF rfl
@[simp] theorem g115:tys 115=some ⟨1,8,false, .other,[.nilFunc]⟩:=AF rfl
@[simp] theorem g118:tys 118=some ⟨1,8,false, .other,[.nilFunc]⟩:=AF rfl
@[simp] theorem g124:tys 124=some ⟨1,8,false, .other,[.nilFunc]⟩:=AF rfl
@[simp] theorem g129:tys 129=some ⟨4,32,true, .struct [(0,28),(2,28)],[(.int .i64 0),(.int .i64 0),(.int .i64 0),(.int .i64 0)]⟩:=AF rfl
@[simp] theorem g133:tys 133=some ⟨7,56,true, .struct [(0,3),(1,3),(2,3),(3,28),(5,3),(6,3)],[(.int .i64 0),(.int .i64 0),(.int .i64 0),(.int .i64 0),(.int .i64 0),(.int .i64 0),(.int .i64 0)]⟩:=AF rfl
@[simp] theorem g138:tys 138=some ⟨1,24,false, .slice 33,[(.slice none 0 0)]⟩:=AF rfl
@[simp] theorem g140:tys 140=some ⟨1,8,false, .other,[.nilFunc]⟩:=AF rfl
@[simp] theorem g146:tys 146=some ⟨1,8,false, .other,[.nilFunc]⟩:=AF rfl
@[simp] theorem g147:tys 147=some ⟨1,8,false, .other,[.nilFunc]⟩:=AF rfl
@[simp] theorem g149:tys 149=some ⟨2,16,true, .struct [(0,3),(1,3)],[(.int .i64 0),(.int .i64 0)]⟩:=AF rfl
@[simp] theorem g156:tys 156=some ⟨1,8,false, .other,[.nilFunc]⟩:=AF rfl
@[simp] theorem g158:tys 158=some ⟨1,24,false, .slice 4,[(.slice none 0 0)]⟩:=AF rfl
@[simp] theorem g160:tys 160=some ⟨5,40,true, .struct [(0,3),(1,3),(2,3),(3,3),(4,3)],[(.int .i64 0),(.int .i64 0),(.int .i64 0),(.int .i64 0),(.int .i64 0)]⟩:=AF rfl
@[simp] theorem g161:tys 161=some ⟨1,24,false, .slice 160,[(.slice none 0 0)]⟩:=AF rfl
@[simp] theorem g163:tys 163=some ⟨2,48,true, .struct [(0,158),(1,161)],[(.slice none 0 0),(.slice none 0 0)]⟩:=AF rfl
@[simp] theorem g167:tys 167=some ⟨7,56,true, .struct [(0,3),(1,3),(2,3),(3,3),(4,3),(5,28)],[(.int .i64 0),(.int .i64 0),(.int .i64 0),(.int .i64 0),(.int .i64 0),(.int .i64 0),(.int .i64 0)]⟩:=AF rfl
@[simp] theorem g168:tys 168=some ⟨1,24,false, .slice 44,[(.slice none 0 0)]⟩:=AF rfl
@[simp] theorem g170:tys 170=some ⟨6,48,true, .struct [(0,3),(1,3),(2,3),(3,3),(4,28)],[(.int .i64 0),(.int .i64 0),(.int .i64 0),(.int .i64 0),(.int .i64 0),(.int .i64 0)]⟩:=AF rfl
@[simp] theorem g171:tys 171=some ⟨1,24,false, .slice 28,[(.slice none 0 0)]⟩:=AF rfl
@[simp] theorem g173:tys 173=some ⟨1,24,false, .slice 3,[(.slice none 0 0)]⟩:=AF rfl
@[simp] theorem g175:tys 175=some ⟨5,40,true, .array 5 3,[(.int .i64 0),(.int .i64 0),(.int .i64 0),(.int .i64 0),(.int .i64 0)]⟩:=AF rfl
@[simp] theorem g177:tys 177=some ⟨6,64,true, .struct [(0,25),(1,175)],[(.slice none 0 0),(.int .i64 0),(.int .i64 0),(.int .i64 0),(.int .i64 0),(.int .i64 0)]⟩:=AF rfl
@[simp] theorem g181:tys 181=some ⟨1,8,false, .other,[.nilFunc]⟩:=AF rfl
@[simp] theorem g186:tys 186=some ⟨1,24,false, .slice 45,[(.slice none 0 0)]⟩:=AF rfl
@[simp] theorem g189:tys 189=some ⟨9,120,true, .struct [(0,54),(2,30)],[(.slice none 0 0),(.slice none 0 0),(.slice none 0 0),(.int .i64 0),(.int .i64 0),(.int .i64 0),(.int .i64 0),(.int .i64 0),(.int .i64 0)]⟩:=AF rfl
@[simp] theorem g192:tys 192=some ⟨1,8,false, .other,[.nilFunc]⟩:=AF rfl
@[simp] theorem g196:tys 196=some ⟨1,8,false, .other,[.nilFunc]⟩:=AF rfl
@[simp] theorem g198:tys 198=some ⟨1,24,false, .slice 200,[(.slice none 0 0)]⟩:=AF rfl
@[simp] theorem g200:tys 200=some ⟨3,24,true, .struct [(0,3),(1,28)],[(.int .i64 0),(.int .i64 0),(.int .i64 0)]⟩:=AF rfl
@[simp] theorem g202:tys 202=some ⟨1,8,false, .ptr 28,[(.pointer none)]⟩:=AF rfl
@[simp] theorem g203:tys 203=some ⟨6,48,true, .array 6 202,[(.pointer none),(.pointer none),(.pointer none),(.pointer none),(.pointer none),(.pointer none)]⟩:=AF rfl
@[simp] theorem g205:tys 205=some ⟨1,8,false, .ptr 37,[(.pointer none)]⟩:=AF rfl
@[simp] theorem g211:tys 211=some ⟨14,112,true, .struct [(0,133),(7,129),(11,3),(12,28)],[(.int .i64 0),(.int .i64 0),(.int .i64 0),(.int .i64 0),(.int .i64 0),(.int .i64 0),(.int .i64 0),(.int .i64 0),(.int .i64 0),(.int .i64 0),(.int .i64 0),(.int .i64 0),(.int .i64 0),(.int .i64 0)]⟩:=AF rfl
@[simp] theorem g215:tys 215=some ⟨2,16,true, .struct [(0,3),(1,3)],[(.int .i64 0),(.int .i64 0)]⟩:=AF rfl
@[simp] theorem g218:tys 218=some ⟨1,8,true, .struct [(0,45)],[(.int .i64 0)]⟩:=AF rfl
@[simp] theorem g219:tys 219=some ⟨1,8,false, .other,[.nilFunc]⟩:=AF rfl
@[simp] theorem g221:tys 221=some ⟨1,8,false, .ptr 225,[(.pointer none)]⟩:=AF rfl
@[simp] theorem g222:tys 222=some ⟨8,64,true, .array 8 219,[.nilFunc, .nilFunc, .nilFunc, .nilFunc, .nilFunc, .nilFunc, .nilFunc, .nilFunc]⟩:=AF rfl
@[simp] theorem g225:tys 225=some ⟨10,96,true, .struct [(0,35)],[(.slice none 0 0),(.int .i64 0),(.int .i64 0),(.int .i64 0),(.int .i64 0),(.int .i64 0),(.int .i64 0),(.int .i64 0),(.int .i64 0),(.int .i64 0)]⟩:=AF rfl
@[simp] theorem g227:tys 227=some ⟨1,8,false, .int .u64,[(.int .u64 0)]⟩:=AF rfl
@[simp] theorem g231:tys 231=some ⟨1,8,false, .other,[.nilFunc]⟩:=AF rfl
@[simp] theorem g236:tys 236=some ⟨1,8,false, .ptr 275,[(.pointer none)]⟩:=AF rfl
@[simp] theorem g243:tys 243=some ⟨2,16,true, .struct [(0,3),(1,4)],[(.int .i64 0),(.bool false)]⟩:=AF rfl
@[simp] theorem g246:tys 246=some ⟨1,8,false, .other,[.nilFunc]⟩:=AF rfl
@[simp] theorem g249:tys 249=some ⟨1,8,false, .other,[.nilFunc]⟩:=AF rfl
@[simp] theorem g250:tys 250=some ⟨1,8,false, .other,[.nilFunc]⟩:=AF rfl
@[simp] theorem g256:tys 256=some ⟨1,8,false, .other,[.nilFunc]⟩:=AF rfl
@[simp] theorem g259:tys 259=some ⟨1,8,false, .ptr 133,[(.pointer none)]⟩:=AF rfl
@[simp] theorem g263:tys 263=some ⟨2,16,true, .struct [(0,3),(1,39)],[(.int .i64 0), .nilFunc]⟩:=AF rfl
@[simp] theorem g268:tys 268=some ⟨1,24,false, .slice 263,[(.slice none 0 0)]⟩:=AF rfl
@[simp] theorem g272:tys 272=some ⟨3,24,true, .array 3 45,[(.int .i64 0),(.int .i64 0),(.int .i64 0)]⟩:=AF rfl
@[simp] theorem g273:tys 273=some ⟨1,8,false, .map 243 276,[(.map none)]⟩:=AF rfl
@[simp] theorem g275:tys 275=some ⟨10,112,true, .struct [(0,163),(2,167),(9,273)],[(.slice none 0 0),(.slice none 0 0),(.int .i64 0),(.int .i64 0),(.int .i64 0),(.int .i64 0),(.int .i64 0),(.int .i64 0),(.int .i64 0),(.map none)]⟩:=AF rfl
@[simp] theorem g276:tys 276=some ⟨1,24,false, .slice 280,[(.slice none 0 0)]⟩:=AF rfl
@[simp] theorem g280:tys 280=some ⟨2,16,true, .struct [(0,3),(1,3)],[(.int .i64 0),(.int .i64 0)]⟩:=AF rfl
@[simp] theorem g285:tys 285=some ⟨16,128,true, .array 8 28,[(.int .i64 0),(.int .i64 0),(.int .i64 0),(.int .i64 0),(.int .i64 0),(.int .i64 0),(.int .i64 0),(.int .i64 0),(.int .i64 0),(.int .i64 0),(.int .i64 0),(.int .i64 0),(.int .i64 0),(.int .i64 0),(.int .i64 0),(.int .i64 0)]⟩:=AF rfl
@[simp] theorem g286:tys 286=some ⟨2,16,true, .array 2 3,[(.int .i64 0),(.int .i64 0)]⟩:=AF rfl
@[simp] theorem g289:tys 289=some ⟨4,32,true, .array 2 28,[(.int .i64 0),(.int .i64 0),(.int .i64 0),(.int .i64 0)]⟩:=AF rfl
@[simp] theorem g293:tys 293=some ⟨1,8,false, .other,[.nilFunc]⟩:=AF rfl
@[simp] theorem g296:tys 296=some ⟨1,8,false, .int .u64,[(.int .u64 0)]⟩:=AF rfl
@[simp] theorem g302:tys 302=some ⟨1,24,false, .slice 215,[(.slice none 0 0)]⟩:=AF rfl
@[simp] theorem g308:tys 308=some ⟨1,16,false, .ifc false,[.nilIface]⟩:=AF rfl
@[simp] theorem g311:tys 311=some ⟨1,8,false, .other,[.nilFunc]⟩:=AF rfl
@[simp] theorem g314:tys 314=some ⟨1,8,false, .int .i64,[(.int .i64 0)]⟩:=AF rfl
@[simp] theorem g321:tys 321=some ⟨1,4,false, .int .u32,[(.int .u32 0)]⟩:=AF rfl
@[simp] theorem g322:tys 322=some ⟨1,8,false, .other,[.nilFunc]⟩:=AF rfl
@[simp] theorem g323:tys 323=some ⟨1,8,false, .int .u64,[(.int .u64 0)]⟩:=AF rfl
@[simp] theorem g327:tys 327=some ⟨1,8,false, .ptr 3,[(.pointer none)]⟩:=AF rfl
@[simp] theorem g329:tys 329=some ⟨1,8,false, .ptr 323,[(.pointer none)]⟩:=AF rfl
@[simp] theorem g335:tys 335=some ⟨4,40,true, .struct [(0,17),(1,17),(2,17),(3,9)],[(.pointer none),(.pointer none),(.pointer none),(.string ByteArray.empty)]⟩:=AF rfl
@[simp] theorem g336:tys 336=some ⟨0,0,true, .array 0 16,[]⟩:=AF rfl
@[simp] theorem g338:tys 338=some ⟨0,0,true, .struct [(0,336)],[]⟩:=AF rfl
@[simp] theorem g339:tys 339=some ⟨1,1,false, .int .u8,[(.int .u8 0)]⟩:=AF rfl
@[simp] theorem g340:tys 340=some ⟨1,1,false, .int .u8,[(.int .u8 0)]⟩:=AF rfl
@[simp] theorem g341:tys 341=some ⟨1,8,false, .other,[.nilFunc]⟩:=AF rfl
@[simp] theorem g342:tys 342=some ⟨1,8,false, .ptr 5,[(.pointer none)]⟩:=AF rfl
@[simp] theorem g343:tys 343=some ⟨1,4,false, .int .i32,[(.int .i32 0)]⟩:=AF rfl
@[simp] theorem g344:tys 344=some ⟨1,4,false, .int .i32,[(.int .i32 0)]⟩:=AF rfl
@[simp] theorem g346:tys 346=some ⟨11,48,true, .struct [(0,12),(1,12),(2,321),(3,339),(4,5),(5,5),(6,340),(7,341),(8,342),(9,343),(10,344)],[(.int .u64 0),(.int .u64 0),(.int .u32 0),(.int .u8 0),(.int .u8 0),(.int .u8 0),(.int .u8 0), .nilFunc,(.pointer none),(.int .i32 0),(.int .i32 0)]⟩:=AF rfl
@[simp] theorem g351:tys 351=some ⟨1,24,false, .slice 353,[(.slice none 0 0)]⟩:=AF rfl
@[simp] theorem g353:tys 353=some ⟨3,40,true, .struct [(0,3),(1,173),(2,4)],[(.int .i64 0),(.slice none 0 0),(.bool false)]⟩:=AF rfl
@[simp] theorem e8:eqs 8=some [.int, .int, .bool, .int]:=AF rfl
@[simp] theorem e24:eqs 24=some [.int, .int, .int]:=AF rfl
@[simp] theorem e28:eqs 28=some [.int, .int]:=AF rfl
@[simp] theorem e33:eqs 33=some [.int, .int]:=AF rfl
@[simp] theorem e50:eqs 50=some [.int, .int, .int, .int]:=AF rfl
@[simp] theorem e65:eqs 65=some [.int, .int, .int, .int]:=AF rfl
@[simp] theorem e73:eqs 73=some [.int, .int, .int, .int, .int]:=AF rfl
@[simp] theorem e77:eqs 77=some [.int, .int, .int, .int]:=AF rfl
@[simp] theorem e83:eqs 83=some [.int, .int, .int, .int, .int, .int]:=AF rfl
@[simp] theorem e100:eqs 100=some [.int, .int]:=AF rfl
@[simp] theorem e129:eqs 129=some [.int, .int, .int, .int]:=AF rfl
@[simp] theorem e133:eqs 133=some [.int, .int, .int, .int, .int, .int, .int]:=AF rfl
@[simp] theorem e149:eqs 149=some [.int, .int]:=AF rfl
@[simp] theorem e160:eqs 160=some [.int, .int, .int, .int, .int]:=AF rfl
@[simp] theorem e167:eqs 167=some [.int, .int, .int, .int, .int, .int, .int]:=AF rfl
@[simp] theorem e170:eqs 170=some [.int, .int, .int, .int, .int, .int]:=AF rfl
@[simp] theorem e200:eqs 200=some [.int, .int, .int]:=AF rfl
@[simp] theorem e211:eqs 211=some [.int, .int, .int, .int, .int, .int, .int, .int, .int, .int, .int, .int, .int, .int]:=AF rfl
@[simp] theorem e215:eqs 215=some [.int, .int]:=AF rfl
@[simp] theorem e218:eqs 218=some [.int]:=AF rfl
@[simp] theorem e243:eqs 243=some [.int, .bool]:=AF rfl
@[simp] theorem e280:eqs 280=some [.int, .int]:=AF rfl
theorem CB {f:FuncId} {fn:Func} {p:PC} {args:List V} {r:V} {H1:List (Nat × List V)} (hf:prog.funcs[f]?= some fn) (hc:fn.body.bind (AK fn.ntmps)=some p) (h:∀ E:Ent,(∀ i,¬ E.stab i)->PW prog tys eqs E p (dL tys fn r H1) ⟨Dn 0 args,fun _=>none,0⟩) (hn:args.length<=fn.ntmps:=by exact Nat.le_of_ble_eq_true rfl) (hname:(fn.name == "runtime.NumGoroutine")=false:=by rfl) (hcl:∀ v∈args,I8 v:=by simp) (hri:LD r H1:=by simp [LD]):Ct prog f args r H1:=
 Ct.by gok eok mixed hf hc hname hn hcl hri h
theorem CM {f:FuncId} {fn:Func} {p:PC} {args:List V} {Hin:List (Nat × List V)} {ks:List Nat} {res:Res} {H1:List (Nat × List V)} (N:Nat) (hf:prog.funcs[f]?= some fn) (hc:fn.body.bind (AK fn.ntmps)=some p) (h:∀ E:Ent,(∀ i,E.stab i↔i∈ks)->E.nt=fn.ntmps/\E.rq->PW prog tys eqs E p (Mh tys fn ks res H1) ⟨Dn 0 args,lk Hin,N⟩) (hn:args.length<=fn.ntmps:=by exact Nat.le_of_ble_eq_true rfl) (hname:(fn.name == "runtime.NumGoroutine")=false:=by rfl) (hcl:∀ v∈args,A2 (· < N) AR v:=by simp) (hids:A7 N Hin:=by simp) (hks:∀ i∈ks,i<N:=by simp) (hri:LD res.v H1:=by simp [LD]):Cm prog f args (lk Hin) ks res (lk H1):=
 Cm.by gok eok mixed N hf hc hname hn hcl (A7.at hids) hks hri h
abbrev vi (n:Int):V:= .d (.lit (.int .i64 n))
abbrev vb (b:Bool):V:= .d (.lit (.bool b))
abbrev di (n:Int):D:= .lit (.int .i64 n)
abbrev vsp (a b:Int):V:= .agg [vi a,vi b]
abbrev An (l:List (Int × Int)):D:= .sl 2 (l.map fun s=>[di s.1,di s.2])
def okS (s:Int × Int):Bool:=decide (s.1<=s.2)&&decide (-1099511627776<=s.1)&&decide (s.2<=1099511627776)
def Co (l:List (Int × Int)):Bool:=l.all okS
theorem AJ5 {l:List (Int × Int)} {i:Nat} {s:Int × Int} (hs:l[i]?= some s):Co (l.take (i+1))=(Co (l.take i)&&okS s):=by
 simp [Co,List.take_add_one,hs]
theorem EF {l:List (Int × Int)} {i:Nat} {s:Int × Int} (hs:l[i]?= some s) (h:okS s=false):Co l=false:=by
 unfold Co;rw [List.all_eq_false];exact ⟨s,List.mem_of_getElem? hs,by simp [h]⟩
theorem Tc (l:List (Int × Int)) (hl:l.length<=1000000):Ct prog 119 [.d (An l)] (vb (Co l)) []:=by
 refine Ct.by gok eok mixed func119 c119 rfl ?_ ?_ ?_ fun E hE=>?_
 . simp [ntmps119]
 . simp
 . simp [LD]
 simp [p119];refine Al (α:=Nat) (fun i=>⟨AO [(5, .d (An l)),(6,vi l.length),(7,vi i)],lk [],0⟩) (fun i=>i<=l.length/\Co (l.take i)=true) (fun i=>l.length-i) 0 ?_ ?_ ?_
 . simp [Co]
 . exact WK hE (fun _=>none)
 . intro i ⟨hi,hf⟩
   simp [APG];refine Bh (fun h=>?_) (fun h=>?_)
   . simp at h
     obtain ⟨s,hs⟩:∃ s,l[i]?= some s:=⟨l[i],by simp [h]⟩
     have hz:IntKind.wrap .i64 ((i:Int)+1)=(i:Int)+1:=AD (by omega) (by omega)
     have hbad:okS s=false->AB tys f119 (vb (Co l)) [] ⟨AO [(2,vb false)],lk [],0⟩:=fun hh=>by
       refine ⟨[vb false],fun _=>none,?_⟩;simp [results119,EF hs hh]
     by_cases h1:s.2<s.1
     . have hh:okS s=false:=by simp [okS];omega
       simp [An,hs,AA,h1];refine ⟨[vb false],fun _=>none,?_⟩;simp [results119,EF hs hh]
     . by_cases h2:s.1 < -1099511627776
       . have hh:okS s=false:=by simp [okS];omega
         simp [An,hs,AA,h1,h2];refine ⟨[vb false],fun _=>none,?_⟩;simp [results119,EF hs hh]
       . by_cases h3:1099511627776<s.2
         . have hh:okS s=false:=by simp [okS];omega
           simp [An,hs,AA,h1,h2,h3];refine ⟨[vb false],fun _=>none,?_⟩;simp [results119,EF hs hh]
         . have hh:okS s=true:=by simp [okS];omega
           simp [An,hs,AA,h1,h2,h3,hz];refine ⟨i+1,⟨by omega,?_⟩,by omega,?_⟩
           . rw [AJ5 hs,hf,hh];rfl
           . exact WK hE (fun _=>none)
   . simp at h
     have hil:i=l.length:=by omega
     subst hil;rw [List.take_length] at hf;simp;refine ⟨[vb true],fun _=>none,?_⟩;simp [results119,hf]
theorem pA (s:Int × Int):Ct prog 70 [vsp s.1 s.2] (vi (if okS s then 0 else 10)) []:=by
 refine Ct.by gok eok mixed func70 c70 rfl ?_ ?_ ?_ fun E hE=>?_
 . simp [ntmps70]
 . simp
 . simp [LD]
 simp [p70,AM,AA];refine AU.mk _ _ _ (Tc [s] (by simp)) ?_ ?_ ?_ ?_
 . simp [Bk]
 . simp
 . right;simp
 by_cases h:okS s=true
 . simp [Co,h]
   refine ⟨[vi 0],fun _=>none,?_⟩;simp [results70]
 . simp [Co,h]
   refine ⟨[vi 10],fun _=>none,?_⟩;simp [results70]
abbrev vse (s:(Int × Int) × Int):V:= .tup [vsp s.1.1 s.1.2,vi s.2]
def JH (s:Int × Int):(Int × Int) × Int:=if s.1 < -1099511627776\/1099511627776<s.2 then ((0,0),11) else (s,0)
theorem ASW (s:Int × Int):Ct prog 172 [vsp s.1 s.2] (vse (JH s)) []:=by
 refine Ct.by gok eok mixed func172 c172 rfl ?_ ?_ ?_ fun E hE=>?_
 . simp [ntmps172]
 . simp
 . simp [LD]
 by_cases h1:s.1 < -1099511627776
 . simp [p172,h1,AA]
   apply RZ;simp [results172,JH,h1]
 . by_cases h2:1099511627776<s.2
   . simp [p172,h1,h2,AA]
     apply RZ;simp [results172,JH,h1,h2]
   . simp [p172,h1,h2,AA]
     apply RZ;simp [results172,JH,h1,h2]
def AUu (a b:Int × Int):(Int × Int) × Int:=if okS a&&okS b then JH (a.1+b.1,a.2+b.2) else ((0,0),10)
theorem CT {s:Int × Int}:okS s=true↔s.1<=s.2/\ -1099511627776<=s.1/\s.2<=1099511627776:=by simp [okS,and_assoc]
theorem jC (a b:Int × Int):Ct prog 192 [vsp a.1 a.2,vsp b.1 b.2] (vse (AUu a b)) []:=by
 refine Ct.by gok eok mixed func192 c192 rfl ?_ ?_ ?_ fun E hE=>?_
 . simp [ntmps192]
 . simp
 . simp [LD]
 simp [p192,AM,AA];refine AU.mk _ _ _ (Tc [a,b] (by simp)) ?_ ?_ ?_ ?_
 . simp [Bk]
 . simp
 . right;simp
 by_cases h:(okS a&&okS b)=true
 . have hh:=h
   simp only [Bool.and_eq_true,CT] at hh;have e1:IntKind.wrap .i64 (a.1+b.1)=a.1+b.1:=AD (by omega) (by omega);have e2:IntKind.wrap .i64 (a.2+b.2)=a.2+b.2:=AD (by omega) (by omega);have hf:Co [a,b]=true:=by simpa [Co] using h
   simp [hf,e1,e2,AA];refine AU.mk _ _ _ (ASW (a.1+b.1,a.2+b.2)) ?_ ?_ ?_ ?_
   . simp
   . simp
   . right;simp
   simp [AA];apply RZ;simp [results192,AUu,h]
 . have hf:Co [a,b]=false:=by simpa [Co] using h
   simp [hf,AA];apply RZ;simp [results192,AUu,h]
theorem AQP (x:Int) (hx: -4611686018427387904<=x/\x<=4611686018427387904):Ct prog 187 [vi x] (.d (.lit (.int .u64 (max x (-x))))) []:=by
 refine Ct.by gok eok mixed func187 c187 rfl ?_ ?_ ?_ fun E hE=>?_
 . simp [ntmps187]
 . simp
 . simp [LD]
 have e1:IntKind.wrap .i64 (-x)= -x:=AD (by omega) (by omega);have e2:IntKind.wrap .u64 (max x (-x))=max x (-x):=Ay (by omega) (by omega);simp [p187,e1,e2];apply RZ;simp [results187]
def Xa (o s:Int × Int):Int × Int:=(min o.1 s.1,max o.2 s.2)
def ALK (s:Int × Int) (l:List (Int × Int)):Int × Int:=l.foldl Xa s
theorem Hw {s0:Int × Int} {l:List (Int × Int)} {i:Nat} {s:Int × Int} (hs:l[i]?= some s):ALK s0 (l.take (i+1))=Xa (ALK s0 (l.take i)) s:=by
 simp [ALK,List.take_add_one,hs]
theorem yP (s0:Int × Int) (l:List (Int × Int)) (hl:l.length<=1000000):Ct prog 135 [.d (An (s0::l))] (vsp (ALK s0 l).1 (ALK s0 l).2) []:=by
 refine Ct.by gok eok mixed func135 c135 rfl ?_ ?_ ?_ fun E hE=>?_
 . simp [ntmps135]
 . simp
 . simp [LD]
 have h0:(1:Int)<=(l.length:Int)+1:=by omega
 simp [p135,AA,h0];refine Al (α:=Nat) (fun i=>⟨AO [(2, .lp 0 0),(3, .lp 1 0),(10, .d (An l)),(11,vi l.length),(12,vi i)],lk [(0,[vi 0,vi 0]),(1,[vi (ALK s0 (l.take i)).1,vi (ALK s0 (l.take i)).2])],16⟩) (fun i=>i<=l.length) (fun i=>l.length-i) 0 ?_ ?_ ?_
 . simp
 . refine AI.mk hE (fun i=>if i=0 then some 0 else some 4194304) _ _ _ ?_ ?_ ?_ ?_ ?_<;>simp [ALK]
   exact List.take_of_length_le (by simp)
 . intro i hi
   simp [API];refine Bh (fun h=>?_) (fun h=>?_)
   . simp at h
     obtain ⟨s,hs⟩:∃ s,l[i]?= some s:=⟨l[i],by simp [h]⟩
     have hz:IntKind.wrap .i64 ((i:Int)+1)=(i:Int)+1:=AD (by omega) (by omega);simp [An,hs,AA];refine AL [(11,1)] (by kernel_rfl) ?_;simp [AA,hz,inC,Nat.testBit];refine ⟨i+1,by omega,by omega,?_⟩;refine AI.mk hE (fun i=>some i) _ _ _ ?_ ?_ ?_ ?_ ?_<;>simp [Hw hs,Xa]
   . simp at h
     have hil:i=l.length:=by omega
     subst hil;simp [AA];apply RZ;simp [results135]
end Go.Proofs.Tryz
namespace Go.Psl
variable {Γ:Tys} {eqs:Eqs} {H:Hp} {t:TypeId} {b:Nat}
theorem ABd {p:Option Addr} {n c:Nat} {x:V}:Lr Γ H b t (.d (.lit (.slice p n c))) x=(Γ t).bind fun y=>match y.sh with
 | .slice e=>(Γ e).bind fun ye=>if ye.size=0\/Ei (.d (.lit (.slice p n c))) x=true then none else (cellsOf H ye.size x).bind fun nx=>if nx.2.all V.isCell then (if nx.1*ye.bytes<=Fh/\nx.1<=maxL then some (.ls b 0 nx.1 ye.size, .new b nx.2) else none) else none
 | _=>none:=AF rfl
theorem SR {D':D} {x:V}:Ei (.d D') x=false:=AF rfl
theorem iG {id len sz:Nat} {x:V}:Lr Γ H b t (.ls id 0 len sz) x=(Γ t).bind fun y=>match y.sh with
 | .slice e=>(Γ e).bind fun ye=>if ye.size=0\/Ei (.ls id 0 len sz) x=true then none else (cellsOf H ye.size x).bind fun nx=>if nx.2.all V.isCell then
     (if sz=ye.size then (H id).bind fun cs=>if len*sz<=cs.length/\(len+nx.1)*ye.bytes<=Fh/\len+nx.1<=maxL then some (.ls b 0 (len+nx.1) sz, .mov id b (cs.take (len*sz)++nx.2)) else none else none) else none
 | _=>none:=AF rfl
theorem WP {i o l z i' o' l' z':Nat}:Ei (.ls i o l z) (.ls i' o' l' z')=(i == i'):=AF rfl
theorem cI {i o l z:Nat} {x:D}:Ei (.ls i o l z) (.d x)=false:=AF rfl
theorem Pm {sz:Nat} {p:Option Addr} {n c:Nat}:cellsOf H sz (.d (.lit (.slice p n c)))=some (0,[]):=AF rfl
theorem SS {sz sz':Nat} {es:List (List D)}:cellsOf H sz (.d (.sl sz' es))=if sz=sz' then some (es.length,es.flatten.map .d) else none:=AF rfl
theorem ST {sz sz' id off len:Nat}:cellsOf H sz (.ls id off len sz')=if sz=sz' then (H id).bind fun cs=>if off+len*sz<=cs.length then some (len,(cs.drop off).take (len*sz)) else none else none:=AF rfl
theorem cJ:P8 []= .tup []:=AF rfl
theorem WQ {ρ:Nat->Option Nat}:WV ρ (.tup []) (.tup []):=by simp
attribute [simp] cJ WQ ABd iG WP cI SR Pm SS ST
theorem iH {ρ:Nat->Option Nat} (x:D):WC ρ (.d x) (.d x):=by simp
theorem AL1 {ρ:Nat->Option Nat} {xs ys:List V}:∀ ds:List D,AJ (WC ρ) (ds.map .d++xs) (ds.map .d++ys)=AJ (WC ρ) xs ys
 | []=>rfl
 | d::ds=>by
   show (WC ρ (.d d) (.d d)/\AJ (WC ρ) (ds.map .d++xs) (ds.map .d++ys))=_
   rw [AL1 ds];exact propext ⟨fun h=>h.2,fun h=>⟨iH d,h⟩⟩
theorem LR {ρ:Nat->Option Nat} (ds:List D):AJ (WC ρ) (ds.map .d) (ds.map .d)=True:=by
 have:=AL1 (ρ:=ρ) (xs:=[]) (ys:=[]) ds;rw [List.append_nil] at this;rw [this];exact propext ⟨fun _=>trivial,fun _=>trivial⟩
theorem FO {xs:List V} {ds:List D} (h:xs.all V.isCell=true):Bv (ds.map .d++xs):=Or.inl (by
 rw [List.all_append,h,Bool.and_true,List.all_map,List.all_eq_true];intro x _;rfl)
theorem HJ {ds:List D}:Bv (ds.map .d):=Or.inl (by
 rw [List.all_map,List.all_eq_true];intro x _;rfl)
theorem iI {q:Nat->Prop} {ds:List D}:∀ c∈ds.map V.d,AC q AR c:=fun c h=>by
 simp only [List.mem_map] at h;obtain ⟨d,_,rfl⟩:=h;simp
theorem SV {ρ:Nat->Nat} {ds:List D}:ds.map (BJ ρ ∘ V.d)=ds.map V.d:=by
 apply List.map_congr_left;intro x _;rfl
attribute [simp] SV AL1 LR FO HJ
end Go.Psl
namespace Go.Proofs.Tryz
open Go.Psl
theorem NK {x y M N:Int} (hx: -M<=x/\x<=M) (hy: -N<=y/\y<=N): -(M*N)<=x*y/\x*y<=M*N:=by
 have hN:0<=N:=by omega
 have hM:0<=M:=by omega
 have a1:M* -N= -(M*N):=Int.mul_neg M N;by_cases h:0<=x
 . have h1:=Int.mul_le_mul_of_nonneg_left hy.2 h
   have h2:=Int.mul_le_mul_of_nonneg_left hy.1 h;have h3:=Int.mul_le_mul_of_nonneg_right hx.2 hN;have h4:x* -N= -(x*N):=Int.mul_neg x N;omega
 . have h1:=Int.mul_le_mul_of_nonpos_left (show x<=0 by omega) hy.2
   have h2:=Int.mul_le_mul_of_nonpos_left (show x<=0 by omega) hy.1;have h3:=Int.mul_le_mul_of_nonneg_right hx.1 hN;have h4:x* -N= -(x*N):=Int.mul_neg x N;have h5: -M*N= -(M*N):=Int.neg_mul M N;omega
def bd (M:Int) (p:Int × Int):Prop:=(-M<=p.1/\p.1<=M)/\(-M<=p.2/\p.2<=M)
def DU (a b:Int × Int):Int × Int:=(b.1-a.1,b.2-a.2)
theorem NL {M N:Int} {a b:Int × Int} (ha:bd M a) (hb:bd M b) (h:N=2*M):bd N (DU a b):=by
 unfold bd DU at*;simp only;omega
theorem rL (a b:Int × Int) (ha:bd 1152921504606846976 a) (hb:bd 1152921504606846976 b):Ct prog 184 [vsp a.1 a.2,vsp b.1 b.2] (vsp (DU a b).1 (DU a b).2) []:=by
 refine CB func184 c184 fun E hE=>?_
 unfold bd at ha hb;have w1:IntKind.wrap .i64 (b.1-a.1)=b.1-a.1:=AD (by omega) (by omega);have w2:IntKind.wrap .i64 (b.2-a.2)=b.2-a.2:=AD (by omega) (by omega);simp [p184,w1,w2,AA];apply RZ;simp [results184,DU]
def TX (u v:Int × Int):Int:=u.1*v.2-u.2*v.1
theorem fk {M:Int} {u v:Int × Int} (hu:bd M u) (hv:bd M v):(-(M*M)<=u.1*v.2/\u.1*v.2<=M*M)/\(-(M*M)<=u.2*v.1/\u.2*v.1<=M*M):=⟨NK hu.1 hv.2,NK hu.2 hv.1⟩
theorem jI (u v:Int × Int) (hu:bd 2000000000 u) (hv:bd 2000000000 v):Ct prog 183 [vsp u.1 u.2,vsp v.1 v.2] (vi (TX u v)) []:=by
 refine CB func183 c183 fun E hE=>?_
 have hb:=fk hu hv;have w1:IntKind.wrap .i64 (u.1*v.2)=u.1*v.2:=AD (by omega) (by omega);have w2:IntKind.wrap .i64 (u.2*v.1)=u.2*v.1:=AD (by omega) (by omega);have w3:IntKind.wrap .i64 (u.1*v.2-u.2*v.1)=u.1*v.2-u.2*v.1:=AD (by omega) (by omega);simp [p183,w1,w2,w3];apply RZ;simp [results183,TX]
theorem yH (n:Int):Ct prog 211 [vi n] (vb false) []:=by
 refine CB func211 c211 fun E hE=>?_
 simp [p211];apply RZ;simp [results211]
def NM (a b:Int):Int:=if a<b then -1 else if b<a then 1 else 0
theorem AQQ (a b:Int):Ct prog 197 [vi a,vi b] (vi (NM a b)) []:=by
 refine CB func197 c197 fun E hE=>?_
 simp [p197];refine CLa (yH a) ?_;simp;refine CLa (yH b) ?_;simp;by_cases h:a<b
 . simp [h]
   apply RZ;simp [results197,NM,h]
 . by_cases h2:b<a
   . simp [h,h2]
     apply RZ;simp [results197,NM,h,h2]
   . simp [h,h2]
     apply RZ;simp [results197,NM,h,h2]
def orI:List Int->Int
 | []=>0
 | a::r=>if a=0 then orI r else a
abbrev Ch (l:List Int):D:= .sl 1 (l.map fun n=>[di n])
theorem AQo (a b:Int):Ct prog 196 [.d (Ch [a,b])] (vi (orI [a,b])) []:=by
 refine CB func196 c196 fun E hE=>?_
 have hz:IntKind.wrap .i64 1=1:=by decide
 have hz2:IntKind.wrap .i64 2=2:=by decide
 simp [p196];refine Al (α:=Nat) (fun i=>⟨AO [(3,vi 0),(6, .d (Ch [a,b])),(7,vi 2),(8,vi i)],lk [],0⟩) (fun i=>i<=2/\(1<=i->a=0)/\(2<=i->b=0)) (fun i=>2-i) 0 ?_ ?_ ?_
 . simp
 . exact WK hE (lk [])
 . rintro i ⟨hi,h1,h2⟩
   simp [APR];obtain rfl | rfl | rfl:i=0\/i=1\/i=2:=by omega
   . by_cases h:a=0
     . simp [h,hz]
       refine ⟨1,by omega,by omega,?_⟩;exact WK hE (lk [])
     . simp [h]
       apply RZ;simp [results196,orI,h]
   . have ha:=h1 (by omega)
     by_cases h:b=0
     . simp [h,ha,hz2]
       refine ⟨2,by omega,by omega,?_⟩;exact WK hE (lk [])
     . simp [h,ha]
       apply RZ;simp [results196,orI,h]
   . have ha:=h1 (by omega)
     have hb:=h2 (by omega);simp [ha,hb];apply RZ;simp [results196,orI]
def Dw (a b:Int × Int):Int:=orI [NM a.1 b.1,NM a.2 b.2]
end Go.Proofs.Tryz
namespace Go.Air
structure Cel where
 rm:Int
 he:Int
 ai:Int
 wl:Int
 wh:Int
 lk:Int
 ow:Int
deriving DecidableEq,Inhabited
structure Atm where
 pl:Int
 ph:Int
 tl:Int
 th:Int
deriving DecidableEq,Inhabited
def rgB (lo hi:Int) (l:List Int):Bool:=l.all fun n=>decide (lo<=n)&&decide (n<=hi)
def spB (lo hi a b:Int):Bool:=rgB lo hi [a,b]&&decide (a<=b)
theorem CC {lo hi a b:Int}:spB lo hi a b=true↔lo<=a/\a<=b/\b<=hi:=by
 unfold spB rgB;simp;omega
def L3 (a:Atm):Bool:=spB 1000 12000 a.pl a.ph&&spB 1500 3500 a.tl a.th
def Je (c:Cel):Bool:=rgB 1 10000000 [c.rm]&&rgB 0 10000000 [c.he,c.ai]&&rgB 0 100000 [c.lk]&&rgB 0 999999 [c.ow]&&spB (-300) 300 c.wl c.wh
structure B5 (c:Cel):Prop where
 rm:1<=c.rm/\c.rm<=10000000
 he:0<=c.he/\c.he<=10000000
 ai:0<=c.ai/\c.ai<=10000000
 w: -300<=c.wl/\c.wl<=c.wh/\c.wh<=300
 lk:0<=c.lk/\c.lk<=100000
 ow:0<=c.ow/\c.ow<=999999
structure Fx (a:Atm):Prop where
 p:1000<=a.pl/\a.pl<=a.ph/\a.ph<=12000
 t:1500<=a.tl/\a.tl<=a.th/\a.th<=3500
theorem Dm {c:Cel}:Je c=true↔B5 c:=by
 unfold Je;simp only [Bool.and_eq_true,CC];unfold rgB;simp;constructor
 . rintro ⟨⟨⟨⟨h1,h2⟩,h3⟩,h4⟩,h5⟩;exact ⟨h1,by omega,by omega,h5,h3,by omega⟩
 . rintro ⟨h1,h2,h3,h4,h5,h6⟩;exact ⟨⟨⟨⟨h1,by omega⟩,h5⟩,by omega⟩,h4⟩
theorem VN {a:Atm}:L3 a=true↔Fx a:=by
 unfold L3;simp only [Bool.and_eq_true,CC];exact ⟨fun ⟨h1,h2⟩=>⟨h1,h2⟩,fun h=>⟨h.p,h.t⟩⟩
def am (c:Cel):Int:=c.he+c.ai
def fl (a b:Int):Int:=a/b
def ce (a b:Int):Int:= -(-a/b)
theorem ABy {a b:Int} (hb:0<b):fl a b=if a<0/\a.tmod b≠0 then a.tdiv b-1 else a.tdiv b:=by
 unfold fl;by_cases h:a<0
 . have e:a= -(-a):=by omega
   obtain ⟨x,rfl⟩:∃ x:Int,a= -x:=⟨-a,by omega⟩
   have hx:0<=x:=by omega
   rw [Int.neg_tdiv,Int.neg_tmod,Int.tdiv_eq_ediv_of_nonneg hx,Int.tmod_eq_emod_of_nonneg hx];have h1:=Int.mul_ediv_add_emod x b;have h2:=Int.emod_nonneg x (show b≠0 by omega);have h3:=Int.emod_lt_of_pos x hb
   have h4: -x/b=if x%b=0 then -(x/b) else -(x/b)-1:=by
     rw [Int.neg_ediv];have hs:b.sign=1:=Int.sign_eq_one_of_pos hb;rw [hs];by_cases hd:x%b=0
     . rw [if_pos (Int.dvd_of_emod_eq_zero hd),if_pos hd];omega
     . rw [if_neg (fun h=>hd (Int.emod_eq_zero_of_dvd h)),if_neg hd]
   rw [h4];by_cases hd:x%b=0
   . rw [if_pos hd,if_neg (by rw [hd];simp)]
   . rw [if_neg hd,if_pos ⟨by omega,by simpa using hd⟩]
 . rw [if_neg (by omega),Int.tdiv_eq_ediv_of_nonneg (by omega)]
def Bx (c:Cel) (a:Atm):Int × Int:=
 (min (fl (29*am c*c.wl) a.tl) (fl (29*am c*c.wl) a.th)+25*c.he,max (ce (29*am c*c.wh) a.tl) (ce (29*am c*c.wh) a.th)+25*c.he)
theorem S7 {a b d:Int} (hd:0<d) (h:a<=b):fl a d<=fl b d:=Int.ediv_le_ediv hd h
theorem S8 {a b d:Int} (hd:0<d) (h:a<=b):ce a d<=ce b d:=by
 have:=Int.ediv_le_ediv hd (show -b<= -a by omega);unfold ce;omega
theorem VO {c:Cel} {a:Atm} (hc:B5 c) (ha:Fx a):
   min (min (min (fl (29*am c*c.wl) a.tl) (fl (29*am c*c.wl) a.th)) (fl (29*am c*c.wh) a.tl)) (fl (29*am c*c.wh) a.th)=min (fl (29*am c*c.wl) a.tl) (fl (29*am c*c.wl) a.th)/\
   max (max (max (ce (29*am c*c.wl) a.tl) (ce (29*am c*c.wl) a.th)) (ce (29*am c*c.wh) a.tl)) (ce (29*am c*c.wh) a.th)=max (ce (29*am c*c.wh) a.tl) (ce (29*am c*c.wh) a.th):=by
 have h0:0<=29*am c:=by have:=hc.he;have:=hc.ai;unfold am;omega
 have hm:29*am c*c.wl<=29*am c*c.wh:=Int.mul_le_mul_of_nonneg_left hc.w.2.1 h0;have t:=ha.t;have k1:=S7 (d:=a.tl) (by omega) hm;have k2:=S7 (d:=a.th) (by omega) hm;have k3:=S8 (d:=a.tl) (by omega) hm;have k4:=S8 (d:=a.th) (by omega) hm;omega
def Lh (c:Cel) (a:Atm):Int:=if am c*(a.th+c.wh)<=c.rm*a.pl then 1 else if c.rm*a.ph<am c*(a.tl+c.wl) then 3 else 2
theorem ig {c:Cel} (h:B5 c):0<=am c/\am c<=20000000:=by have:=h.he;have:=h.ai;unfold am;omega
theorem sD {x y X Y:Int} (hx: -X<=x/\x<=X) (hy: -Y<=y/\y<=Y): -(X*Y)<=x*y/\x*y<=X*Y:=by
 have h1:0<=(X-x)*(Y+y):=Int.mul_nonneg (by omega) (by omega);have h2:0<=(X+x)*(Y-y):=Int.mul_nonneg (by omega) (by omega);have h3:0<=(X-x)*(Y-y):=Int.mul_nonneg (by omega) (by omega);have h4:0<=(X+x)*(Y+y):=Int.mul_nonneg (by omega) (by omega);have e1:(X-x)*(Y+y)=X*Y+X*y-x*Y-x*y:=by grind
 have e2:(X+x)*(Y-y)=X*Y-X*y+x*Y-x*y:=by grind
 have e3:(X-x)*(Y-y)=X*Y-X*y-x*Y+x*y:=by grind
 have e4:(X+x)*(Y+y)=X*Y+X*y+x*Y+x*y:=by grind
 omega
end Go.Air
namespace Go.Proofs.Tryz
open Go.Psl
open Go.Air
abbrev AP (c:Cel):List D:=[di c.rm,di c.he,di c.ai,di c.wl,di c.wh,di c.lk,di c.ow]
abbrev Ky (c:Cel):V:= .agg [vi c.rm,vi c.he,vi c.ai,vi c.wl,vi c.wh,vi c.lk,vi c.ow]
abbrev AX (l:List Cel):D:= .sl 7 (l.map AP)
abbrev Ox (a:Atm):V:= .agg [vi a.pl,vi a.ph,vi a.tl,vi a.th]
theorem ZH {lo hi:Int} {l:List Int} {i:Nat} {n:Int} (h:l[i]?= some n):rgB lo hi (l.take (i+1))=(rgB lo hi (l.take i)&&(decide (lo<=n)&&decide (n<=hi))):=by
 simp [rgB,List.take_add_one,h]
theorem TQ {lo hi:Int} {l:List Int} {i:Nat} {n:Int} (h:l[i]?= some n) (hb:n<lo\/hi<n):rgB lo hi l=false:=by
 unfold rgB;rw [List.all_eq_false];exact ⟨n,List.mem_of_getElem? h,by simp;omega⟩
theorem ALU (lo hi:Int) (l:List Int) (hl:l.length<=1000000):Ct prog 57 [vi lo,vi hi, .d (Ch l)] (vb (rgB lo hi l)) []:=by
 refine CB func57 c57 fun E hE=>?_
 simp [p57];refine Al (α:=Nat) (fun i=>⟨AO [(0,vi lo),(1,vi hi),(9, .d (Ch l)),(10,vi l.length),(11,vi i)],lk [],0⟩) (fun i=>i<=l.length/\rgB lo hi (l.take i)=true) (fun i=>l.length-i) 0 ?_ ?_ ?_
 . simp [rgB]
 . exact WK hE (lk [])
 . rintro i ⟨hi',hf⟩
   by_cases h:i<l.length
   . obtain ⟨n,hn⟩:=gE h
     have hz:=@wz i (by omega);have hI:(i:Int)<l.length:=by omega
     have hnx:=ZH (lo:=lo) (hi:=hi) hn;by_cases h1:n<lo
     . simp [AM8,hI,hn,h1]
       apply RZ;simp [results57,TQ hn (Or.inl h1)]
     . by_cases h2:hi<n
       . simp [AM8,hI,hn,h1,h2]
         apply RZ;simp [results57,TQ hn (Or.inr h2)]
       . simp [AM8,hI,hn,h1,h2,hz]
         refine ⟨i+1,⟨by omega,by rw [hnx,hf];simp;omega⟩,by omega,?_⟩;exact WK hE (lk [])
   . have e:i=l.length:=by omega
     have hn:¬ (i:Int)<l.length:=by omega
     rw [e,List.take_length] at hf;simp [AM8,hn];apply RZ;simp [results57,hf]
theorem AG {H:Hp} {id:Nat} {a:Int} (h:H id=some [vi a]):Bor H (.ls id 0 1 1) (.d (Ch [a])):=by
 rw [Bk];exact ⟨rfl,rfl,by simp,_,h,rfl⟩
theorem Ap {H:Hp} {id:Nat} {a b:Int} (h:H id=some [vi a,vi b]):Bor H (.ls id 0 2 1) (.d (Ch [a,b])):=by
 rw [Bk];exact ⟨rfl,rfl,by simp,_,h,rfl⟩
theorem pD (lo hi a b:Int):Ct prog 114 [vsp a b,vi lo,vi hi] (vb (spB lo hi a b)) []:=by
 have c:=ALU lo hi [a,b] (by simp);refine CB func114 c114 fun E hE=>?_
 cases h:rgB lo hi [a,b]
 . rw [h] at c
   simp [p114,AA,AM];refine CLb (c) (by simp [Ap]) ?_;simp;apply RZ;simp [results114,spB,h]
 . rw [h] at c
   simp [p114,AA,AM];refine CLb (c) (by simp [Ap]) ?_;simp;apply RZ;simp [results114,spB,h]
theorem qq (a b:Int):Ct prog 170 [vsp a b] (vb (spB 1500 3500 a b)) []:=by
 refine CB func170 c170 fun E hE=>?_
 simp [p170];refine CLa (pD 1500 3500 a b) ?_;simp;apply RZ;simp [results170]
theorem tu (a:Atm):Ct prog 142 [Ox a] (vi (if L3 a then 0 else 30)) []:=by
 have c1:=pD 1000 12000 a.pl a.ph;have c2:=qq a.tl a.th;refine CB func142 c142 fun E hE=>?_
 cases h1:spB 1000 12000 a.pl a.ph
 . rw [h1] at c1
   simp [p142];refine CLa c1 ?_;simp;apply RZ;simp [results142,L3,h1]
 . rw [h1] at c1
   cases h2:spB 1500 3500 a.tl a.th
   . rw [h2] at c2
     simp [p142];refine CLa c1 ?_;simp;refine CLa c2 ?_;simp;apply RZ;simp [results142,L3,h1,h2]
   . rw [h2] at c2
     simp [p142];refine CLa c1 ?_;simp;refine CLa c2 ?_;simp;apply RZ;simp [results142,L3,h1,h2]
theorem ASU (c:Cel):Ct prog 61 [Ky c] (vi (if Je c then 0 else 31)) []:=by
 have c1:=ALU 1 10000000 [c.rm] (by simp);have c2:=ALU 0 10000000 [c.he,c.ai] (by simp);have c3:=ALU 0 100000 [c.lk] (by simp);have c4:=ALU 0 999999 [c.ow] (by simp);have c5:=pD (-300) 300 c.wl c.wh;have e:Je c=(rgB 1 10000000 [c.rm]&&rgB 0 10000000 [c.he,c.ai]&&rgB 0 100000 [c.lk]&&rgB 0 999999 [c.ow]&&spB (-300) 300 c.wl c.wh):=rfl
 generalize rgB 1 10000000 [c.rm]=b1 at*
 generalize rgB 0 10000000 [c.he,c.ai]=b2 at*
 generalize rgB 0 100000 [c.lk]=b3 at*
 generalize rgB 0 999999 [c.ow]=b4 at*
 generalize spB (-300) 300 c.wl c.wh=b5 at*
 rw [e];refine CB func61 c61 fun E hE=>?_
 cases b1<;>cases b2<;>cases b3<;>cases b4<;>cases b5<;>(
   simp [p61,AA,AM]
   repeat ((first | (refine CLt c1 ?_ ?_;focus (simp [AG];done)) | (refine CLt c2 ?_ ?_;focus (simp [Ap];done)) | (refine CLt c3 ?_ ?_;focus (simp [AG];done)) | (refine CLt c4 ?_ ?_;focus (simp [AG];done)) | (refine CLt c5 ?_ ?_;focus (simp;done)));simp [AA,AM])
   apply RZ;simp [results61])
end Go.Proofs.Tryz
namespace Go.Psl
variable {P:Program} {G:Gh} {W:World} {H:Hp}
def Jw (G:Gh) (H:Hp) (b:Nat):Prop:=G.Im b\/∃ i,InH H i/\G.ph i=false/\G.β i=b
theorem fz0 (hp:∀ id cs,H id=some cs->HB G W id cs) {v c:V} {x:Value} (hb:Df H v c) (hx:RV G W v x):R0 {G with Im:=Jw G H} W c x:=by
 have him:∀ b,G.Im b->Jw G H b/\W.heap[b]?= W.heap[b]?:= fun b hb=>⟨.inl hb,rfl⟩
 have hless:∀ i cs,H i=some cs->H i=some cs/\True:=fun i cs h=>by
   exact ⟨h,trivial⟩
 unfold Df at hb;split at hb
 . rename_i y z
   rcases hb with rfl | ⟨rfl,sz,rfl⟩
   . exact RD.mono (x:=y) hx him
   . have:=BO hx
     subst this;exact RD.sl sz [] none 0 (fun _ _=>undef) (by simp) (by simp [maxL]) (by simp) (by simp) (by simp)
 . rename_i id off len sz sz' es
   obtain ⟨rfl,hl,hes,cs,hh0,hcs⟩:=hb;obtain ⟨hh,hnin⟩:=hless _ _ hh0;obtain ⟨hml,⟨hph,h0,rfl⟩ | ⟨hph,o',cap,rfl,hcap,hoff⟩⟩:=hx
   . have:es=[]:=List.eq_nil_of_length_eq_zero (by omega)
     subst this;exact RD.sl sz' [] none 0 (fun _ _=>undef) (by simp) (by simp [maxL]) (by simp) (by simp) (by simp)
   . obtain ⟨_,c,T,⟨fz,hg,_⟩,hbs,hcl,hcr,_⟩:=(hp id cs hh).read hph
     have hfl:=B3 es hes;have hlen:((cs.drop off).take (len*sz')).length=len*sz':=by rw [hcs,List.length_map,hfl,hl]
     have hfit:off+len*sz'<=cs.length\/len*sz'=0:=by simp at hlen;omega
     subst hl;refine RD.sl sz' es (some ⟨G.β id,o',none⟩) cap (fun i j=>c.toList.getD (off+i*sz'+j) undef) hes hml hcap (fun i e he=>⟨_,rfl, .inr ⟨id,by show (H id).isSome=true;rw [hh];rfl,hph.1,rfl⟩,fun j y hy=>?_⟩) (fun i e he j y hy=>?_)
     all_goals
       have hil:i<es.length:=(List.getElem?_eq_some_iff.1 he).1;have hel:=hes e (List.mem_of_getElem? he);have hjl:j<sz':=by have:=(List.getElem?_eq_some_iff.1 hy).1;omega
       have hij:i*sz'+j<es.length*sz':=by
         have:(i+1)*sz'<=es.length*sz':=Nat.mul_le_mul_right _ hil;rw [Nat.add_mul] at this;omega
       have hfit':off+es.length*sz'<=cs.length:=by omega
       have hcell:cs[off+(i*sz'+j)]?= some (.d y):=by
         have h1:((cs.drop off).take (es.length*sz'))[i*sz'+j]?= some (V.d y):=by
           rw [hcs,List.getElem?_map,CI (by omega) es hes];have e1:(i*sz'+j)/sz'=i:=by rw [Nat.add_comm,Nat.add_mul_div_right _ _ (by omega),Nat.div_eq_of_lt hjl];omega
           have e2:(i*sz'+j)%sz'=j:=by rw [Nat.add_comm,Nat.add_mul_mod_self_right,Nat.mod_eq_of_lt hjl]
           rw [e1,e2,he];simp [hy]
         rw [List.getElem?_take,if_pos hij,List.getElem?_drop] at h1;exact h1
       obtain ⟨u,hu,hru⟩:=hcr.get hcell;rw [List.getElem?_take] at hu;split at hu
       rotate_left
       . cases hu
     . obtain ⟨rfl,_⟩:=hoff (by omega)
       rw [Bc];simp only [World.cell?,hg];rw [Array.getElem?_toList] at hu
       have h2:c.toList.getD (o'+i*sz'+j) undef=u:=by
         rw [List.getD_eq_getElem?_getD,Array.getElem?_toList,show o'+i*sz'+j=o'+(i*sz'+j) by omega,hu];rfl
       rw [h2];simpa using hu
     . have h2:c.toList.getD (off+i*sz'+j) undef=u:=by
         rw [List.getD_eq_getElem?_getD,show off+i*sz'+j=off+(i*sz'+j) by omega,hu];rfl
       show RD _ _ y (c.toList.getD (off+i*sz'+j) undef)
       rw [h2];exact RD.mono (x:=y) hru him
 . rename_i id off ds
   obtain ⟨cs,hh0,hcs⟩:=hb;obtain ⟨hh,hnin⟩:=hless _ _ hh0;obtain ⟨hph,rfl⟩:(G.ph id=false/\G.lo id=false)/\x= .pointer (some ⟨G.β id,off,none⟩):=hx;obtain ⟨_,c,T,⟨fz,hg,_⟩,hbs,hcl,hcr,_⟩:=(hp id cs hh).read hph
   have get:∀ (j:Nat) y,ds[j]?= some y->∃ u,c.toList[off+j]?= some u/\RD (Jw G H) W y u:=fun j y hy=>by
     have hj:=(List.getElem?_eq_some_iff.1 hy).1;have h1:((cs.drop off).take ds.length)[j]?= some (V.d y):=by rw [hcs,List.getElem?_map,hy];rfl
     rw [List.getElem?_take,if_pos hj,List.getElem?_drop] at h1;obtain ⟨u,hu,hru⟩:=hcr.get h1;rw [List.getElem?_take] at hu;split at hu
     . exact ⟨u,hu,RD.mono (x:=y) hru him⟩
     . cases hu
   refine RD.ref ds _ (fun j=>c.toList.getD (off+j) undef) (.inr ⟨id,by show (H id).isSome=true;rw [hh];rfl,hph.1,rfl⟩) (fun j y hy=>?_) (fun j y hy=>?_)
   . obtain ⟨u,hu,_⟩:=get j y hy
     rw [Bc,List.getD_eq_getElem?_getD,hu];simp only [World.cell?,hg];simpa using hu
   . obtain ⟨u,hu,hr⟩:=get j y hy
     rw [List.getD_eq_getElem?_getD,hu];exact hr
 . rename_i f caps g ds
   obtain ⟨rfl,rfl⟩:=hb;obtain ⟨cv,rfl,hcr⟩:=hx;have hl:=hcr.length;refine RD.fn f ds cv (by simpa using hl.symm) fun j y v hy hv=>?_
   have h1:(ds.map V.d)[j]?= some (V.d y):=by rw [List.getElem?_map,hy];rfl
   obtain ⟨u,hu,hru⟩:=hcr.get h1;rw [Array.getElem?_toList,hv] at hu;cases hu;exact RD.mono (x:=y) hru him
 . obtain ⟨rfl,rfl⟩:=hb;exact hx
 . obtain ⟨rfl,rfl,rfl,rfl⟩:=hb;exact hx
 . have hb:_=_:=hb;subst hb;exact hx
 . exact hb.elim
def FzC (H:Hp) (v c:V):Prop:=∃ y,c= .d y/\Df H v (.d y)
def FzR (H:Hp) (v c:V):Prop:=Df H v c\/∃ id off cs ds,v= .lp id off/\c= .d (.ref ds)/\H id=some cs/\AJ (fun c y=>Df H c (.d y)) ((cs.drop off).take ds.length) ds
theorem fz0r (hp:∀ id cs,H id=some cs->HB G W id cs) {v c:V} {x:Value} (hb:FzR H v c) (hx:RV G W v x):R0 {G with Im:=Jw G H} W c x:=by
 rcases hb with hb | ⟨id,off,cs,ds,rfl,rfl,hh,hcs⟩
 . exact fz0 hp hb hx
 obtain ⟨hph,rfl⟩:(G.ph id=false/\G.lo id=false)/\x= .pointer (some ⟨G.β id,off,none⟩):=hx;obtain ⟨_,c,T,⟨fz,hg,_⟩,hbs,hcl,hcr,_⟩:=(hp id cs hh).read hph
 have get:∀ (j:Nat) y,ds[j]?= some y->∃ u,c.toList[off+j]?= some u/\RD (Jw G H) W y u:=fun j y hy=>by
   obtain ⟨v,hv,hvy⟩:=hcs.get2 hy;have hj:=(List.getElem?_eq_some_iff.1 hy).1;rw [List.getElem?_take,if_pos hj,List.getElem?_drop] at hv;obtain ⟨u,hu,hru⟩:=hcr.get hv;rw [List.getElem?_take] at hu;split at hu
   . exact ⟨u,hu,fz0 hp hvy (R2.rv (R1.r2 hru))⟩
   . cases hu
 refine RD.ref ds _ (fun j=>c.toList.getD (off+j) undef) (.inr ⟨id,by show (H id).isSome=true;rw [hh];rfl,hph.1,rfl⟩) (fun j y hy=>?_) (fun j y hy=>?_)
 . obtain ⟨u,hu,_⟩:=get j y hy
   rw [Bc,List.getD_eq_getElem?_getD,hu];simp only [World.cell?,hg];simpa using hu
 . obtain ⟨u,hu,hr⟩:=get j y hy
   rw [List.getD_eq_getElem?_getD,hu];exact hr
def Fz1 (H:Hp):V->V->Prop
 | .agg cs, .agg ds=>AJ (FzC H) cs ds
 | .cl f caps, .d (.fn g ds)=>f=g/\AJ (FzR H) caps (ds.map .d)
 | v, .d y=>Df H v (.d y)
 | _,_=>False
def Fz (H:Hp):V->V->Prop
 | .tup vs, .tup ws=>AJ (Fz1 H) vs ws
 | v,w=>Fz1 H v w
theorem fz1 (hp:∀ id cs,H id=some cs->HB G W id cs) {v c:V} {x:Value} (hb:Fz1 H v c) (hx:R2 G W v x):R2 {G with Im:=Jw G H} W c x:=by
 unfold Fz1 at hb;split at hb
 . rename_i cs ds
   obtain ⟨cv,rfl,hr⟩:=hx;refine ⟨cv,rfl,AJ.of_get (by rw [<-hb.length,hr.length]) fun i d z hd hz=>?_⟩;obtain ⟨c,hc,y,rfl,hy⟩:=hb.get2 hd;obtain ⟨u,hu,hru⟩:=hr.get hc;rw [hz] at hu;cases hu;exact R0.r1 (fz0 hp hy (R2.rv (R1.r2 hru)))
 . rename_i f caps g ds
   obtain ⟨rfl,hc⟩:=hb;obtain ⟨cv,rfl,hr⟩:=hx;have hl:cv.size=ds.length:=by have h1:=hc.length;have h2:=hr.length;simp at h1 h2;omega
   refine RD.fn f ds cv hl fun j y z hy hz=>?_
   obtain ⟨c,hcj,hcy⟩:=hc.get2 (show (ds.map V.d)[j]?= some (.d y) by rw [List.getElem?_map,hy];rfl);obtain ⟨u,hu,hru⟩:=hr.get hcj;rw [Array.getElem?_toList,hz] at hu;cases hu;exact fz0r hp hcy (R2.rv (R1.r2 (R0.r1 hru)))
 . refine R1.r2 (R0.r1 (fz0 hp hb (R2.rv hx)))
 . exact hb.elim
theorem Zc {v c:V} (hb:Fz1 H v c):A2 (fun _=>False) AR c:=by
 unfold Fz1 at hb;split at hb
 . rename_i cs ds
   intro d hd;obtain ⟨i,hi⟩:=List.getElem?_of_mem hd;obtain ⟨c,_,y,rfl,_⟩:=hb.get2 hi;trivial
 . trivial
 . trivial
 . exact hb.elim
theorem ku (hp:∀ id cs,H id=some cs->HB G W id cs) {v c:V} {x:Value} (hb:Fz H v c) (hx:RV G W v x):RV {G with Im:=Jw G H} W c x:=by
 unfold Fz at hb;split at hb
 . rename_i vs ws
   obtain ⟨cv,rfl,hr⟩:=hx;refine ⟨cv,rfl,AJ.of_get (by rw [<-hb.length,hr.length]) fun i y z hy hz=>?_⟩;obtain ⟨w,hw,hbw⟩:=hb.get2 hy;obtain ⟨u,hu,hru⟩:=hr.get hw;rw [hz] at hu;cases hu;exact fz1 hp hbw hru
 . refine R2.rv (fz1 hp hb ?_)
   cases v<;>first | exact hx | (exfalso;revert hb;cases c<;>simp [Fz1,Df];done)
theorem pX {v c:V} (hb:Fz H v c):AV (fun _=>False) AR c:=by
 unfold Fz at hb;split at hb
 . rename_i vs ws
   intro w hw;obtain ⟨i,hi⟩:=List.getElem?_of_mem hw;obtain ⟨u,_,hu⟩:=hb.get2 hi;exact Zc hu
 . have:=Zc hb
   cases c<;>first | exact this | (revert hb;simp [Fz1];done)
theorem Cm.freeze {f:FuncId} {args:List V} {Hin:Hp} {r r':V} {H1:Hp} (h:Cm P f args Hin [] (.ret r) H1) (hf:Fz H1 r r'):Cm P f args Hin [] (.ret r') (fun _=>none):=by
 refine ⟨h.1,fun G W xs him hargs hpre=>Calls.mono (h.2 G W xs him hargs hpre) fun e W' ⟨G',p⟩=>?_⟩;have hB:∀ id cs,H1 id=some cs->HB G' W' id cs:=fun id cs hid=>(p.hb id cs hid).1
 have hblk:∀ i,InH H1 i->G'.ph i=false->G'.β i<W'.heap.size:=fun i hi hph=>by
   cases hc:H1 i with
   | none=>simp [InH,hc] at hi
   | some cs=>
     rcases hB i cs hc with ⟨h1,_⟩ | ⟨_,_,_,c,T,h3,_⟩ | ⟨_,_,_,⟨_,fr,nt,ps,pa,pb,jmp,rec,_,h4,_⟩ | ⟨_,es,ms,ck,_,h4,_⟩ | ⟨_,bx,bp,bv,_,h4,_⟩⟩
     . rw [h1] at hph;cases hph
     . exact (Array.getElem?_eq_some_iff.1 h3.choose_spec.1).1
     . exact (Array.getElem?_eq_some_iff.1 h4).1
     . exact (Array.getElem?_eq_some_iff.1 h4).1
     . exact (Array.getElem?_eq_some_iff.1 h4).1
 refine ⟨{G' with Im:=Jw G' H1},p.os,p.tape,p.output,p.drawn,p.size,p.block,fun b hb=>?_,fun b hb=> .inl (p.im0 b hb),?_,?_,fun i cs h=>(by cases h),fun i j h=>(by simp [InH] at h),fun i h=>(by cases h)⟩
 . rcases hb with hb | ⟨i,hi,hph,rfl⟩
   . exact p.im b hb
   . refine ⟨hblk i hi hph, .inr ?_⟩
     cases hc:H1 i with
     | none=>simp [InH,hc] at hi
     | some cs=>exact (p.hb i cs hc).2.1 hph
 . have hrv:=p.rv
   cases e with
   | returned v=>exact ku hB hf hrv
   | _=>exact hrv.elim
 . show AV (InH fun _=>none) AR r'
   exact AV.mono (fun _ h=>h.elim) (fun _ h=>h) (pX hf)
end Go.Psl
namespace Go.Psl
variable {α:Type} {f:α->List D} {sz:Nat}
abbrev slD (f:α->List D) (sz:Nat) (l:List α):D:= .sl sz (l.map f)
def AH (f:α->List D) (l:List α):List V:=((l.map f).flatten).map .d
theorem ZA:AH f []=[]:=rfl
theorem CQ (x:α) (l:List α):AH f (x::l)=(f x).map .d++AH f l:=by simp [AH]
theorem ZB (l m:List α):AH f l++AH f m=AH f (l++m):=by simp [AH]
theorem IV (l:List α) (x:α):AH f (l++[x])=AH f l++(f x).map .d:=by simp [AH]
theorem BU {l:List α}:∀ v∈AH f l,v.isCell=true:=fun v hv=>by
 obtain ⟨y,_,rfl⟩:=List.mem_map.1 hv;rfl
theorem Aw (hf:∀ x,(f x).length=sz):∀ l:List α,(AH f l).length=l.length*sz
 | []=>by simp [ZA]
 | x::r=>by rw [CQ,List.length_append,List.length_map,hf,Aw hf r,List.length_cons,Nat.succ_mul];omega
theorem VY (hf:∀ x,(f x).length=sz) (l m:List α):(AH f (l++m)).take (l.length*sz)=AH f l:=by
 rw [<-ZB,List.take_left' (Aw hf l)]
theorem E9 (hf:∀ x,(f x).length=sz) (l:List α):(AH f l).take (l.length*sz)=AH f l:=by
 rw [<-Aw hf,List.take_length]
theorem GU (hf:∀ x,(f x).length=sz):∀ {l:List α} {i:Nat} {x:α},l[i]?= some x->∃ m,(AH f l).drop (i*sz)=(f x).map .d++m
 | [],_,_,h=>by simp at h
 | a::r,0,x,h=>by
   simp at h;subst h;exact ⟨AH f r,by rw [CQ];simp⟩
 | a::r,i+1,x,h=>by
   obtain ⟨m,hm⟩:=GU hf (l:=r) (i:=i) (x:=x) (by simpa using h);refine ⟨m,?_⟩;rw [CQ,Nat.succ_mul,Nat.add_comm (i*sz) sz,<-List.drop_drop,List.drop_left' (by rw [List.length_map,hf])];exact hm
theorem J2 (hf:∀ x,(f x).length=sz) {l:List α} {i:Nat} {x:α} (h:l[i]?= some x):((AH f l).drop (i*sz)).take sz=(f x).map .d:=by
 obtain ⟨m,hm⟩:=GU hf h;rw [hm,List.take_left' (by rw [List.length_map,hf])]
theorem Bg (hf:∀ x,(f x).length=sz) {l:List α} {i j k:Nat} {x:α} (h:l[i]?= some x) (hj:j+k<=sz):((AH f l).drop (i*sz+j)).take k=(((f x).drop j).take k).map .d:=by
 obtain ⟨m,hm⟩:=GU hf h;rw [<-List.drop_drop,hm,List.drop_append_of_le_length (by rw [List.length_map,hf];omega),List.take_append_of_le_length (by rw [List.length_drop,List.length_map,hf];omega),List.map_take,List.map_drop]
theorem Jg (hf:∀ x,(f x).length=sz) {l:List α} {i j:Nat} {x:α} {y:D} (h:l[i]?= some x) (hy:(f x)[j]?= some y):(AH f l)[i*sz+j]?= some (.d y):=by
 obtain ⟨m,hm⟩:=GU hf h;have hj:=(List.getElem?_eq_some_iff.1 hy).1;rw [<-List.getElem?_drop,hm,List.getElem?_append_left (by simpa using hj),List.getElem?_map,hy];rfl
theorem IW (_:∀ x,(f x).length=sz) {l:List α} {i:Nat} {x:α} (h:l[i]?= some x):i*sz+sz<=l.length*sz:=by
 have:=(List.getElem?_eq_some_iff.1 h).1;have:=Nat.mul_le_mul_right sz this;rw [Nat.succ_mul] at this;exact this
theorem Cq (hf:∀ x,(f x).length=sz):∀ {l:List α} {i:Nat} {x y:α} {j:Nat} {vs:List D},l[i]?= some x->j+vs.length<=sz->f y=(f x).take j++vs++(f x).drop (j+vs.length)->AA (AH f l) (i*sz+j) (vs.map .d)=AH f (l.set i y)
 | [],_,_,_,_,_,h,_,_=>by simp at h
 | a::r,0,x,y,j,vs,h,hj,hy=>by
   simp at h;subst h;have ha:((f a).map V.d).length=sz:=by rw [List.length_map,hf]
   rw [List.set_cons_zero,CQ,CQ,hy];unfold AA;rw [Nat.zero_mul,Nat.zero_add,List.take_append_of_le_length (by omega),List.length_map,List.drop_append_of_le_length (by omega)];simp [List.map_take,List.map_drop]
 | a::r,i+1,x,y,j,vs,h,hj,hy=>by
   have ih:=Cq hf (l:=r) (i:=i) (x:=x) (y:=y) (j:=j) (vs:=vs) (by simpa using h) hj hy;have ha:((f a).map V.d).length=sz:=by rw [List.length_map,hf]
   rw [List.set_cons_succ,CQ,CQ,<-ih];unfold AA;have e1:(i+1)*sz+j=((f a).map V.d).length+(i*sz+j):=by rw [ha,Nat.succ_mul];omega
   rw [e1,List.take_length_add_append,Nat.add_assoc,List.drop_length_add_append];simp
theorem VZ (hf:∀ x,(f x).length=sz) {H:Hp} {id:Nat} {l z:List α} (h:H id=some (AH f (l++z))):Bor H (.ls id 0 l.length sz) (.d (slD f sz l)):=by
 rw [Bk];refine ⟨rfl,by simp,fun e he=>?_,_,h,?_⟩
 . obtain ⟨k,_,rfl⟩:=List.mem_map.1 he;exact hf k
 . rw [List.drop_zero,VY hf];rfl
theorem B0 (hf:∀ x,(f x).length=sz) {H:Hp} {id:Nat} {l:List α} (h:H id=some (AH f l)):Bor H (.ls id 0 l.length sz) (.d (slD f sz l)):=
 VZ hf (z:=[]) (by rw [List.append_nil];exact h)
def hdF (sz:Nat) (l:List α) (b:Nat):V:=if l.isEmpty then .d (.lit (.slice none 0 0)) else .ls b 0 l.length sz
def ouF (f:α->List D) (l:List α) (b:Nat):List (Nat × List V):=if l.isEmpty then [] else [(b,AH f l)]
theorem Aq (b:Nat):hdF sz ([]:List α) b= .d (.lit (.slice none 0 0)):=rfl
theorem Au (b:Nat):ouF f [] b=[]:=rfl
theorem Ak {l:List α} (h:l≠[]) (b:Nat):hdF sz l b= .ls b 0 l.length sz:=by
 unfold hdF;cases l with
 | nil=>exact absurd rfl h
 | cons=>rfl
theorem AZ {l:List α} (h:l≠[]) (b:Nat):ouF f l b=[(b,AH f l)]:=by
 unfold ouF;cases l with
 | nil=>exact absurd rfl h
 | cons=>rfl
def ixF (q:α->Bool) (l:List α):Int:=match l.findIdx? q with | some i=>i | none=> -1
theorem IX {q:α->Bool} {l:List α} (h:∀ (j:Nat) (x:α),l[j]?= some x->q x=false):ixF q l= -1:=by
 unfold ixF
 have:l.findIdx? q=none:=by
   rw [List.findIdx?_eq_none_iff];intro p hp;obtain ⟨j,hj⟩:=List.getElem?_of_mem hp;exact h j p hj
 rw [this]
theorem IY {q:α->Bool} {l:List α} {i:Nat} {x:α} (hx:l[i]?= some x) (hq:q x=true) (h:∀ (j:Nat) (y:α),j<i->l[j]?= some y->q y=false):ixF q l=i:=by
 unfold ixF
 have:l.findIdx? q=some i:=by
   rw [List.findIdx?_eq_some_iff_getElem];obtain ⟨h1,h2⟩:=List.getElem?_eq_some_iff.1 hx;refine ⟨h1,by rw [h2];exact hq,fun j hj=>?_⟩;have:=h j l[j] hj (List.getElem?_eq_getElem (by omega));rw [this];simp
 rw [this]
theorem IZ (q:α->Bool) (l:List α):decide (0<=ixF q l)=l.any q:=by
 unfold ixF;cases h:l.findIdx? q with
 | none=>
   rw [List.findIdx?_eq_none_iff] at h;have h2:l.any q=false:=by rw [List.any_eq_false];intro x hx;rw [h x hx];simp
   rw [h2];rfl
 | some i=>
   rw [List.findIdx?_eq_some_iff_getElem] at h;obtain ⟨h1,h2,_⟩:=h;have:l.any q=true:=List.any_eq_true.2 ⟨_,List.getElem_mem h1,h2⟩;rw [this];simp
@[simp] theorem mT {ρ:Nat->Option Nat} {l:List α} {xs ys:List V}:AJ (WC ρ) (AH f l++xs) (AH f l++ys)=AJ (WC ρ) xs ys:=AL1 _
@[simp] theorem AQm {ρ:Nat->Option Nat} {l:List α}:AJ (WC ρ) (AH f l) (AH f l)=True:=LR _
@[simp] theorem pG {l:List α}:Bv (AH f l)=True:=eq_true HJ
@[simp] theorem pH {l:List α} {a b:D}:Bv (AH f l++[V.d a,V.d b])=True:=eq_true (FO rfl)
@[simp] theorem pI {l:List α} {a b c:D}:Bv (AH f l++[V.d a,V.d b,V.d c])=True:=eq_true (FO rfl)
theorem TL {l:List α} {p:Nat->Prop}:∀ c∈AH f l,AC p AR c:=fun c hc=>by
 obtain ⟨y,_,rfl⟩:=List.mem_map.1 hc;trivial
@[simp] theorem kj {l:List α} {p:Nat->Prop} {Q:V->Prop}:(∀ c,c∈AH f l\/Q c->AC p AR c)=∀ c,Q c->AC p AR c:=
 propext ⟨fun h c hc=>h c (Or.inr hc),fun h c hc=>hc.elim (TL c) (h c)⟩
@[simp] theorem pJ {l:List α} {p:Nat->Prop}:(∀ c,c∈AH f l->AC p AR c)=True:=eq_true TL
theorem Ou {l:List α} {p:Nat->Prop} (h:∀ x,∀ y∈f x,B9 y):∀ c∈AH f l,AC p B9 c:=fun c hc=>by
 obtain ⟨y,hy,rfl⟩:=List.mem_map.1 hc;obtain ⟨z,hz,hyz⟩:=List.mem_flatten.1 hy;obtain ⟨x,_,rfl⟩:=List.mem_map.1 hz;exact h x y hyz
@[simp] theorem pK {l:List α} (ρ:Nat->Nat):List.map (BJ ρ) (AH f l)=AH f l:=by
 unfold AH;rw [List.map_map];exact List.map_congr_left fun _ _=>rfl
theorem Ov {H:Hp}:∀ ds:List D,AJ (Bor H) (ds.map .d) (ds.map .d)
 | []=>by simp
 | d::ds=>by simp [Ov ds]
@[simp] theorem rN {H:Hp} (ds:List D):AJ (Bor H) (ds.map .d) (ds.map .d)=True:=eq_true (Ov ds)
end Go.Psl
namespace Go.Air
structure Lev where
 h:Int
 pl:Int
 ph:Int
 tl:Int
 th:Int
deriving DecidableEq,Inhabited
structure Lk (c w s:Int):Prop where
 s0:0<s
 sc:s<c
 cw:c<=w
def cdv (a b:Int):Int:=(a+b-1)/b
theorem K4 {a b k:Int} (hb:0<b):cdv a b<=k↔a<=k*b:=by
 unfold cdv;rw [show (a+b-1)/b<=k↔(a+b-1)/b<k+1 by omega,Int.ediv_lt_iff_lt_mul hb,Int.add_mul];omega
theorem K5 {a b k:Int} (hb:0<b):k<=cdv a b↔(k-1)*b<a:=by
 have:=K4 (a:=a) (k:=k-1) hb;omega
def CY (c s x:Int):Int:=x*(c-s)/c
def C9 (w s x:Int):Int:=cdv (x*w) (w+s)
def Cz (w s x:Int):Int:=x*(w+s)/w
def Ec (c s x:Int):Int:=cdv (x*c) (c-s)
section
variable {c w s:Int} (k:Lk c w s)
include k
theorem Lk.prod:(w+s)*(c-s)<=w*c:=by
 obtain ⟨h1,h2,h3⟩:=k;have e:(w+s)*(c-s)=w*c-s*(w-c)-s*s:=by grind
 have p1:0<=s*(w-c):=Int.mul_nonneg (by omega) (by omega);have p2:0<=s*s:=Int.mul_nonneg (by omega) (by omega);omega
theorem Lk.back1 {x:Int} (hx:0<=x):CY c s (Cz w s x)<=x:=by
 have hp:=k.prod;obtain ⟨h1,h2,h3⟩:=k;have hy:Cz w s x*w<=x*(w+s):=by unfold Cz;exact Int.ediv_mul_le _ (by omega)
 generalize Cz w s x=y at hy
 unfold CY
 have:y*(c-s)<=x*c:=by
   refine Int.le_of_mul_le_mul_left (a:=w) ?_ (by omega);have e1:w*(y*(c-s))=(y*w)*(c-s):=by grind
   have e2:(y*w)*(c-s)<=(x*(w+s))*(c-s):=Int.mul_le_mul_of_nonneg_right hy (by omega);have e3:(x*(w+s))*(c-s)=x*((w+s)*(c-s)):=by grind
   have e4:x*((w+s)*(c-s))<=x*(w*c):=Int.mul_le_mul_of_nonneg_left hp hx;have e5:x*(w*c)=w*(x*c):=by grind
   omega
 calc y*(c-s)/c<=(x*c)/c:=Int.ediv_le_ediv (by omega) this
   _=x:=Int.mul_ediv_cancel _ (by omega)
theorem Lk.back2 {x:Int} (hx:0<=x):x<=C9 w s (Ec c s x):=by
 have hp:=k.prod;obtain ⟨h1,h2,h3⟩:=k;have hy:x*c<=Ec c s x*(c-s):=by unfold Ec;exact (K4 (by omega)).1 (Int.le_refl _)
 generalize Ec c s x=y at hy
 unfold C9;rw [K5 (by omega)]
 have:x*(w+s)<=y*w:=by
   refine Int.le_of_mul_le_mul_left (a:=c-s) ?_ (by omega);have e1:(c-s)*(x*(w+s))=x*((w+s)*(c-s)):=by grind
   have e4:x*((w+s)*(c-s))<=x*(w*c):=Int.mul_le_mul_of_nonneg_left hp hx;have e5:x*(w*c)=(x*c)*w:=by grind
   have e6:(x*c)*w<=(y*(c-s))*w:=Int.mul_le_mul_of_nonneg_right hy (by omega);have e7:(y*(c-s))*w=(c-s)*(y*w):=by grind
   omega
 have:(x-1)*(w+s)=x*(w+s)-(w+s):=by rw [Int.sub_mul];omega
 omega
theorem Lk.pos1 {x:Int} (hx:0<=x):0<=Cz w s x:=Int.ediv_nonneg (Int.mul_nonneg hx (by have:=k.s0;have:=k.sc;have:=k.cw;omega)) (by have:=k.s0;have:=k.sc;have:=k.cw;omega)
theorem Lk.pos2 {x:Int} (hx:0<=x):0<=Ec c s x:=by
 obtain ⟨h1,h2,h3⟩:=k;unfold Ec;rw [K5 (by omega)];have:0<=x*c:=Int.mul_nonneg hx (by omega);omega
theorem Lk.pos3 {x:Int} (hx:0<=x):0<=C9 w s x:=by
 obtain ⟨h1,h2,h3⟩:=k;unfold C9;rw [K5 (by omega)];have:0<=x*w:=Int.mul_nonneg hx (by omega);omega
end
abbrev Tm:=Int->Int->Int × Int
def lc (T:Tm) (a b:Lev):Int:=1000000*(T a.h b.h).1
def lw (T:Tm) (a b:Lev):Int:=1000000*(T a.h b.h).2
def ls (a b:Lev):Int:=341632*(b.h-a.h)
def LkP (T:Tm) (a b:Lev):Prop:=Lk (lc T a b) (lw T a b) (ls a b)
def Lks (T:Tm):List Lev->Prop
 | a::b::r=>LkP T a b/\Lks T (b::r)
 | _=>True
def mt (b:Lev) (p:Int × Int):Lev:={b with pl:=max b.pl p.1,ph:=min b.ph p.2}
def cyu (T:Tm) (a b:Lev):Int × Int:=(CY (lc T a b) (ls a b) a.pl,C9 (lw T a b) (ls a b) a.ph)
def cyd (T:Tm) (a b:Lev):Int × Int:=(Cz (lw T a b) (ls a b) b.pl,Ec (lc T a b) (ls a b) b.ph)
def Sam (a b:Lev):Prop:=a.h=b.h/\a.tl=b.tl/\a.th=b.th
structure Le (a b:Lev):Prop where
 s:Sam a b
 lo:a.pl<=b.pl
 hi:b.ph<=a.ph
def Pos (a:Lev):Prop:=0<=a.pl/\0<=a.ph
def LeL:List Lev->List Lev->Prop
 | [],[]=>True
 | a::r,b::s=>Le a b/\LeL r s
 | _,_=>False
theorem Le.refl (a:Lev):Le a a:=⟨⟨rfl,rfl,rfl⟩,Int.le_refl _,Int.le_refl _⟩
theorem Le.trans {a b c:Lev} (h1:Le a b) (h2:Le b c):Le a c:=⟨⟨h1.s.1.trans h2.s.1,h1.s.2.1.trans h2.s.2.1,h1.s.2.2.trans h2.s.2.2⟩,Int.le_trans h1.lo h2.lo,Int.le_trans h2.hi h1.hi⟩
theorem Le.anti {a b:Lev} (h1:Le a b) (h2:Le b a):a=b:=by
 obtain ⟨⟨e1,e2,e3⟩,l1,l2⟩:=h1;obtain ⟨_,l3,l4⟩:=h2;cases a;cases b;simp_all;omega
theorem LeL.refl:∀ l:List Lev,LeL l l
 | []=>trivial
 | a::r=>⟨Le.refl a,LeL.refl r⟩
theorem LeL.trans:∀ {l m k:List Lev},LeL l m->LeL m k->LeL l k
 | [],[],[],_,_=>trivial
 | _::_,_::_,_::_,h1,h2=>⟨h1.1.trans h2.1,LeL.trans h1.2 h2.2⟩
 | [],_::_,_,h,_=>h.elim
 | _::_,[],_,h,_=>h.elim
 | _,[],_::_,_,h=>h.elim
 | _,_::_,[],_,h=>h.elim
theorem LeL.anti:∀ {l m:List Lev},LeL l m->LeL m l->l=m
 | [],[],_,_=>rfl
 | _::_,_::_,h1,h2=>by rw [h1.1.anti h2.1,LeL.anti h1.2 h2.2]
 | [],_::_,h,_=>h.elim
 | _::_,[],h,_=>h.elim
theorem LeL.len:∀ {l m:List Lev},LeL l m->l.length=m.length
 | [],[],_=>rfl
 | _::_,_::_,h=>by simp [LeL.len h.2]
 | [],_::_,h=>h.elim
 | _::_,[],h=>h.elim
theorem ZN {T:Tm} {a b a' b':Lev} (h1:Sam a a') (h2:Sam b b'):lc T a b=lc T a' b'/\lw T a b=lw T a' b'/\ls a b=ls a' b':=by
 unfold lc lw ls;rw [h1.1,h2.1];exact ⟨rfl,rfl,rfl⟩
theorem LkP.sam {T:Tm} {a b a' b':Lev} (h1:Sam a a') (h2:Sam b b') (h:LkP T a b):LkP T a' b':=by
 obtain ⟨e1,e2,e3⟩:=ZN (T:=T) h1 h2;unfold LkP at*
 rwa [<-e1,<-e2,<-e3]
theorem Lks.le {T:Tm}:∀ {l m:List Lev},LeL l m->Lks T l->Lks T m
 | [],[],_,_=>trivial
 | [_],[_],_,_=>trivial
 | _::b::r,_::b'::r',h,hk=>⟨hk.1.sam h.1.s h.2.1.s,Lks.le (l:=b::r) (m:=b'::r') h.2 hk.2⟩
 | [],_::_,h,_=>h.elim
 | _::_,[],h,_=>h.elim
 | [_],_::_::_,h,_=>h.2.elim
 | _::_::_,[_],h,_=>h.2.elim
theorem MI (b:Lev) (p:Int × Int):Le b (mt b p):=⟨⟨rfl,rfl,rfl⟩,by unfold mt;simp only;omega,by unfold mt;simp only;omega⟩
def upL (T:Tm):Lev->List Lev->List Lev
 | _,[]=>[]
 | a,b::r=>mt b (cyu T a b)::upL T (mt b (cyu T a b)) r
def Jv (T:Tm):List Lev->List Lev
 | []=>[]
 | a::r=>a::upL T a r
def dnC (T:Tm) (a:Lev):List Lev->List Lev
 | []=>[a]
 | b::r=>mt a (cyd T a b)::b::r
def dnS (T:Tm):List Lev->List Lev
 | []=>[]
 | a::r=>dnC T a (dnS T r)
def O4 (T:Tm) (l:List Lev):List Lev:=dnS T (Jv T l)
theorem ZO {T:Tm}:∀ (l:List Lev) (a:Lev),LeL l (upL T a l)
 | [],_=>trivial
 | b::r,_=>⟨MI b _,ZO r _⟩
theorem GX {T:Tm}:∀ l:List Lev,LeL l (Jv T l)
 | []=>trivial
 | a::r=>⟨Le.refl a,ZO r a⟩
theorem kn {T:Tm} (a:Lev):∀ r:List Lev,LeL (a::r) (dnC T a r)
 | []=>⟨Le.refl a,trivial⟩
 | _::_=>⟨MI a _,LeL.refl _⟩
theorem JE {T:Tm}:∀ l:List Lev,LeL l (dnS T l)
 | []=>trivial
 | a::r=>LeL.trans (m:=a::dnS T r) ⟨Le.refl a,JE r⟩ (kn a _)
theorem Es {T:Tm} (l:List Lev):LeL l (O4 T l):=LeL.trans (GX l) (JE _)
def Clo (T:Tm):List Lev->Prop
 | a::b::r=>(Le (mt b (cyu T a b)) b/\Le (mt a (cyd T a b)) a)/\Clo T (b::r)
 | _=>True
theorem Clo.tail {T:Tm} {a:Lev}:∀ {r:List Lev},Clo T (a::r)->Clo T r
 | [],_=>trivial
 | _::_,h=>h.2
theorem TU {b:Lev} {p:Int × Int} (h:Le (mt b p) b):mt b p=b:=h.anti (MI b p)
theorem ZP {T:Tm}:∀ (l:List Lev),Lks T l->(∀ x∈l,Pos x)->Jv T l=l->Clo T (dnS T l)/\∀ x∈dnS T l,Pos x
 | [],_,_,_=>⟨trivial,by simp [dnS]⟩
 | [a],_,hp,_=>⟨trivial,fun x hx=>hp x (by simpa [dnS,dnC] using hx)⟩
 | a::b::r,hk,hp,hu=>by
   have hu':mt b (cyu T a b)::upL T (mt b (cyu T a b)) r=b::r:=(List.cons.inj hu).2;have e1:mt b (cyu T a b)=b:=(List.cons.inj hu').1;rw [e1] at hu';have hu2:Jv T (b::r)=b::r:=by show b::upL T b r=_;rw [(List.cons.inj hu').2]
   obtain ⟨c1,p1⟩:=ZP (b::r) hk.2 (fun x hx=>hp x (by simp [List.mem_cons.1 hx])) hu2;have hd:=JE (T:=T) (b::r)
   show Clo T (dnC T a (dnS T (b::r)))/\_
   cases hb:dnS T (b::r) with
   | nil=>rw [hb] at hd;exact hd.elim
   | cons x R=>
     rw [hb] at hd c1 p1;have hbx:Le b x:=hd.1;have k:LkP T a x:=hk.1.sam ⟨rfl,rfl,rfl⟩ hbx.s;have pa:=hp a (by simp);have px:=p1 x (by simp);have ek:lc T (mt a (cyd T a x)) x=lc T a x/\lw T (mt a (cyd T a x)) x=lw T a x/\ls (mt a (cyd T a x)) x=ls a x:=⟨rfl,rfl,rfl⟩
     have ea:=ZN (T:=T) (a:=a) (a':=a) ⟨rfl,rfl,rfl⟩ hbx.s;refine ⟨⟨⟨?_,?_⟩,c1⟩,?_⟩
     ·
       have h1:CY (lc T a x) (ls a x) a.pl<=x.pl:=by
         have:=congrArg Lev.pl e1;unfold mt cyu at this;simp only at this;rw [ea.1,ea.2.2] at this;have:=hbx.lo;omega
       have h2:x.ph<=C9 (lw T a x) (ls a x) a.ph:=by
         have:=congrArg Lev.ph e1;unfold mt cyu at this;simp only at this;rw [ea.2.1,ea.2.2] at this;have:=hbx.hi;omega
       have h3:=k.back1 px.1;have h4:=k.back2 px.2;refine ⟨⟨rfl,rfl,rfl⟩,?_,?_⟩
       . show max x.pl (CY (lc T a x) (ls a x) (max a.pl (Cz (lw T a x) (ls a x) x.pl)))<=x.pl
         by_cases hm:a.pl<=Cz (lw T a x) (ls a x) x.pl
         . rw [show max a.pl (Cz (lw T a x) (ls a x) x.pl)=Cz (lw T a x) (ls a x) x.pl by omega];omega
         . rw [show max a.pl (Cz (lw T a x) (ls a x) x.pl)=a.pl by omega];omega
       . show x.ph<=min x.ph (C9 (lw T a x) (ls a x) (min a.ph (Ec (lc T a x) (ls a x) x.ph)))
         by_cases hm:a.ph<=Ec (lc T a x) (ls a x) x.ph
         . rw [show min a.ph (Ec (lc T a x) (ls a x) x.ph)=a.ph by omega];omega
         . rw [show min a.ph (Ec (lc T a x) (ls a x) x.ph)=Ec (lc T a x) (ls a x) x.ph by omega];omega
     . refine ⟨⟨rfl,rfl,rfl⟩,?_,?_⟩
       . show max (max a.pl (Cz (lw T a x) (ls a x) x.pl)) (Cz (lw T a x) (ls a x) x.pl)<=max a.pl (Cz (lw T a x) (ls a x) x.pl)
         omega
       . show min a.ph (Ec (lc T a x) (ls a x) x.ph)<=min (min a.ph (Ec (lc T a x) (ls a x) x.ph)) (Ec (lc T a x) (ls a x) x.ph)
         omega
     . intro y hy
       have hy':y∈dnC T a (dnS T (b::r)):=hy;rw [hb] at hy';rcases List.mem_cons.1 (show y∈mt a (cyd T a x)::x::R from hy') with rfl | hy
       . have q1:=k.pos1 px.1
         have q2:=k.pos2 px.2;unfold Pos mt cyd;simp only;unfold Pos at pa;omega
       . exact p1 y hy
theorem TV {T:Tm}:∀ (l:List Lev) (a:Lev),upL T a (upL T a l)=upL T a l
 | [],_=>rfl
 | b::r,a=>by
   have e:cyu T a (mt b (cyu T a b))=cyu T a b:=rfl
   have e2:mt (mt b (cyu T a b)) (cyu T a b)=mt b (cyu T a b):=by
     unfold mt;simp only [Lev.mk.injEq,true_and,and_true];omega
   show mt (mt b (cyu T a b)) (cyu T a (mt b (cyu T a b)))::upL T (mt (mt b (cyu T a b)) (cyu T a (mt b (cyu T a b)))) (upL T (mt b (cyu T a b)) r)=mt b (cyu T a b)::upL T (mt b (cyu T a b)) r
   rw [e,e2,TV r]
theorem Vi {T:Tm}:∀ l:List Lev,Jv T (Jv T l)=Jv T l
 | []=>rfl
 | a::r=>by show a::upL T a (upL T a r)=a::upL T a r;rw [TV]
theorem ZQ {T:Tm}:∀ (l:List Lev) (a:Lev),Lks T (a::l)->Pos a->(∀ x∈l,Pos x)->∀ x∈upL T a l,Pos x
 | [],_,_,_,_,x,hx=>by simp [upL] at hx
 | b::r,a,hk,ha,hp,x,hx=>by
   have pb:=hp b (by simp)
   have hb:Pos (mt b (cyu T a b)):=by
     have:=hk.1.pos3 ha.2;unfold Pos mt cyu at*;simp only at*;omega
   rcases List.mem_cons.1 (show x∈mt b (cyu T a b)::upL T (mt b (cyu T a b)) r from hx) with rfl | hx
   . exact hb
   . exact ZQ r _ (Lks.le (l:=b::r) ⟨MI b _,LeL.refl r⟩ hk.2) hb (fun y hy=>hp y (List.mem_cons_of_mem _ hy)) x hx
theorem NI {T:Tm} {l:List Lev} (hk:Lks T l) (hp:∀ x∈l,Pos x):Clo T (O4 T l)/\∀ x∈O4 T l,Pos x:=by
 unfold O4;refine ZP _ (Lks.le (GX l) hk) ?_ (Vi l);cases l with
 | nil=>simp [Jv]
 | cons a r=>
   intro x hx;rcases List.mem_cons.1 (show x∈a::upL T a r from hx) with rfl | hx
   . exact hp _ (by simp)
   . exact ZQ r a hk (hp a (by simp)) (fun y hy=>hp y (List.mem_cons_of_mem _ hy)) x hx
end Go.Air
namespace Go.Proofs.Tryz
open Go.Psl
open Go.Air
abbrev A5 (x:Lev):List D:=[di x.h,di x.pl,di x.ph,di x.tl,di x.th]
abbrev Wb (x:Lev):V:= .agg [vi x.h,vi x.pl,vi x.ph,vi x.tl,vi x.th]
abbrev BF (l:List Lev):D:= .sl 5 (l.map A5)
theorem hfl:∀ x:Lev,(A5 x).length=5:=fun _=>rfl
abbrev cr (p:Int × Int):V:= .agg [vi p.1,vi p.2]
theorem Sa {α:Type} (f:α->Bool) (l:List α):l.any (fun x=>!f x)=!l.all f:=by
 induction l with
 | nil=>rfl
 | cons a l ih=>simp [ih]
theorem ASp (l:List Int) (g:FuncId) (ds:List D) (q:Int->Bool) (hl:l.length<=1000000000) (hg:∀ p∈l,Ct prog g (vi p::ds.map .d) (vb (q p)) []):Ct prog 127 [.d (Ch l), .d (.fn g ds)] (vi (ixF q l)) []:=by
 refine CB func127 c127 fun E hE=>?_
 simp [p127];refine Al (α:=Nat) (fun i=>⟨AO [(0, .d (Ch l)),(1, .d (.fn g ds)),(7,vi l.length),(8,vi i)],lk [],0⟩) (fun i=>i<=l.length/\∀ j,j<i->(l[j]?).all (fun p=>!q p)=true) (fun i=>l.length-i) 0 ?_ ?_ ?_
 . exact ⟨by omega,fun j hj=>by omega⟩
 . exact WK hE (lk [])
 . rintro i ⟨hi,hg3⟩
   have hg2:∀ (j:Nat) (p:Int),j<i->l[j]?= some p->q p=false:=fun j p hj hp=>by
     have:=hg3 j hj;rw [hp] at this;simpa using this
   have hz:=@wz i (by omega);simp [APH];refine Bh (fun h=>?_) (fun h=>?_)
   . simp at h
     obtain ⟨p,hp⟩:=gE h;simp [hp];refine CLa (hg p (List.mem_of_getElem? hp)) ?_;cases hq:q p
     . simp [hz]
       refine ⟨i+1,⟨by omega,fun j hj=>?_⟩,by omega,?_⟩
       . by_cases e:j=i
         . subst e;rw [hp];simp [hq]
         . exact hg3 j (by omega)
       . exact WK hE (lk [])
     . have e:ixF q l=i:=IY hp hq fun j y hj hy=>hg2 j y hj hy
       simp;apply RZ;simp [results127,e]
   . simp at h
     have e:ixF q l= -1:=IX fun j x hx=>hg2 j x (by have:=(List.getElem?_eq_some_iff.1 hx).1;omega) hx
     simp;apply RZ;simp [results127,e]
theorem ASq (l:List Int) (g:FuncId) (ds:List D) (q:Int->Bool) (hl:l.length<=1000000000) (hg:∀ p∈l,Ct prog g (vi p::ds.map .d) (vb (q p)) []):Ct prog 82 [.d (Ch l), .d (.fn g ds)] (vb (l.any q)) []:=by
 refine CB func82 c82 fun E hE=>?_
 simp [p82];refine CLa (ASp l g ds q hl hg) ?_;simp;apply RZ;simp [results82,<-IZ]
theorem rK (l:List (Int × Int)) (g:FuncId) (ds:List D) (q:(Int × Int)->Bool) (hl:l.length<=1000000000) (hg:∀ p∈l,Ct prog g (cr p::ds.map .d) (vb (q p)) []):Ct prog 113 [.d (An l), .d (.fn g ds)] (vi (ixF q l)) []:=by
 refine CB func113 c113 fun E hE=>?_
 simp [p113];refine Al (α:=Nat) (fun i=>⟨AO [(0, .d (An l)),(1, .d (.fn g ds)),(7,vi l.length),(8,vi i)],lk [],0⟩) (fun i=>i<=l.length/\∀ j,j<i->(l[j]?).all (fun p=>!q p)=true) (fun i=>l.length-i) 0 ?_ ?_ ?_
 . exact ⟨by omega,fun j hj=>by omega⟩
 . exact WK hE (lk [])
 . rintro i ⟨hi,hg3⟩
   have hg2:∀ (j:Nat) (p:(Int × Int)),j<i->l[j]?= some p->q p=false:=fun j p hj hp=>by
     have:=hg3 j hj;rw [hp] at this;simpa using this
   have hz:=@wz i (by omega);simp [APF];refine Bh (fun h=>?_) (fun h=>?_)
   . simp at h
     obtain ⟨p,hp⟩:=gE h;simp [hp];refine CLa (hg p (List.mem_of_getElem? hp)) ?_;cases hq:q p
     . simp [hz]
       refine ⟨i+1,⟨by omega,fun j hj=>?_⟩,by omega,?_⟩
       . by_cases e:j=i
         . subst e;rw [hp];simp [hq]
         . exact hg3 j (by omega)
       . exact WK hE (lk [])
     . have e:ixF q l=i:=IY hp hq fun j y hj hy=>hg2 j y hj hy
       simp;apply RZ;simp [results113,e]
   . simp at h
     have e:ixF q l= -1:=IX fun j x hx=>hg2 j x (by have:=(List.getElem?_eq_some_iff.1 hx).1;omega) hx
     simp;apply RZ;simp [results113,e]
theorem fn58 (l:List (Int × Int)) (g:FuncId) (ds:List D) (q:(Int × Int)->Bool) (hl:l.length<=1000000000) (hg:∀ p∈l,Ct prog g (cr p::ds.map .d) (vb (q p)) []):Ct prog 58 [.d (An l), .d (.fn g ds)] (vb (l.any q)) []:=by
 refine CB func58 c58 fun E hE=>?_
 simp [p58];refine CLa (rK l g ds q hl hg) ?_;simp;apply RZ;simp [results58,<-IZ]
theorem AB1 (l:List Lev) (g:FuncId) (ds:List D) (q:Lev->Bool) (hl:l.length<=1000000000) (hg:∀ p∈l,Ct prog g (Wb p::ds.map .d) (vb (q p)) []):Ct prog 48 [.d (BF l), .d (.fn g ds)] (vi (ixF q l)) []:=by
 refine CB func48 c48 fun E hE=>?_
 simp [p48];refine Al (α:=Nat) (fun i=>⟨AO [(0, .d (BF l)),(1, .d (.fn g ds)),(7,vi l.length),(8,vi i)],lk [],0⟩) (fun i=>i<=l.length/\∀ j,j<i->(l[j]?).all (fun p=>!q p)=true) (fun i=>l.length-i) 0 ?_ ?_ ?_
 . exact ⟨by omega,fun j hj=>by omega⟩
 . exact WK hE (lk [])
 . rintro i ⟨hi,hg3⟩
   have hg2:∀ (j:Nat) (p:Lev),j<i->l[j]?= some p->q p=false:=fun j p hj hp=>by
     have:=hg3 j hj;rw [hp] at this;simpa using this
   have hz:=@wz i (by omega);simp [AQU];refine Bh (fun h=>?_) (fun h=>?_)
   . simp at h
     obtain ⟨p,hp⟩:=gE h;simp [hp];refine CLa (hg p (List.mem_of_getElem? hp)) ?_;cases hq:q p
     . simp [hz]
       refine ⟨i+1,⟨by omega,fun j hj=>?_⟩,by omega,?_⟩
       . by_cases e:j=i
         . subst e;rw [hp];simp [hq]
         . exact hg3 j (by omega)
       . exact WK hE (lk [])
     . have e:ixF q l=i:=IY hp hq fun j y hj hy=>hg2 j y hj hy
       simp;apply RZ;simp [results48,e]
   . simp at h
     have e:ixF q l= -1:=IX fun j x hx=>hg2 j x (by have:=(List.getElem?_eq_some_iff.1 hx).1;omega) hx
     simp;apply RZ;simp [results48,e]
theorem fn95 (l:List Lev) (g:FuncId) (ds:List D) (q:Lev->Bool) (hl:l.length<=1000000000) (hg:∀ p∈l,Ct prog g (Wb p::ds.map .d) (vb (q p)) []):Ct prog 95 [.d (BF l), .d (.fn g ds)] (vb (l.any q)) []:=by
 refine CB func95 c95 fun E hE=>?_
 simp [p95];refine CLa (AB1 l g ds q hl hg) ?_;simp;apply RZ;simp [results95,<-IZ]
theorem AQ1 (l m:List Lev) (hl:l.length<=1000000000) (_:m.length<=1000000000):Ct prog 47 [.d (BF l), .d (BF m)] (vb (decide (l=m))) []:=by
 by_cases hlen:l.length=m.length
 case neg=>
   have hn:¬ (l.length:Int)=m.length:=by omega
   have hne:¬ l=m:=fun h=>hlen (by rw [h])
   refine CB func47 c47 fun E hE=>?_
   simp [p47,hn];apply RZ;simp [results47,hne]
 refine CB func47 c47 fun E hE=>?_
 simp [p47,hlen];refine Al (α:=Nat) (fun i=>⟨AO [(0, .d (BF l)),(1, .d (BF m)),(12,vi m.length),(13,vi i)],lk [],0⟩) (fun i=>i<=l.length/\l.take i=m.take i) (fun i=>l.length-i) 0 ?_ ?_ ?_
 . simp
 . exact WK hE (lk [])
 . rintro i ⟨hi,hg⟩
   have hz:IntKind.wrap .i64 ((i:Int)+1)=((i:Int)+1):=AD (by omega) (by omega);simp [ABK];refine Bh (fun h=>?_) (fun h=>?_)
   . simp at h
     have hil:i<l.length:=by omega
     obtain ⟨a,ha⟩:∃ a,l[i]?= some a:=⟨l[i],by simp [hil]⟩
     obtain ⟨b,hb⟩:∃ b,m[i]?= some b:=⟨m[i],by simp [show i<m.length by omega]⟩
     by_cases hab:a=b
     . subst hab
       simp [ha,hb,hz];refine ⟨i+1,⟨by omega,by simp [List.take_add_one,hg,ha,hb]⟩,by omega,?_⟩;exact WK hE (lk [])
     . have hne:¬ l=m:=fun h=>by
         rw [h,hb] at ha;cases ha;exact hab rfl
       have hd:((!decide (a.h=b.h)||(!decide (a.pl=b.pl)||(!decide (a.ph=b.ph)||(!decide (a.tl=b.tl)||!decide (a.th=b.th))))))=true:=by
         cases a;cases b;simp at hab ⊢;omega
       simp [ha,hb,hd];apply RZ;simp [results47,hne]
   . simp at h
     have hil:i=l.length:=by omega
     have hlm:l=m:=by rw [hil,List.take_length,hlen,List.take_length] at hg;exact hg
     simp;apply RZ;simp [results47,hlm]
theorem AQG (l:List Lev) (hl:l.length<=1000000000) (h0:l≠[]):Ct prog 43 [.d (BF l)] (.ls 0 0 l.length 5) [(0,AH A5 l)]:=by
 refine CB func43 c43 fun E hE=>?_
 obtain ⟨a,r,rfl⟩:=List.exists_cons_of_ne_nil h0;have hmx:(r.length+1)*40<=140737488355328/\r.length+1<=9223372036854775807:=by simp at hl;omega
 have e:BF (a::r)= .sl 5 (A5 a::r.map A5):=rfl;have ef:(r.map (List.map V.d ∘ A5)).flatten=AH A5 r:=by simp [AH,List.map_flatten]
 have hcl:(∀ x∈AH A5 r,x.isCell=true)=True:=eq_true BU;simp [p43,e,ef,hcl,AM,hmx];refine AB.by (lk [(0,5242880)]) ?_;simp [results43,CQ,hcl]
end Go.Proofs.Tryz
namespace Go.Air
def far:List Lev->List Lev->Nat
 | a::r,f::s=>(f.pl-a.pl).toNat+(a.ph-f.ph).toNat+far r s
 | _,_=>0
theorem WG {w s s' x:Int} (hw:0<w) (h0:0<=s') (h:s'<=s) (hx:0<=x):C9 w s x<=C9 w s' x:=by
 unfold C9;rw [K4 (by omega)];have h1:x*w<=cdv (x*w) (w+s')*(w+s'):=(K4 (by omega)).1 (Int.le_refl _)
 have h2:0<=cdv (x*w) (w+s'):=by
   rw [K5 (by omega)];have:0<=x*w:=Int.mul_nonneg hx (by omega);omega
 have h3:cdv (x*w) (w+s')*(w+s')<=cdv (x*w) (w+s')*(w+s):=Int.mul_le_mul_of_nonneg_left (by omega) h2;omega
theorem MN {c s s' x:Int} (hc:0<c) (h:s'<=s) (hx:0<=x):CY c s x<=CY c s' x:=
 Int.ediv_le_ediv hc (Int.mul_le_mul_of_nonneg_left (by omega) hx)
theorem Tn {c s x:Int} (hc:0<c) (h:0<=s) (hx:0<=x):CY c s x<=x:=by
 have h1:=MN hc h hx;have:CY c 0 x=x:=by unfold CY;rw [Int.sub_zero,Int.mul_ediv_cancel _ (by omega)]
 omega
theorem PZ {c s x:Int} (hc:0<c) (h:s<=c) (hx:0<=x):0<=CY c s x:=Int.ediv_nonneg (Int.mul_nonneg hx (by omega)) (by omega)
theorem xf {w s x:Int} (hw:0<w) (h:0<=s) (hx:0<=x):C9 w s x<=x:=by
 unfold C9;rw [K4 (by omega)];exact Int.mul_le_mul_of_nonneg_left (by omega) hx
theorem Tp {w s x:Int} (hw:0<w) (h:0<=s) (hx:0<=x):x<=Cz w s x:=by
 unfold Cz;rw [Int.le_ediv_iff_mul_le hw];exact Int.mul_le_mul_of_nonneg_left (by omega) hx
theorem AQD {c w s x y:Int} (k:Lk c w s) (hx:0<=x) (h:x<=y):CY c s x<=C9 w s y:=by
 have h1:Cz w s (CY c s x)<=x:=by
   have hp:=k.prod;obtain ⟨h1,h2,h3⟩:=k;have hy:CY c s x*c<=x*(c-s):=by unfold CY;exact Int.ediv_mul_le _ (by omega)
   have hz:0<=CY c s x:=PZ (by omega) (by omega) hx
   generalize CY c s x=z at*
   unfold Cz
   have:z*(w+s)<=x*w:=by
     refine Int.le_of_mul_le_mul_left (a:=c) ?_ (by omega);have e1:c*(z*(w+s))=(z*c)*(w+s):=by grind
     have e2:(z*c)*(w+s)<=(x*(c-s))*(w+s):=Int.mul_le_mul_of_nonneg_right hy (by omega);have e3:(x*(c-s))*(w+s)=x*((w+s)*(c-s)):=by grind
     have e4:x*((w+s)*(c-s))<=x*(w*c):=Int.mul_le_mul_of_nonneg_left hp hx;have e5:x*(w*c)=c*(x*w):=by grind
     omega
   calc z*(w+s)/w<=(x*w)/w:=Int.ediv_le_ediv (by omega) this
     _=x:=Int.mul_ediv_cancel _ (by omega)
 have hz:0<=CY c s x:=PZ (by have:=k.s0;have:=k.sc;omega) (by have:=k.sc;omega) hx;obtain ⟨q1,q2,q3⟩:=k;unfold C9;rw [K5 (by omega)]
 have h2:CY c s x*(w+s)<(x+1)*w:=by
   have:CY c s x*(w+s)/w<x+1:=by unfold Cz at h1;omega
   exact (Int.ediv_lt_iff_lt_mul (by omega)).1 this
 have e1:(x+1)*w=x*w+w:=by rw [Int.add_mul];omega
 have e2:(CY c s x-1)*(w+s)=CY c s x*(w+s)-(w+s):=by rw [Int.sub_mul];omega
 have e3:x*w<=y*w:=Int.mul_le_mul_of_nonneg_right h (by omega);omega
def prs (T:Tm):List Lev->Int->Int × Int
 | a::b::r,h=>if h<=a.h then (a.pl,a.ph) else if h<b.h then (max (CY (lc T a b) (341632*(h-a.h)) a.pl) b.pl,C9 (lw T a b) (341632*(h-a.h)) a.ph) else prs T (b::r) h
 | [a],_=>(a.pl,a.ph)
 | [],_=>(0,0)
structure LevB (x:Lev):Prop where
 lo:1000<=x.pl
 in':x.pl<=x.ph
 hi:x.ph<=12000
def Inc:List Lev->Prop
 | a::b::r=>a.h<b.h/\Inc (b::r)
 | _=>True
structure Snd (T:Tm) (l:List Lev):Prop where
 inc:Inc l
 lk:Lks T l
 clo:Clo T l
 lev:∀ x∈l,LevB x
theorem Snd.tail {T:Tm} {a b:Lev} {r:List Lev} (h:Snd T (a::b::r)):Snd T (b::r):=
 ⟨h.inc.2,h.lk.2,h.clo.2,fun x hx=>h.lev x (List.mem_cons_of_mem _ hx)⟩
theorem Tq {T:Tm} {a b:Lev} (k:LkP T a b) {h:Int} (h1:a.h<h) (h2:h<=b.h):Lk (lc T a b) (lw T a b) (341632*(h-a.h)):=by
 obtain ⟨q1,q2,q3⟩:=k;unfold ls at q1 q2;exact ⟨by omega,by omega,q3⟩
theorem Tr {T:Tm} {a b:Lev} {r:List Lev} (hs:Snd T (a::b::r)) {h:Int} (h1:a.h<h) (h2:h<b.h):
   b.pl<=max (CY (lc T a b) (341632*(h-a.h)) a.pl) b.pl/\max (CY (lc T a b) (341632*(h-a.h)) a.pl) b.pl<=a.pl/\max (CY (lc T a b) (341632*(h-a.h)) a.pl) b.pl<=C9 (lw T a b) (341632*(h-a.h)) a.ph/\C9 (lw T a b) (341632*(h-a.h)) a.ph<=a.ph:=by
 have la:=hs.lev a (by simp);have lb:=hs.lev b (by simp);have k:=Tq hs.lk.1 h1 (by omega);have k2:=hs.lk.1;have p1:=Tn (s:=341632*(h-a.h)) (show 0<lc T a b by have:=k.s0;have:=k.sc;omega) (by omega) (x:=a.pl) (by have:=la.lo;omega);have p2:=xf (s:=341632*(h-a.h)) (show 0<lw T a b by have:=k.s0;have:=k.sc;have:=k.cw;omega) (by omega) (x:=a.ph) (by have:=la.lo;have:=la.in';omega);have p3:=AQD k (x:=a.pl) (y:=a.ph) (by have:=la.lo;omega) la.in'
 have c1:b.pl<=a.pl:=by
   have:=hs.clo.1.2.lo
   have h3:Cz (lw T a b) (ls a b) b.pl<=a.pl:=by
     unfold mt cyd at this;simp only at this;omega
   have h4:=Tp (w:=lw T a b) (s:=ls a b) (x:=b.pl) (by have:=k2.s0;have:=k2.sc;have:=k2.cw;omega) (by have:=k2.s0;omega) (by have:=lb.lo;omega);omega
 have c2:b.pl<=C9 (lw T a b) (341632*(h-a.h)) a.ph:=by
   have:=hs.clo.1.1.hi
   have h3:b.ph<=C9 (lw T a b) (ls a b) a.ph:=by
     unfold mt cyu at this;simp only at this;omega
   have h4:=WG (w:=lw T a b) (s:=ls a b) (s':=341632*(h-a.h)) (x:=a.ph) (by have:=k.s0;have:=k.sc;have:=k.cw;omega) (by omega) (by unfold ls;omega) (by have:=la.lo;have:=la.in';omega);have:=lb.in';omega
 omega
theorem SL {T:Tm}:∀ {l:List Lev} (h:Int),Snd T l->l≠[]->1000<=(prs T l h).1/\(prs T l h).1<=(prs T l h).2/\(prs T l h).2<=12000
 | [a],h,hs,_=>by have:=hs.lev a (by simp);unfold prs;exact ⟨this.lo,this.in',this.hi⟩
 | a::b::r,h,hs,_=>by
   have la:=hs.lev a (by simp);have lb:=hs.lev b (by simp);unfold prs;by_cases h1:h<=a.h
   . rw [if_pos h1];exact ⟨la.lo,la.in',la.hi⟩
   . rw [if_neg h1]
     by_cases h2:h<b.h
     . rw [if_pos h2]
       have:=Tr hs (show a.h<h by omega) h2;have:=lb.lo;have:=la.hi;simp only;omega
     . rw [if_neg h2];exact SL h hs.tail (by simp)
 | [],_,_,h=>absurd rfl h
theorem JP {T:Tm}:∀ {l:List Lev} {a:Lev} (h:Int),Snd T (a::l)->(prs T (a::l) h).1<=a.pl
 | [],a,h,hs=>Int.le_refl _
 | b::r,a,h,hs=>by
   unfold prs;by_cases h1:h<=a.h
   . rw [if_pos h1];exact Int.le_refl _
   . rw [if_neg h1]
     by_cases h2:h<b.h
     . rw [if_pos h2]
       exact (Tr hs (show a.h<h by omega) h2).2.1
     . rw [if_neg h2]
       have:=JP h hs.tail;have lb:=hs.lev b (by simp);have k2:=hs.lk.1;have:=hs.clo.1.2.lo
       have h3:Cz (lw T a b) (ls a b) b.pl<=a.pl:=by
         unfold mt cyd at this;simp only at this;omega
       have h4:=Tp (w:=lw T a b) (s:=ls a b) (x:=b.pl) (by have:=k2.s0;have:=k2.sc;have:=k2.cw;omega) (by have:=k2.s0;omega) (by have:=lb.lo;omega);omega
theorem ADF {T:Tm}:∀ {l:List Lev} {h h':Int},Snd T l->h<=h'->(prs T l h').1<=(prs T l h).1
 | [],_,_,_,_=>Int.le_refl _
 | [_],_,_,_,_=>Int.le_refl _
 | a::b::r,h,h',hs,hh=>by
   by_cases h1:h<=a.h
   . have:=JP h' hs
     have e:prs T (a::b::r) h=(a.pl,a.ph):=by unfold prs;rw [if_pos h1]
     rw [e];exact this
   . have e1:∀ x,a.h<x->prs T (a::b::r) x=if x<b.h then (max (CY (lc T a b) (341632*(x-a.h)) a.pl) b.pl,C9 (lw T a b) (341632*(x-a.h)) a.ph) else prs T (b::r) x:=fun x hx=>by
       conv=>lhs;unfold prs
       rw [if_neg (by omega)]
     rw [e1 h (by omega),e1 h' (by omega)];by_cases h2:h' < b.h
     . rw [if_pos h2,if_pos (show h<b.h by omega)]
       have la:=hs.lev a (by simp);have k:=Tq hs.lk.1 (show a.h<h' by omega) (by omega);have:=MN (c:=lc T a b) (s:=341632*(h' - a.h)) (s':=341632*(h-a.h)) (x:=a.pl) (by have:=k.s0;have:=k.sc;omega) (by omega) (by have:=la.lo;omega);simp only;omega
     . rw [if_neg h2]
       by_cases h3:h<b.h
       . rw [if_pos h3]
         have:=JP h' hs.tail;simp only;omega
       . rw [if_neg h3];exact ADF hs.tail hh
def WH (T:Tm) (l:List Lev) (a b:Int):Atm:=⟨(prs T l b).1,(prs T l a).2,(T a b).1,(T a b).2⟩
theorem mD {T:Tm} {l:List Lev} (hs:Snd T l) (hne:l≠[]) {a b:Int} (hab:a<=b) (hT:1500<=(T a b).1/\(T a b).1<=(T a b).2/\(T a b).2<=3500):Fx (WH T l a b):=by
 have h1:=SL a hs hne;have h2:=SL b hs hne;have h3:=ADF hs hab;exact ⟨by unfold WH;simp only;omega,hT⟩
end Go.Air
namespace Go.Proofs.Tryz
open Go.Psl
open Go.Air
theorem ATH (lo hi:Int) (l:List Int):l.any (fun n=>decide (n<lo)||decide (hi<n))=!rgB lo hi l:=by
 unfold rgB;rw [<-Sa];congr 1
 funext n
 by_cases h1:n<lo<;>by_cases h2:hi<n<;>simp [h1,h2]<;>omega
theorem fn83 (lo hi n:Int):Ct prog 83 [vi n, .d (.ref [di lo]), .d (.ref [di hi])] (vb (decide (n<lo)||decide (hi<n))) []:=by
 by_cases h1:n<lo
 . refine CB func83 c83 fun E hE=>?_
   simp [p83,h1];apply RZ;simp [results83]
 . refine CB func83 c83 fun E hE=>?_
   simp [p83,h1];apply RZ;simp [results83]
theorem mH (lo hi:Int) (l:List Int) (hl:l.length<=1000000):Ct prog 34 [vi lo,vi hi, .d (Ch l)] (vb (rgB lo hi l)) []:=by
 have c:=ASq l 83 [.ref [di lo], .ref [di hi]] (fun n=>decide (n<lo)||decide (hi<n)) (by omega) fun n _=>fn83 lo hi n
 rw [ATH] at c;refine CB func34 c34 fun E hE=>?_
 simp [p34];refine CLa c ?_;simp;apply RZ;simp [results34]
theorem AEF (lo hi n:Int):Ct prog 130 [vi n, .d (.ref [di lo]), .d (.ref [di hi])] (vb (decide (n<lo)||decide (hi<n))) []:=by
 by_cases h1:n<lo
 . refine CB func130 ASf fun E hE=>?_
   simp [p130,h1];apply RZ;simp [results130]
 . refine CB func130 ASf fun E hE=>?_
   simp [p130,h1];apply RZ;simp [results130]
theorem mM (lo hi:Int) (l:List Int) (hl:l.length<=1000000):Ct prog 88 [vi lo,vi hi, .d (Ch l)] (vb (rgB lo hi l)) []:=by
 have c:=ASq l 130 [.ref [di lo], .ref [di hi]] (fun n=>decide (n<lo)||decide (hi<n)) (by omega) fun n _=>AEF lo hi n
 rw [ATH] at c;refine CB func88 c88 fun E hE=>?_
 simp [p88];refine CLa c ?_;simp;apply RZ;simp [results88]
theorem xe (a b lo hi:Int):Ct prog 69 [vsp a b,vi lo,vi hi] (vb (spB lo hi a b)) []:=by
 have c:=mH lo hi [a,b] (by simp);by_cases h:a<=b
 . have e:spB lo hi a b=rgB lo hi [a,b]:=by unfold spB;simp [h]
   refine CB func69 c69 fun E hE=>?_
   simp [p69,AA,AM,h];refine CLb (c) (by simp [Ap]) ?_;simp;apply RZ;simp [results69,e]
 . have e:spB lo hi a b=false:=by unfold spB;simp [h]
   refine CB func69 c69 fun E hE=>?_
   simp [p69,h];apply RZ;simp [results69,e]
def Dy (l:List Lev) (i:Nat):Bool:=match l[i]? with
 | some x=>rgB (-500) 9000 [x.h]&&(if i=0 then true else match l[i-1]? with | some y=>rgB 1 2000 [x.h-y.h] | none=>true)
 | none=>true
def Ij (x:Lev):Bool:=spB 1000 12000 x.pl x.ph&&spB 1500 3500 x.tl x.th
def FG (l:List Lev):Bool:=(List.range l.length).all (Dy l)&&rgB 2 16 [(l.length:Int)]
def GC (l:List Lev):Bool:=FG l&&l.all Ij
theorem PK {l:List Lev} {i:Nat} (hi:i<l.length) (h:Dy l i=false):FG l=false:=by
 unfold FG
 have:(List.range l.length).all (Dy l)=false:=by
   rw [List.all_eq_false];exact ⟨i,by simp [hi],by simp [h]⟩
 simp [this]
theorem Vv {l:List Lev} (h:∀ j,j<l.length->Dy l j=true):FG l=rgB 2 16 [(l.length:Int)]:=by
 unfold FG
 have:(List.range l.length).all (Dy l)=true:=by
   rw [List.all_eq_true];intro j hj;exact h j (by simpa using hj)
 simp [this]
theorem xg (x:Lev):Ct prog 94 [Wb x] (vi x.h) []:=by
 refine CB func94 c94 fun E hE=>?_
 simp [p94];apply RZ;simp [results94]
theorem fn92 (x:Lev):Ct prog 92 [Wb x] (vb (!Ij x)) []:=by
 have c1:=xe x.pl x.ph 1000 12000;have c2:=xe x.tl x.th 1500 3500;cases h1:spB 1000 12000 x.pl x.ph
 . rw [h1] at c1
   refine CB func92 c92 fun E hE=>?_
   simp [p92];refine CLa c1 ?_;simp;apply RZ;simp [results92,Ij,h1]
 . rw [h1] at c1
   refine CB func92 c92 fun E hE=>?_
   simp [p92];refine CLa c1 ?_;simp;refine CLa c2 ?_;simp;apply RZ;simp [results92,Ij,h1]
theorem fn93 (l:List Lev) (hl:l.length<=1000000):Ct prog 93 [.d (BF l), .d (.fn 94 [])] (vb (FG l)) []:=by
 refine CB func93 c93 fun E hE=>?_
 simp [p93];refine Al (α:=Nat) (fun i=>⟨AO [(0, .d (BF l)),(1, .d (.fn 94 [])),(8, .d (BF l)),(9,vi l.length),(10,vi i)],lk [],0⟩) (fun i=>i<=l.length/\∀ j,j<i->Dy l j=true) (fun i=>l.length-i) 0 ?_ ?_ ?_
 . exact ⟨by omega,fun j hj=>by omega⟩
 . exact WK hE (lk [])
 . rintro i ⟨hi,hg⟩
   by_cases h:i<l.length
   . obtain ⟨x,hx⟩:=gE h
     have hz:=@wz i (by omega);have hI:(i:Int)<l.length:=by omega
     have c1:=xg x;have c2:=mH (-500) 9000 [x.h] (by simp);cases h1:rgB (-500) 9000 [x.h]
     . have hbad:=PK h (by unfold Dy;rw [hx];simp [h1])
       rw [h1] at c2;simp [AMl,hI,hx,AA];refine CLa c1 ?_;simp [AA,AM];refine CLb (c2) (by simp [AG]) ?_;simp;apply RZ;simp [results93,hbad]
     . rw [h1] at c2
       by_cases h0:i=0
       . subst h0
         have hx0:l[0]?= some x:=hx;rw [List.getElem?_eq_getElem h] at hx;have hx':=Option.some.inj hx;simp [AMl,h,hx',AA];refine CLa c1 ?_;simp [AA,AM];refine CLb (c2) (by simp [AG]) ?_;simp [show IntKind.wrap .i64 1=1 by decide];refine ⟨1,⟨by omega,fun j hj=>?_⟩,by omega,?_⟩
         . have:j=0:=by omega
           subst this;unfold Dy;rw [hx0];simp [h1]
         . exact WK hE (lk [])
       . obtain ⟨y,hy⟩:∃ y,l[i-1]?= some y:=⟨_,List.getElem?_eq_getElem (by omega)⟩
         have hw:IntKind.wrap .i64 ((i:Int)-1)=((i-1:Nat):Int):=by rw [AD (by omega) (by omega)];omega
         have hI0:0<i:=by omega
         have hxb: -500<=x.h/\x.h<=9000:=by simp [rgB] at h1;omega
         have hyb: -500<=y.h/\y.h<=9000:=by
           have:=hg (i-1) (by omega);unfold Dy at this;rw [hy] at this;simp [rgB] at this;omega
         have hwd:IntKind.wrap .i64 (x.h-y.h)=x.h-y.h:=AD (by omega) (by omega);have c3:=xg y;have c4:=mH 1 2000 [x.h-y.h] (by simp);have e:Dy l i=rgB 1 2000 [x.h-y.h]:=by unfold Dy;rw [hx];simp [h1,h0,hy]
         cases h2:rgB 1 2000 [x.h-y.h]
         . rw [h2] at c4
           have hbad:=PK h (by rw [e,h2]);simp [AMl,hI,hx,AA];refine CLa c1 ?_;simp [AA,AM];refine CLb (c2) (by simp [AG]) ?_;simp [hI0,hw,hy];refine CLa c3 ?_;simp [AA,AM,hwd];refine CLb (c4) (by simp [AG]) ?_;simp;apply RZ;simp [results93,hbad]
         . rw [h2] at c4
           simp [AMl,hI,hx,AA];refine CLa c1 ?_;simp [AA,AM];refine CLb (c2) (by simp [AG]) ?_;simp [hI0,hw,hy];refine CLa c3 ?_;simp [AA,AM,hwd];refine CLb (c4) (by simp [AG]) ?_;simp [hz];refine ⟨i+1,⟨by omega,fun j hj=>?_⟩,by omega,?_⟩
           . by_cases hj2:j=i
             . subst hj2;rw [e,h2]
             . exact hg j (by omega)
           . exact WK hE (lk [])
   . have e:i=l.length:=by omega
     have hn:¬ (i:Int)<l.length:=by omega
     have c:=mH 2 16 [(l.length:Int)] (by simp);have hall:=Vv (l:=l) (by rw [<-e];exact hg);simp [AMl,hn,AA,AM];refine CLb (c) (by simp [AG]) ?_;simp;apply RZ;simp [results93,hall]
theorem AP0 (l:List Lev) (hl:l.length<=1000000):Ct prog 42 [.d (BF l)] (vi (if GC l then 0 else 20)) []:=by
 have c1:=fn93 l hl;have c2:=fn95 l 92 [] (fun x=>!Ij x) (by omega) fun x _=>fn92 x
 rw [Sa] at c2;have e:GC l=(FG l&&l.all Ij):=rfl
 generalize FG l=b1 at*
 generalize l.all Ij=b2 at*
 rw [e]
 cases b1<;>cases b2<;>(
   refine CB func42 c42 fun E hE=>?_
   simp [p42]
   repeat ((first | (refine CLt c1 ?_ ?_;focus (simp;done)) | (refine CLt c2 ?_ ?_;focus (simp;done)));simp)
   apply RZ;simp [results42])
abbrev DA (l:List (Int × Int × Int)):D:= .sl 3 (l.map fun k=>[di k.1,di k.2.1,di k.2.2])
def okK (k:Int × Int × Int):Bool:=decide (-1073741824<=k.1)&&decide (k.1<=1073741824)&&decide (-1073741824<=k.2.1)&&decide (k.2.1<=k.2.2)&&decide (k.2.2<=1073741824)
def C3 (l:List (Int × Int × Int)) (i:Nat):Bool:=match l[i]? with
 | some k=>okK k&&(decide (i=0)||match l[i-1]? with | some p=>decide (p.1<k.1) | none=>true)
 | none=>true
def DV (l:List (Int × Int × Int)) (i:Nat):Bool:=(List.range i).all (C3 l)
def Ck (l:List (Int × Int × Int)):Bool:=decide (2<=l.length)&&decide (l.length<=32)&&DV l l.length
theorem Ji (l:List (Int × Int × Int)) (i:Nat):DV l (i+1)=(DV l i&&C3 l i):=by simp [DV,List.range_succ]
theorem Cf {l:List (Int × Int × Int)} {i:Nat} (h:i<l.length) (hb:C3 l i=false):DV l l.length=false:=by
 unfold DV;rw [List.all_eq_false];exact ⟨i,List.mem_range.2 h,by simp [hb]⟩
theorem FE {k:Int × Int × Int}:okK k=true↔ -1073741824<=k.1/\k.1<=1073741824/\ -1073741824<=k.2.1/\k.2.1<=k.2.2/\k.2.2<=1073741824:=by
 unfold okK;simp only [Bool.and_eq_true,decide_eq_true_eq];omega
theorem HZ {l:List (Int × Int × Int)} {k:Int × Int × Int} (h:l[0]?= some k):C3 l 0=okK k:=by simp [C3,h]
theorem FF {l:List (Int × Int × Int)} {i:Nat} {k p:Int × Int × Int} (h:l[i+1]?= some k) (hp:l[i]?= some p):C3 l (i+1)=(okK k&&decide (p.1<k.1)):=by simp [C3,h,hp]
theorem JF {k:Int × Int × Int} (h:min k.1 k.2.1 < -1073741824\/1073741824<max k.1 k.2.2\/k.2.2<k.2.1):okK k=false:=by
 have:¬ okK k=true:=by rw [FE];omega
 simpa using this
theorem xw (l:List (Int × Int × Int)) (hl:l.length<=1000000):Ct prog 134 [.d (DA l)] (vi (if Ck l then 0 else 13)) []:=by
 refine CB func134 c134 fun E hE=>?_
 by_cases h2:l.length<2
 . have h2':(l.length:Int)<2:=by omega
   simp [p134,h2'];apply RZ;simp [results134,Ck];omega
 by_cases h3:32<l.length
 . have h2':¬ (l.length:Int)<2:=by omega
   have h3':(32:Int)<l.length:=by omega
   simp [p134,h2',h3'];apply RZ;simp [results134,Ck];omega
 have h2':¬ (l.length:Int)<2:=by omega
 have h3':¬ (32:Int)<l.length:=by omega
 simp [p134,h2',h3'];refine Al (α:=Nat) (fun i=>⟨AO [(0, .d (DA l)),(13, .d (DA l)),(14,vi l.length),(15,vi i)],lk [],0⟩) (fun i=>i<=l.length/\DV l i=true) (fun i=>l.length-i) 0 ?_ ?_ ?_
 . simp [DV]
 . exact WK hE (lk [])
 . rintro i ⟨hi,hg⟩
   simp [sP];refine Bh (fun h=>?_) (fun h=>?_)
   . simp at h
     have hil:i<l.length:=by omega
     obtain ⟨k,hk⟩:∃ k,l[i]?= some k:=⟨l[i],by simp [hil]⟩
     by_cases h0:i=0
     . subst h0
       have e:C3 l 0=okK k:=HZ hk;have hz:IntKind.wrap .i64 1=1:=by decide
       by_cases c1:min k.1 k.2.1 < -1073741824
       . have hb:C3 l 0=false:=by simp [e,JF (Or.inl c1)]
         simp [hk,AA,c1];apply RZ;simp [results134,Ck,Cf hil hb]
       by_cases c2:1073741824<max k.1 k.2.2
       . have hb:C3 l 0=false:=by simp [e,JF (Or.inr (Or.inl c2))]
         simp [hk,AA,c1,c2];apply RZ;simp [results134,Ck,Cf hil hb]
       by_cases c3:k.2.2<k.2.1
       . have hb:C3 l 0=false:=by simp [e,JF (Or.inr (Or.inr c3))]
         simp [hk,AA,c1,c2,c3];apply RZ;simp [results134,Ck,Cf hil hb]
       have hk1:okK k=true:=by rw [FE];omega
       simp [hk,AA,c1,c2,c3,hz];refine ⟨1,⟨by omega,by rw [Ji,hg,e,hk1];rfl⟩,by omega,?_⟩;exact WK hE (lk [])
     . obtain ⟨j,hj⟩:∃ j,i=j+1:=⟨i-1,by omega⟩
       obtain ⟨p,hp⟩:∃ p,l[j]?= some p:=⟨l[j],by simp [show j<l.length by omega]⟩
       have e:C3 l i=(okK k&&decide (p.1<k.1)):=by subst hj;exact FF hk hp
       have hz:IntKind.wrap .i64 ((i:Int)+1)=(i:Int)+1:=AD (by omega) (by omega);have hz2:IntKind.wrap .i64 ((i:Int)-1)=(j:Int):=by rw [AD (by omega) (by omega)];omega
       have hpos:0<i:=by omega
       by_cases c1:min k.1 k.2.1 < -1073741824
       . have hb:C3 l i=false:=by simp [e,JF (Or.inl c1)]
         simp [hk,AA,c1];apply RZ;simp [results134,Ck,Cf hil hb]
       by_cases c2:1073741824<max k.1 k.2.2
       . have hb:C3 l i=false:=by simp [e,JF (Or.inr (Or.inl c2))]
         simp [hk,AA,c1,c2];apply RZ;simp [results134,Ck,Cf hil hb]
       by_cases c3:k.2.2<k.2.1
       . have hb:C3 l i=false:=by simp [e,JF (Or.inr (Or.inr c3))]
         simp [hk,AA,c1,c2,c3];apply RZ;simp [results134,Ck,Cf hil hb]
       have hk1:okK k=true:=by rw [FE];omega
       by_cases c4:k.1<=p.1
       . have hb:C3 l i=false:=by rw [e,decide_eq_false (by omega)];simp
         simp [hk,hp,AA,c1,c2,c3,c4,hz2,hpos];apply RZ;simp [results134,Ck,Cf hil hb]
       simp [hk,hp,AA,c1,c2,c3,c4,hz,hz2,hpos];refine ⟨i+1,⟨by omega,by rw [Ji,hg,e,hk1,decide_eq_true (by omega)];rfl⟩,by omega,?_⟩;exact WK hE (lk [])
   . simp at h
     have hil:i=l.length:=by omega
     subst hil;simp;apply RZ;simp [results134,Ck,hg];omega
end Go.Proofs.Tryz
