/- Texts, part 2. -/
import Derived.Test.YtooecmiihjampaaGreatTopBytesM1
import Derived.Test.YtooecmiihjampaaGreatProg
import Derived.Shelf.Small.Strs
import Derived.Shelf.Small.Wraps
import Derived.Shelf.Utf8.RuneCount
import Derived.Shelf.Strings.Shaped
import Derived.Shelf.Strings.Split
import Derived.Shelf.Strings.RuneCount
import Derived.Shelf.SlSortCmp.NoneTotal
import Derived.Lib.AppendZerosOnto
import Derived.Lib.Overlaps
set_option linter.unusedVariables false
set_option linter.unusedSimpArgs false
set_option maxRecDepth 20000
set_option maxHeartbeats 8000000
set_option linter.defProp false
open Go.Proofs Go.RowKit
noncomputable abbrev _root_.zti:=Go.Proofs.Tryz.prog
section
variable{u w:Go.World}{B B0 H:Go.V.Heap}{e t t' ti tt ty:Go.TypeId}{ag fu:Bool}{v:Go.Value}{a b c r s:ByteArray}{x y:Go.Operand}{by_ d f i j k m n off q:Nat}{K α:Type}{p:Int}{P:Go.Program}{F:Go.V.Fr}{O:Go.V.Boxes}{ops:Array Go.Oper}{κ:Go.V.Kap}{pos:String}{aft:Array Go.Edge}{g:Option (Nat×Bool)}{fp:Nat->Nat->Prop}{os:List Go.Oper}{ztg:Go.Exit->Go.Act->Go.World->Prop}{ex:Go.V.Exs}{cap cs cur cur' news rest xs:List Go.Value}{o:Go.Oper}{args:Array Go.Operand}{at_:Array Go.TypeId}{C:Nat->Prop}{φ:Go.Value->Go.V.Heap->Prop}{ls ys:List ByteArray}{r1 r2:Go.V.Res}{A Y:Prop}
namespace Go.V
set_option maxRecDepth 100000
def gp{X:Type}(v:X):List Nat->List (Nat×X)->List (Nat×X)
 | [],r=>r
 | t::l,r=>(t,v)::gp v l r
def gq(k o:Nat):List Nat->List ((Nat×Nat)×Nat)->List ((Nat×Nat)×Nat)
 | [],r=>r
 | t::l,r=>((t,k),o)::gq k o l r
def ki:zti.follows .mixedOrders=true:=J
def ldL:List (Nat×(Bool×Nat)):=gp (false,1) [1,2,3,4,5,6,9,10,11,12,15,16,17,20,21,22,25,30,31,38,40,41,42,43,44,47,48,49,50,58,59,60,61,62,64,65,66,68,70,72,73,74,75,79,80,83,86,87,91,93,95,96,97,98,99,100,101,102,103,104,105,106,107,109,110,112,113,115,116,117,118,121,122,123,124,125,127,128,130,132,133,134,136,137,138,139,140,141,142,143,144,145,146,147,148,150,151,152,153,155,157,159,160,161,162,163,165,167,170,171,172,173,174,175,176,177,178,179,180,181,182,183,184,187,188,189,190,191,192,193,195,196,197,198,199,202,205,206,208,209,210,211,212,214,217,218,220,221,222,228,229,230,231,232,233,234,235,236,237,238,239,242,243,244,246,247,249,250,251,252,253,257,258,259,260,261,262,263,264,265,266,267,268,269,270,271,272,273,274,275,276,277,278,279,280,281,282,283,284,285,286,287,290,294,295,296,297,298,299,300,301,302,303,304,306,307,308,309,310,311,313,314,315,316,317,318,319,320,321,322,323,324,325,326,327,328,329,330,331,332,333,334,335,336,337,338,339,341,343,344,345,346,347,348,349,350,351,352,354,355,356,357,358,359,360,366,367,368,369,370] (gp (true,2) [13,14,26,27,32,33,34,35,51,52,88,168,203,204,215,223,224,240,241,288,289,291,292] (gp (true,4) [7,8,36,37,119,120,225,226,361,362] (gp (true,1) [18,19,23,24,28,29,45,46] (gp (true,3) [53,54,55,89,90,111] (gp (true,6) [56,57,169,185,186,216] (gp (true,7) [76,77,81,82,84,85] (gp (true,0) [114,363,364,365] (gp (true,10) [200,201] (gp (true,9) [255,256] (gp (true,11) [371,372] (gp (true,14) [166] [])))))))))))
def slL:List (Nat×Nat):=gp 88 [22] (gp 111 [25] (gp 57 [41] (gp 5 [43] (gp 77 [74] (gp 54 [101] (gp 82 [151] (gp 48 [153] (gp 186 [183] (gp 289 [222] (gp 37 [243] (gp 9 [259] (gp 3 [262] (gp 215 [333] [])))))))))))))
def stL:List (Nat×Unit):=gp () [9,10,11] []
def foL:List ((Nat×Nat)×Nat):=gq 0 0 [7,8,13,14,18,19,23,24,26,27,28,29,32,33,34,35,36,37,45,46,51,52,53,54,55,56,57,76,77,81,82,84,85,89,90,119,120,168,185,186,200,201,203,204,223,224,225,226,240,241,255,256,288,289,291,292,361,362,371,372] (gq 1 1 [7,8,13,14,26,27,32,33,51,52,84,85,119,120,168,203,204,223,224,225,226,240,241,255,256,288,289,291,292,361,362,371,372] (gq 2 2 [7,8,84,85,119,120,225,226,361,362,371,372] (gq 3 3 [7,8,84,85,119,120,361,362,371,372] (gq 1 2 [36,37,53,54,55,89,90] (gq 1 6 [76,77,81,82,200,201] (gq 1 3 [56,57] (gq 4 6 [84,85] (gq 2 7 [200,201] (gq 3 8 [200,201] (gq 4 9 [200,201] (gq 2 8 [255,256] (gq 4 4 [371,372] (gq 5 5 [371,372] (gq 6 6 [371,372] (gq 7 7 [371,372] (gq 8 8 [371,372] (gq 9 9 [371,372] (gq 10 10 [371,372] []))))))))))))))))))
def zrL:List (Nat×Value):=gp (.nilFunc) [1,30,40,42,44,47,49,50,59,60,61,62,64,65,66,68,70,72,73,75,79,80,83,86,87,91,93,95,96,97,98,99,100,102,103,104,105,106,107,109,110,115,116,117,118,121,122,123,124,125,127,128,130,132,133,134,136,137,138,139,140,141,142,143,144,145,146,148,150,152,155,157,159,160,161,162,163,165,170,171,172,173,174,175,176,177,178,179,180,181,182,184,187,188,189,190,191,192,193,195,196,197,198,199,208,209,210,211,212,214,217,218,220,228,229,230,231,232,233,234,235,236,237,238,242,244,246,247,249,250,251,252,253,257,258,260,261,263,264,265,266,267,268,269,270,271,272,273,274,275,277,278,279,280,281,282,283,284,285,286,287,290,294,295,296,297,298,299,300,301,302,303,306,307,308,309,310,313,314,315,316,317,318,320,321,322,323,324,325,326,327,328,329,330,331,332,335,336,338,339,341,343,344,345,346,347,348,349,350,351,354,355,356,357,358,359,360,368] (gp (.slice none 0 0) [22,25,41,43,74,101,151,153,183,222,243,259,262,333] (gp (.pointer none) [15,16,17,31,58,112,147,167,202,239,276,337,352] (gp (.agg #[.slice none 0 0]) [23,24,28,29,45,46] (gp (.agg #[.string ⟨#[]⟩,.string ⟨#[]⟩,.string ⟨#[]⟩,.string ⟨#[]⟩,.string ⟨#[]⟩,.string ⟨#[]⟩,.bool false]) [76,77,81,82,84,85] (gp (.agg #[.string ⟨#[]⟩,.string ⟨#[]⟩,.string ⟨#[]⟩,.string ⟨#[]⟩,.string ⟨#[]⟩,.string ⟨#[]⟩]) [56,57,185,186,216] (gp (.int .i64 0) [2,3,38,304] (gp (.int .u8 0) [5,6,366,367] (gp (.int .u64 0) [12,48,113,334] (gp (.agg #[.nilFunc,.pointer none]) [32,33,34,35] (gp (.agg #[]) [114,363,364,365] (gp (.string ⟨#[]⟩) [9,10,11] (gp (.nilIface) [20,205,206] (gp (.int .i32 0) [21,369,370] (gp (.agg #[.string ⟨#[]⟩,.string ⟨#[]⟩]) [51,52,215] (gp (.agg #[.string ⟨#[]⟩,.string ⟨#[]⟩,.string ⟨#[]⟩]) [53,54,55] (gp (.agg #[.int .u8 0,.int .u8 0,.int .u8 0]) [89,90,111] (gp (.agg #[.int .i64 0,.int .i64 0,.bool false,.int .u8 0]) [7,8] (gp (.agg #[.string ⟨#[]⟩,.int .u64 0]) [13,14] (gp (.agg #[.pointer none]) [18,19] (gp (.agg #[.slice none 0 0,.slice none 0 0]) [26,27] (gp (.agg #[.nilFunc,.pointer none,.nilFunc,.pointer none]) [36,37] (gp (.agg #[.slice none 0 0,.int .i64 0,.int .i64 0,.int .i64 0]) [119,120] (gp (.agg #[.string ⟨#[]⟩,.string ⟨#[]⟩,.string ⟨#[]⟩,.string ⟨#[]⟩,.string ⟨#[]⟩,.string ⟨#[]⟩,.pointer none,.pointer none,.int .i64 0,.int .i64 0]) [200,201] (gp (.agg #[.pointer none,.slice none 0 0]) [203,204] (gp (.agg #[.slice none 0 0,.int .i64 0]) [223,224] (gp (.agg #[.int .u64 0,.map none,.slice none 0 0,.int .i64 0]) [225,226] (gp (.agg #[.pointer none,.int .i64 0]) [240,241] (gp (.agg #[.slice none 0 0,.string ⟨#[]⟩,.string ⟨#[]⟩,.string ⟨#[]⟩,.string ⟨#[]⟩,.string ⟨#[]⟩,.string ⟨#[]⟩,.bool false,.int .i64 0]) [255,256] (gp (.agg #[.int .u64 0,.int .i64 0]) [288,289] (gp (.agg #[.int .i64 0,.int .i64 0]) [291,292] (gp (.agg #[.pointer none,.pointer none,.pointer none,.string ⟨#[]⟩]) [361,362] (gp (.agg #[.int .u64 0,.int .u64 0,.int .u32 0,.int .u8 0,.int .u8 0,.int .u8 0,.int .u8 0,.nilFunc,.pointer none,.int .i32 0,.int .i32 0]) [371,372] (gp (.bool false) [4] (gp (.agg #[.int .u8 0,.int .u8 0]) [88] (gp (.agg #[.string ⟨#[]⟩,.string ⟨#[]⟩,.string ⟨#[]⟩,.string ⟨#[]⟩,.string ⟨#[]⟩,.string ⟨#[]⟩,.bool false,.string ⟨#[]⟩,.string ⟨#[]⟩,.string ⟨#[]⟩,.string ⟨#[]⟩,.string ⟨#[]⟩,.string ⟨#[]⟩,.bool false]) [166] (gp (.agg #[.pointer none,.string ⟨#[]⟩]) [168] (gp (.agg #[.pointer none,.string ⟨#[]⟩,.pointer none,.string ⟨#[]⟩,.pointer none,.string ⟨#[]⟩]) [169] (gp (.map none) [221] (gp (.int .u32 0) [311] [])))))))))))))))))))))))))))))))))))))))
def fnL:List (Nat×Unit):=gp () [3,4,5,6,7,8,9,10,11,12,13,14,15,16,17,18,19,20,21,22,23,24,25,26,27,28,29,30,31,32,33,34,35,36,37,38,39,40,41,42,43,44,45,46,47,48,49,50,51,52,53,54,55,56,57,58,59,60,61,62,63,64,65,66,67,68,69,70,71,72,73,74,75,76,77,78,79,80,81,82,83,84,85,86,87,88,89,90,91,92,93,94,95,96,97,98,99,100,101,102,103,104,105,106,107,108,109,110,111,112,113,114,115,116,117,118,119,120,122,123,124,125,126,127,128,129,130,131,132,133,134,135,136,137,138,139,140,141,142,143,144,145,146,147,148,149,150,151,152,153,154,155,156,157,158,159,160,161,162,163,164,165,166,167,168,169,171,172,173,174,175,176,177,178,179,180,181,182,183,184,186,187,188,189,190,191,193,194,195,196,197,198,199,200,201,202,203,204,205,206,207,208,209,210,211,212,213,214,215,216,217,218,219,220,221,222,223,224,225,227,228,229,230,231,232,233,238,241,242,244,245,246,247,248,249,250,251,252,253,254,256,257,258,259,260,261,262,263,264,265,266,267,268,271,272,273,274,275,276,277,278,279,280,281,282,283,284,285,286,287,288,289,290,291,292,293,294,295,296] []
def zle:ldL.all (fun p=>ldI zti p.1 == some p.2)=true:=J
def zke:slL.all (fun p=>slI zti p.1 == some p.2)=true:=J
def zkc:stL.all (fun p=>stI zti p.1 == some p.2)=true:=J
def zlm:foL.all (fun p=>foI zti p.1 == some p.2)=true:=J
def zjs:zrL.map (fun p=>zrI zti p.1)=zrL.map (fun p=>some p.2):=J
def zln: fnL.all (fun p => match Tryz.prog.funcs[p.1]? with | some fn => fn.body.isSome && fn.name != "runtime.NumGoroutine" | none => false) = true := by kernel_rfl
def L:Tabs zti:=⟨ldL,slL,stL,foL,zrL,fnL,zle,zke,zkc,zlm,zjs,zln⟩
def el5:elI zti 5=some (1,1):=J
def zo7:elI zti 37=some (4,32):=J
def zjm:elI zti 48=some (1,8):=J
def zik:elI zti 57=some (6,96):=J
def zml:elI zti 77=some (7,104):=J
def zlo:elI zti 186=some (6,104):=J
def M1:elI zti 289=some (2,16):=J
def zov:PL zti 33 [(0,1),(1,1)] [.nilFunc,.pointer none]:=⟨by kernel_rfl,.agg #[.nilFunc,.pointer none],by kernel_rfl,rfl⟩
def zou:PL zti 35 [(0,2)] [.nilFunc,.pointer none]:=⟨by kernel_rfl,.agg #[.nilFunc,.pointer none],by kernel_rfl,rfl⟩
def zm5:PL zti 37 [(0,2),(2,2)] [.nilFunc,.pointer none,.nilFunc,.pointer none]:=⟨by kernel_rfl,.agg #[.nilFunc,.pointer none,.nilFunc,.pointer none],by kernel_rfl,rfl⟩
def zn4:PL zti 52 [(0,1),(1,1)] [.string ⟨#[]⟩,.string ⟨#[]⟩]:=⟨by kernel_rfl,.agg #[.string ⟨#[]⟩,.string ⟨#[]⟩],by kernel_rfl,rfl⟩
def zn3:PL zti 54 [(0,2),(2,1)] [.string ⟨#[]⟩,.string ⟨#[]⟩,.string ⟨#[]⟩]:=⟨by kernel_rfl,.agg #[.string ⟨#[]⟩,.string ⟨#[]⟩,.string ⟨#[]⟩],by kernel_rfl,rfl⟩
def zot:PL zti 55 [(0,2),(2,1)] [.string ⟨#[]⟩,.string ⟨#[]⟩,.string ⟨#[]⟩]:=⟨by kernel_rfl,.agg #[.string ⟨#[]⟩,.string ⟨#[]⟩,.string ⟨#[]⟩],by kernel_rfl,rfl⟩
def zn2:PL zti 57 [(0,3),(3,3)] [.string ⟨#[]⟩,.string ⟨#[]⟩,.string ⟨#[]⟩,.string ⟨#[]⟩,.string ⟨#[]⟩,.string ⟨#[]⟩]:=⟨by kernel_rfl,.agg #[.string ⟨#[]⟩,.string ⟨#[]⟩,.string ⟨#[]⟩,.string ⟨#[]⟩,.string ⟨#[]⟩,.string ⟨#[]⟩],by kernel_rfl,rfl⟩
def zn1:PL zti 77 [(0,6),(6,1)] [.string ⟨#[]⟩,.string ⟨#[]⟩,.string ⟨#[]⟩,.string ⟨#[]⟩,.string ⟨#[]⟩,.string ⟨#[]⟩,.bool false]:=⟨by kernel_rfl,.agg #[.string ⟨#[]⟩,.string ⟨#[]⟩,.string ⟨#[]⟩,.string ⟨#[]⟩,.string ⟨#[]⟩,.string ⟨#[]⟩,.bool false],by kernel_rfl,rfl⟩
def zmi:PL zti 82 [(0,6),(6,1)] [.string ⟨#[]⟩,.string ⟨#[]⟩,.string ⟨#[]⟩,.string ⟨#[]⟩,.string ⟨#[]⟩,.string ⟨#[]⟩,.bool false]:=⟨by kernel_rfl,.agg #[.string ⟨#[]⟩,.string ⟨#[]⟩,.string ⟨#[]⟩,.string ⟨#[]⟩,.string ⟨#[]⟩,.string ⟨#[]⟩,.bool false],by kernel_rfl,rfl⟩
def zos:PL zti 85 [(0,1),(1,1),(2,1),(3,3),(6,1)] [.string ⟨#[]⟩,.string ⟨#[]⟩,.string ⟨#[]⟩,.string ⟨#[]⟩,.string ⟨#[]⟩,.string ⟨#[]⟩,.bool false]:=⟨by kernel_rfl,.agg #[.string ⟨#[]⟩,.string ⟨#[]⟩,.string ⟨#[]⟩,.string ⟨#[]⟩,.string ⟨#[]⟩,.string ⟨#[]⟩,.bool false],by kernel_rfl,rfl⟩
def zn0:PL zti 88 [(0,1),(1,1)] [.int .u8 0,.int .u8 0]:=⟨by kernel_rfl,.agg #[.int .u8 0,.int .u8 0],by kernel_rfl,rfl⟩
def zkp:PL zti 114 [] []:=⟨by kernel_rfl,.agg #[],by kernel_rfl,rfl⟩
def znc:PL zti 120 [(0,1),(1,1),(2,1),(3,1)] [.slice none 0 0,.int .i64 0,.int .i64 0,.int .i64 0]:=⟨by kernel_rfl,.agg #[.slice none 0 0,.int .i64 0,.int .i64 0,.int .i64 0],by kernel_rfl,rfl⟩
def zko:PL zti 186 [(0,6),(6,0)] [.string ⟨#[]⟩,.string ⟨#[]⟩,.string ⟨#[]⟩,.string ⟨#[]⟩,.string ⟨#[]⟩,.string ⟨#[]⟩]:=⟨by kernel_rfl,.agg #[.string ⟨#[]⟩,.string ⟨#[]⟩,.string ⟨#[]⟩,.string ⟨#[]⟩,.string ⟨#[]⟩,.string ⟨#[]⟩],by kernel_rfl,rfl⟩
def znb:PL zti 201 [(0,6),(6,1),(7,1),(8,1),(9,1)] [.string ⟨#[]⟩,.string ⟨#[]⟩,.string ⟨#[]⟩,.string ⟨#[]⟩,.string ⟨#[]⟩,.string ⟨#[]⟩,.pointer none,.pointer none,.int .i64 0,.int .i64 0]:=⟨by kernel_rfl,.agg #[.string ⟨#[]⟩,.string ⟨#[]⟩,.string ⟨#[]⟩,.string ⟨#[]⟩,.string ⟨#[]⟩,.string ⟨#[]⟩,.pointer none,.pointer none,.int .i64 0,.int .i64 0],by kernel_rfl,rfl⟩
def zna:PL zti 215 [(0,1),(1,1)] [.string ⟨#[]⟩,.string ⟨#[]⟩]:=⟨by kernel_rfl,.agg #[.string ⟨#[]⟩,.string ⟨#[]⟩],by kernel_rfl,rfl⟩
def zm9:PL zti 216 [(0,2),(2,2),(4,2)] [.string ⟨#[]⟩,.string ⟨#[]⟩,.string ⟨#[]⟩,.string ⟨#[]⟩,.string ⟨#[]⟩,.string ⟨#[]⟩]:=⟨by kernel_rfl,.agg #[.string ⟨#[]⟩,.string ⟨#[]⟩,.string ⟨#[]⟩,.string ⟨#[]⟩,.string ⟨#[]⟩,.string ⟨#[]⟩],by kernel_rfl,rfl⟩
def zm8:PL zti 224 [(0,1),(1,1)] [.slice none 0 0,.int .i64 0]:=⟨by kernel_rfl,.agg #[.slice none 0 0,.int .i64 0],by kernel_rfl,rfl⟩
def zkn:PL zti 226 [(0,1),(1,1),(2,2)] [.int .u64 0,.map none,.slice none 0 0,.int .i64 0]:=⟨by kernel_rfl,.agg #[.int .u64 0,.map none,.slice none 0 0,.int .i64 0],by kernel_rfl,rfl⟩
def zm7:PL zti 241 [(0,1),(1,1)] [.pointer none,.int .i64 0]:=⟨by kernel_rfl,.agg #[.pointer none,.int .i64 0],by kernel_rfl,rfl⟩
def zkm:PL zti 289 [(0,1),(1,1)] [.int .u64 0,.int .i64 0]:=⟨by kernel_rfl,.agg #[.int .u64 0,.int .i64 0],by kernel_rfl,rfl⟩
def zm6:PL zti 292 [(0,1),(1,1)] [.int .i64 0,.int .i64 0]:=⟨by kernel_rfl,.agg #[.int .i64 0,.int .i64 0],by kernel_rfl,rfl⟩
def bt4:zti.underlying 4=some .bool:=J
def zox:nkI zti 30=some 3:=J
def zne:nkI zti 31=some 0:=J
def zn6:nkI zti 43=some 1:=J
def zo5:EqT zti 52 [0,0]:=⟨by kernel_rfl,by kernel_rfl,by kernel_rfl⟩
def zoa:EqT zti 54 [0,0,0]:=⟨by kernel_rfl,by kernel_rfl,by kernel_rfl⟩
def zmk:EqT zti 55 [0,0,0]:=⟨by kernel_rfl,by kernel_rfl,by kernel_rfl⟩
def znk:EqT zti 57 [0,0,0,0,0,0]:=⟨by kernel_rfl,by kernel_rfl,by kernel_rfl⟩
def zow:nkI zti 58=some 0:=J
def zn5:nkI zti 74=some 1:=J
def zhz:nkI zti 112=some 0:=J
def zk2:nkI zti 147=some 0:=J
def zk1:nkI zti 202=some 0:=J
def zk0:nkI zti 222=some 1:=J
def znl:EqT zti 289 [1,1]:=⟨by kernel_rfl,by kernel_rfl,by kernel_rfl⟩
def cj:(zti.underlying 3).isSome=true/\ikI zti 48=some .u64:=⟨by kernel_rfl,by kernel_rfl⟩
def jx:(zti.underlying 3).isSome=true/\ikI zti 113=some .u64:=⟨by kernel_rfl,by kernel_rfl⟩
def zap:(zti.underlying 3).isSome=true/\ikI zti 334=some .u64:=⟨by kernel_rfl,by kernel_rfl⟩
def zec:(zti.underlying 5).isSome=true/\ikI zti 3=some .i64:=⟨by kernel_rfl,by kernel_rfl⟩
def oq:(zti.underlying 5).isSome=true/\ikI zti 48=some .u64:=⟨by kernel_rfl,by kernel_rfl⟩
def Rs:(zti.underlying 48).isSome=true/\ikI zti 5=some .u8:=⟨by kernel_rfl,by kernel_rfl⟩
def jy:(zti.underlying 113).isSome=true/\ikI zti 3=some .i64:=⟨by kernel_rfl,by kernel_rfl⟩
def zob:arI zti 88=some (2,5):=J
def znp:arI zti 111=some (3,5):=J
def zno:arI zti 215=some (2,9):=J
def Be:arI zti 216=some (3,215):=J
end Go.V
section
open Go.V
attribute [local irreducible] Has N Par Ret RetL Src StepOK V VO X
namespace Go.V
structure _root_.Wr(B:Prop):Prop where
 h:B
def _root_.Za(t:Wr Y->A:=by intro h;refine z7 (z9 Z Z Z) Z ?_;exact h.1)(h:Y):A:=t ⟨h⟩
def _root_.Zo(t:Wr Y->A:=by intro h;refine z7 (zh Z Z Z) Z ?_;exact h.1)(h:Y):A:=t ⟨h⟩
def _root_.Ze(t:Wr Y->A:=by intro h;refine zj ?_;exact h.1)(h:Y):A:=t ⟨h⟩
def _root_.Zbi(t:Wr Y->A:=by intro h;refine zk ?_;exact h.1)(h:Y):A:=t ⟨h⟩
def _root_.Zac(t:Wr Y->A:=by intro h;refine zi ?_;exact h.1)(h:Y):A:=t ⟨h⟩
def _root_.Zfk(t:Wr Y->A:=by intro h;refine z7 (zn Z (zm Z) Z) Z ?_;exact h.1)(h:Y):A:=t ⟨h⟩
def _root_.ZN(t:Wr Y->A:=by intro h;refine z7 (qw Z Z Z Z (nf T)) Z ?_;exact h.1)(h:Y):A:=t ⟨h⟩
def _root_.Zh(t:Wr Y->A:=by intro h;refine z7 (qm Z Z Z Z) Z ?_;exact h.1)(h:Y):A:=t ⟨h⟩
def _root_.ZeG(t:Wr Y->A:=by intro h;refine zz Z ?_;exact h.1)(h:Y):A:=t ⟨h⟩
def _root_.Zfl(t:Wr Y->A:=by intro h;refine ze (id:=0) ?_;exact h.1)(h:Y):A:=t ⟨h⟩
def _root_.ZaI(t:Wr Y->A:=by intro h;refine z7 (ya Z Z Z Z (xb T T)) Z ?_;exact h.1)(h:Y):A:=t ⟨h⟩
def _root_.ZJ(t:Wr Y->A:=by intro h;refine z7 (qw Z Z Z Z (ng T)) Z ?_;exact h.1)(h:Y):A:=t ⟨h⟩
def _root_.ZeH(t:Wr Y->A:=by intro h;refine ql Z ?_;exact h.1)(h:Y):A:=t ⟨h⟩
def _root_.ZE(t:Wr Y->A:=by intro h;refine ze (id:=1) ?_;exact h.1)(h:Y):A:=t ⟨h⟩
def _root_.Zda(t:Wr Y->A:=by intro h;refine qf ?_;exact h.1)(h:Y):A:=t ⟨h⟩
def _root_.Z9(t:Wr Y->A:=by intro h;refine ze (id:=2) ?_;exact h.1)(h:Y):A:=t ⟨h⟩
def _root_.ZK(t:Wr Y->A:=by intro h;refine ze (id:=3) ?_;exact h.1)(h:Y):A:=t ⟨h⟩
def _root_.Z2(t:Wr Y->A:=by intro h;refine ze (id:=4) ?_;exact h.1)(h:Y):A:=t ⟨h⟩
def _root_.Zam(t:Wr Y->A:=by intro h;refine qn ?_;exact h.1)(h:Y):A:=t ⟨h⟩
def _root_.ZL(t:Wr Y->A:=by intro h;refine z7 (yv Z Z Z Z (ng T)) Z ?_;exact h.1)(h:Y):A:=t ⟨h⟩
def _root_.Zs(t:Wr Y->A:=by intro h;refine ze (id:=6) ?_;exact h.1)(h:Y):A:=t ⟨h⟩
def _root_.Zt(t:Wr Y->A:=by intro h;refine ze (id:=5) ?_;exact h.1)(h:Y):A:=t ⟨h⟩
def _root_.ZO(t:Wr Y->A:=by intro h;refine z7 (yv Z Z Z Z (nf T)) Z ?_;exact h.1)(h:Y):A:=t ⟨h⟩
def _root_.ZC(t:Wr Y->A:=by intro h;refine ze (id:=7) ?_;exact h.1)(h:Y):A:=t ⟨h⟩
def _root_.ZdZ(t:Wr Y->A:=by intro h;refine ye ?_;exact h.1)(h:Y):A:=t ⟨h⟩
def _root_.Za7(t:Wr Y->A:=by intro h;refine yg ?_;exact h.1)(h:Y):A:=t ⟨h⟩
def _root_.Zv(t:Wr Y->A:=by intro h;refine ze (id:=8) ?_;exact h.1)(h:Y):A:=t ⟨h⟩
def _root_.ZM(t:Wr Y->A:=by intro h;refine ze (id:=9) ?_;exact h.1)(h:Y):A:=t ⟨h⟩
def _root_.Zad(t:Wr Y->A:=by intro h;refine z7 (zht L Z Z Z Z) Z ?_;exact h.1)(h:Y):A:=t ⟨h⟩
def _root_.Zel(t:Wr Y->A:=by intro h;refine x8 ?_;exact h.1)(h:Y):A:=t ⟨h⟩
def _root_.ZfE(t:Wr Y->A:=by intro h;refine yz ?_;exact h.1)(h:Y):A:=t ⟨h⟩
def _root_.Zbr(t:Wr Y->A:=by intro h;refine z7 (Md L Z Z Z M) Z ?_;exact h.1)(h:Y):A:=t ⟨h⟩
def _root_.ZF(t:Wr Y->A:=by exact fun h=>(Zac∘Zbi) h.1)(h:Y):A:=t ⟨h⟩
def _root_.Zi(t:Wr Y->A:=by exact fun h=>(ZF∘Ze) h.1)(h:Y):A:=t ⟨h⟩
def _root_.Zd(t:Wr Y->A:=by exact fun h=>(Zo∘Zi) h.1)(h:Y):A:=t ⟨h⟩
def _root_.Zb(t:Wr Y->A:=by exact fun h=>(Za∘Za) h.1)(h:Y):A:=t ⟨h⟩
def _root_.Zbz(t:Wr Y->A:=by exact fun h=>(Zbi∘Ze) h.1)(h:Y):A:=t ⟨h⟩
def _root_.ZaL(t:Wr Y->A:=by exact fun h=>(ZF∘ZeG) h.1)(h:Y):A:=t ⟨h⟩
def _root_.Zaf(t:Wr Y->A:=by exact fun h=>(Zda∘Zbz) h.1)(h:Y):A:=t ⟨h⟩
def _root_.ZP(t:Wr Y->A:=by exact fun h=>(Ze∘Zfl) h.1)(h:Y):A:=t ⟨h⟩
def _root_.Zc(t:Wr Y->A:=by exact fun h=>(Zo∘ZF) h.1)(h:Y):A:=t ⟨h⟩
def _root_.Zw(t:Wr Y->A:=by exact fun h=>(ZF∘ZeH) h.1)(h:Y):A:=t ⟨h⟩
def _root_.Zj(t:Wr Y->A:=by exact fun h=>(Zd∘Ze) h.1)(h:Y):A:=t ⟨h⟩
def _root_.ZH(t:Wr Y->A:=by exact fun h=>(Zam∘Ze) h.1)(h:Y):A:=t ⟨h⟩
def _root_.Zm(t:Wr Y->A:=by exact fun h=>(ZaL∘Zaf) h.1)(h:Y):A:=t ⟨h⟩
def _root_.ZD(t:Wr Y->A:=by exact fun h=>(Zw∘Ze) h.1)(h:Y):A:=t ⟨h⟩
def _root_.Zb0(t:Wr Y->A:=by exact fun h=>(Zfk∘Zfk) h.1)(h:Y):A:=t ⟨h⟩
def _root_.Zdk(t:Wr Y->A:=by exact fun h=>(ZdZ∘ZfE) h.1)(h:Y):A:=t ⟨h⟩
def _root_.Zea(t:Wr Y->A:=by exact fun h=>(Zel∘ZdZ) h.1)(h:Y):A:=t ⟨h⟩
def _root_.Zd3(t:Wr Y->A:=by exact fun h=>(Zaf∘ZH) h.1)(h:Y):A:=t ⟨h⟩
def _root_.ZaD(t:Wr Y->A:=by exact fun h=>(Zea∘Zdk) h.1)(h:Y):A:=t ⟨h⟩
def _root_.ZaE(t:Wr Y->A:=by exact fun h=>(Za7∘Zbi) h.1)(h:Y):A:=t ⟨h⟩
def _root_.ZG(t:Wr Y->A:=by exact fun h=>(Zj∘ZE) h.1)(h:Y):A:=t ⟨h⟩
def _root_.Zf4(t:Wr Y->A:=by exact fun h=>(Zi∘ZeH) h.1)(h:Y):A:=t ⟨h⟩
def _root_.ZfF(t:Wr Y->A:=by exact fun h=>(ZN∘Zf4) h.1)(h:Y):A:=t ⟨h⟩
def _root_.Z6(t:Wr Y->A:=by exact fun h=>(ZfF∘Zd3) h.1)(h:Y):A:=t ⟨h⟩
def _root_.ZA(t:Wr Y->A:=by exact fun h=>(ZK∘Za) h.1)(h:Y):A:=t ⟨h⟩
def _root_.Zae(t:Wr Y->A:=by exact fun h=>(ZaL∘Zda) h.1)(h:Y):A:=t ⟨h⟩
def _root_.Zfm(t:Wr Y->A:=by exact fun h=>(ZaD∘Zbz) h.1)(h:Y):A:=t ⟨h⟩
def _root_.ZU(t:Wr Y->A:=by exact fun h=>(Zt∘Za) h.1)(h:Y):A:=t ⟨h⟩
def _root_.Z1(t:Wr Y->A:=by exact fun h=>(Zm∘Ze) h.1)(h:Y):A:=t ⟨h⟩
def _root_.ZcE(t:Wr Y->A:=by exact fun h=>(Za∘Zb0) h.1)(h:Y):A:=t ⟨h⟩
def _root_.Z3(t:Wr Y->A:=by exact fun h=>(Zb∘Za) h.1)(h:Y):A:=t ⟨h⟩
def _root_.Zc1(t:Wr Y->A:=by exact fun h=>(Za∘Zac) h.1)(h:Y):A:=t ⟨h⟩
def _root_.ZaF(t:Wr Y->A:=by exact fun h=>(Zfk∘Zh) h.1)(h:Y):A:=t ⟨h⟩
def _root_.ZX(t:Wr Y->A:=by exact fun h=>(ZaI∘Zc1) h.1)(h:Y):A:=t ⟨h⟩
def _root_.Zba(t:Wr Y->A:=by exact fun h=>(ZG∘Za) h.1)(h:Y):A:=t ⟨h⟩
def _root_.Zdl(t:Wr Y->A:=by exact fun h=>(ZF∘Zam) h.1)(h:Y):A:=t ⟨h⟩
def _root_.Zf5(t:Wr Y->A:=by exact fun h=>(Zi∘ZeG) h.1)(h:Y):A:=t ⟨h⟩
def _root_.Zch(t:Wr Y->A:=by exact fun h=>(Zae∘ZaE) h.1)(h:Y):A:=t ⟨h⟩
def _root_.Zf6(t:Wr Y->A:=by exact fun h=>(ZJ∘Zf5) h.1)(h:Y):A:=t ⟨h⟩
def _root_.Zav(t:Wr Y->A:=by exact fun h=>(Zf6∘Zfm) h.1)(h:Y):A:=t ⟨h⟩
def _root_.Zaz(t:Wr Y->A:=by exact fun h=>(ZcE∘Zb0) h.1)(h:Y):A:=t ⟨h⟩
def _root_.ZcI(t:Wr Y->A:=by exact fun h=>(Ze∘Z2) h.1)(h:Y):A:=t ⟨h⟩
def _root_.ZaW(t:Wr Y->A:=by exact fun h=>(Za∘Zdl) h.1)(h:Y):A:=t ⟨h⟩
def _root_.Zbb(t:Wr Y->A:=by exact fun h=>(Zh∘ZD) h.1)(h:Y):A:=t ⟨h⟩
def _root_.ZbK(t:Wr Y->A:=by exact fun h=>(Zh∘Zch) h.1)(h:Y):A:=t ⟨h⟩
def _root_.ZbT(t:Wr Y->A:=by exact fun h=>(ZP∘Zba) h.1)(h:Y):A:=t ⟨h⟩
def _root_.ZbU(t:Wr Y->A:=by exact fun h=>(ZcE∘ZaF) h.1)(h:Y):A:=t ⟨h⟩
def _root_.Zci(t:Wr Y->A:=by exact fun h=>(ZcI∘Z6) h.1)(h:Y):A:=t ⟨h⟩
def _root_.Zcj(t:Wr Y->A:=by exact fun h=>(ZD∘Z9) h.1)(h:Y):A:=t ⟨h⟩
def check_ret(s:ByteArray)(hs:s.size<=9223372036854775807)(hB:zth B w):
  Ret zti 126 [.string s] w B (fun v _=>v=.int .i64 (chk s)):=by
 refine yn Tryz.func126 Z Tryz.ntmps126 (np Z) hB ?_;by_cases h1:1<=s.size
 ·by_cases h2:s.size<=16
  ·refine(ZbT∘Zad∘ZJ∘Zb∘Zad∘ZL∘Zh∘Z1∘ZA∘Zad∘ZaW) ?_
   refine xm (fun k:Nat=>[(0,.is (.string s)),(13,.is (.int .i64 s.size)),(14,.is (.int .i64 k))])
    (fun k=>k<=s.size/\(s.data.toList.take k).all okB=true) (fun k=>s.size-k) 0 ⟨mc _,by simp⟩ ⟨rfl,rfl,rfl,nm⟩ ?_
   rintro k ⟨hk,hall⟩;by_cases hlt:k<s.size
   ·obtain⟨c,hc⟩:=getElem?_lt hlt;have hu:=zjv c;by_cases a1:(c.toNat:Int)<97
    ·by_cases a2:(c.toNat:Int)<48
     ·refine(Zci∘ZU∘Zd∘Zs∘Zb∘Zbr∘ZN∘Zaz∘Zh∘Z3∘Zbr∘ZN∘Zaz∘Zh∘Zbb∘ZC∘Zc) ?_;refine yj1 L [.tmp 2] fun u H hH hle=>?_;exact nh _ (Fx hc (zkx a1 a2)).symm
     ·by_cases a3:57<(c.toNat:Int)
      ·refine(Zci∘ZU∘Zd∘Zs∘Zb∘Zbr∘ZN∘Zaz∘Zh∘Z3∘Zbr∘ZJ∘Z3∘Zbr∘ZO∘Zh∘Zbb∘ZC∘Zc) ?_;refine yj1 L [.tmp 2] fun u H hH hle=>?_;exact nh _ (Fx hc (zkw a1 a3)).symm
      ·refine(Zci∘ZU∘Zd∘Zs∘Zb∘Zbr∘ZN∘Zaz∘Zh∘Z3∘Zbr∘ZJ∘Z3∘Zbr∘ZL∘Zh∘ZbK∘Zv∘ZX) ?_;refine ym (k+1) ⟨hlt,Bi hc (zkt a2 a3) hall⟩ T ⟨Z,Z,Z,nm⟩
    ·by_cases a4:122<(c.toNat:Int)
     ·have a5:57<(c.toNat:Int):=T;refine(Zci∘ZU∘Zd∘Zs∘Zb∘Zbr∘ZJ∘Z3∘Zbr∘ZO∘Zh∘Z3∘Zbr∘ZJ∘Z3∘Zbr∘ZO∘Zh∘Zbb∘ZC∘Zc) ?_;refine yj1 L [.tmp 2] fun u H hH hle=>?_;exact nh _ (Fx hc (zkv a4)).symm
     ·refine(Zci∘ZU∘Zd∘Zs∘Zb∘Zbr∘ZJ∘Z3∘Zbr∘ZL∘Zh∘Zaz∘Zb0∘Zb0∘Zb0∘ZbK∘Zv∘ZX) ?_;refine ym (k+1) ⟨hlt,Bi hc (zku a1 a4) hall⟩ T ⟨Z,Z,Z,nm⟩
   ·refine(ZcI∘Zav∘ZM∘Zc) ?_;refine yj1 L [.tmp 2] fun u H hH hle=>?_;exact nh _ (za2 h1 h2 (Sg T hall)).symm
  ·refine(ZbT∘Zad∘ZJ∘Zb∘Zad∘ZO∘Zbb∘Z9∘Zc) ?_;refine yj1 L [.tmp 2] fun u H hH hle=>?_;exact nh _ (Pn T).symm
 ·refine(ZbT∘Zad∘ZN∘ZbU∘Zcj∘Zc) ?_;refine yj1 L [.tmp 2] fun u H hH hle=>?_;exact nh _ (Pn T).symm
def _root_.Zk(t:Wr Y->A:=by intro h;refine z7 (qb Z Z Z) Z ?_;exact h.1)(h:Y):A:=t ⟨h⟩
def _root_.Zcv(t:Wr Y->A:=by intro h;refine z7 (yk L Z Z Z Z) Z ?_;exact h.1)(h:Y):A:=t ⟨h⟩
def _root_.Zau(t:Wr Y->A:=by intro h;refine z7 (yf L _ Z Z Z Z (by first | omega | decide) M) Z ?_;exact h.1)(h:Y):A:=t ⟨h⟩
def _root_.Zaq(t:Wr Y->A:=by intro h;refine z7 (Dc Z Z Z Z (ng T)) Z ?_;exact h.1)(h:Y):A:=t ⟨h⟩
def _root_.ZcN(t:Wr Y->A:=by intro h;refine z7 (Dc Z Z Z Z (nf T)) Z ?_;exact h.1)(h:Y):A:=t ⟨h⟩
def _root_.ZcO(t:Wr Y->A:=by intro h;refine z7 (Mc L Z Z Z Z Z) Z ?_;exact h.1)(h:Y):A:=t ⟨h⟩
def _root_.ZeI(t:Wr Y->A:=by intro h;refine z71 L Z (fun u H hH _=>check_ret _ (by first | omega | decide) hH) ?_;exact h.1)(h:Y):A:=t ⟨h⟩
def _root_.Zg(t:Wr Y->A:=by exact fun h=>(Zk∘Zcv) h.1)(h:Y):A:=t ⟨h⟩
def _root_.Z0(t:Wr Y->A:=by exact fun h=>(Z2∘Za) h.1)(h:Y):A:=t ⟨h⟩
def _root_.ZQ(t:Wr Y->A:=by exact fun h=>(Zs∘Za) h.1)(h:Y):A:=t ⟨h⟩
def _root_.ZaO(t:Wr Y->A:=by exact fun h=>(ZcN∘ZD) h.1)(h:Y):A:=t ⟨h⟩
def _root_.Zb6(t:Wr Y->A:=by exact fun h=>(Zd∘ZU) h.1)(h:Y):A:=t ⟨h⟩
def u5:List ByteArray->Int
 | []=>0
 | s::l=>if chk s=0 then u5 l else chk s
def Nb:∀ (l:List ByteArray) (s:ByteArray),u5 l=0->u5 (l++[s])=chk s
 | [],s,_=>by simp only[mi,u5];split<;>simp_all
 | x::l,s,h=>by
  simp only[zpq,u5] at h |-;by_cases hx:chk x=0
  ·rw[na hx] at h |-;exact Nb l s h
  ·rw[nc hx] at h;exact ni h hx
def Si:∀ (l:List ByteArray) (k:Nat) (s:ByteArray),u5 (l.take k)=0->l[k]?=some s->chk s≠0->u5 l=chk s
 | [],k,s,_,h,_=>by simp at h
 | x::l,0,s,_,h,hc=>by simp at h;subst h;simp [u5,hc]
 | x::l,k+1,s,ha,h,hc=>by
  simp only[zq8,u5] at ha;simp only[zqm] at h;by_cases hx:chk x=0
  ·rw[na hx] at ha;simp only[u5,na hx];exact Si l k s ha h hc
  ·rw[nc hx] at ha;exact ni ha hx
def zbe(l:List ByteArray)(hl:∀ s∈l,s.size<=9223372036854775807)(hlen:l.length<=1000){v:Value}(hB:zth B w)(hv:SlV e 1 (l.map Value.string) l.length fu v B):
  Ret zti 188 [v] w B (fun v _=>v=.int .i64 (u5 l)):=by
 refine yn Tryz.func188 Z Tryz.ntmps188 (np Z) hB (k8 0 (SlV e 1 (l.map Value.string) l.length fu) Z ns hv ((ZP∘ZG∘Zg∘ZaW) ?_))
 refine xm (fun k:Nat=>[(6,.sat (SlV e 1 (l.map Value.string) l.length fu)),(7,.is (.int .i64 l.length)),(8,.is (.int .i64 k))])
  (fun k=>k<=l.length/\u5 (l.take k)=0) (fun k=>l.length-k) 0 ⟨mc _,by simp [u5]⟩ ⟨rfl,rfl,rfl,nm⟩ ?_
 rintro k ⟨hk,hall⟩;by_cases hlt:k<l.length
 ·have hs:l[k]?=some l[k]:=zpt hlt;generalize l[k]=s at hs;have hsz:s.size<=9223372036854775807:=hl s (zpa hs);have hc:=zkb hs;by_cases h0:chk s=0
  ·refine(Ze∘Z9∘Z6∘ZK∘Zau∘ZcO∘Zd∘Z0∘ZeI∘Zb6∘Zaq∘Zch∘ZC∘ZX) ?_;refine ym (k+1) ⟨hlt,?_⟩ T ⟨Z,Z,Z,nm⟩;rw[zpj,hs];show u5 (l.take k++[s])=0;rw[Nb _ _ hall,h0]
  ·refine(Ze∘Z9∘Z6∘ZK∘Zau∘ZcO∘Zd∘Z0∘ZeI∘Zb6∘ZaO∘ZQ∘Zc) ?_;refine yj1 L [.tmp 2] fun u H hH hle=>?_;exact nh _ (Si l k s hall hs h0).symm
 ·refine(Ze∘Z9∘Zav∘Zv∘Zc) ?_;refine yj1 L [.tmp 2] fun u H hH hle=>?_;have:l.take k=l:=zpf T;exact nh _ (this ▸ hall).symm
end Go.V
end
namespace Go.Proofs
open Go.Shelf
def Tryz.ren:Go.Shelf.Ren:=⟨fun | 104=>131 | 106=>102 | 125=>169 | 128=>224 | 129=>225 | 137=>242 | 138=>187 | 143=>122 | 144=>59 | 145=>58 | 195=>238 | 207=>243 | 211=>192 | 213=>170 | 217=>234 | 218=>239 | 219=>185 | 220=>121 | 224=>236 | 225=>235 | 265=>226 | 266=>269 | 267=>237 | 314=>270 | n=>n,fun | 24=>213 | 46=>113 | 51=>311 | 53=>48 | 59=>126 | 146=>342 | n=>n,fun | 1=>0 | n=>n⟩
def Tryz.s1_3(w:World)(h:w.ShapedOpen zti):∃ m,w.cell? ⟨Tryz.ren.g 1,0,none⟩=some (.int .i64 m):=Go.Proofs.cell_of_shapedOpen_int (zero:=#[.int .i64 0]) (t:=3) h (of_decide_eq_true (by kernel_rfl)) (by kernel_rfl) rfl (by kernel_rfl) (by kernel_rfl) Tryz.underlying3
def Tryz.lays213:Go.Proofs.Lays.n213 zti Tryz.ren:=by constructor<;>intros<;>kernel_rfl
def Tryz.bytealg_CompareString(a b:ByteArray)(w:World):
  Calls zti 170 #[.string a,.string b] w fun e w'=>e=.returned (.int .i64 (Lib.compareBytes a.data.toList b.data.toList))/\w'=w:=Any.bytealg_CompareString Tryz.lays213 a b w
def Tryz.lays106:Go.Proofs.Lays.n106 zti Tryz.ren:=by constructor<;>intros<;>kernel_rfl
def Tryz.strings_Compare(a b:ByteArray)(w:World):
  Calls zti 102 #[.string a,.string b] w fun e w'=>e=.returned (.int .i64 (Lib.compareBytes a.data.toList b.data.toList))/\w'=w:=Any.strings_Compare Tryz.lays106 a b w
def Tryz.lays137:Go.Proofs.Lays.n137 zti Tryz.ren:=by constructor<;>intros<;>kernel_rfl
def Tryz.strings_IndexByte(s:ByteArray)(c:Int)(w:World):
  Calls zti 242 #[.string s,.int .u8 c] w fun e w'=>e=.returned (.int .i64 (Lib.indexByte s.data.toList c.toNat.toUInt8))/\w'=w:=Any.strings_IndexByte Tryz.lays137 s c w
def Tryz.lays211:Go.Proofs.Lays.n211 zti Tryz.ren:=by constructor<;>intros<;>kernel_rfl
def Tryz.stringslite_CutSuffix(s p:ByteArray)(w:World)(hs:s.size<=9223372036854775807):
  Calls zti 192 #[.string s,.string p] w fun e w'=>e=.returned (.tuple #[.string ⟨(Lib.trimSuffix s.data.toList p.data.toList).toArray⟩,.bool (Lib.hasSuffix s.data.toList p.data.toList)])/\w'=w:=Any.stringslite_CutSuffix Tryz.lays211 s p w hs
def Tryz.lays104:Go.Proofs.Lays.n104 zti Tryz.ren:=by constructor<;>intros<;>kernel_rfl
def Tryz.strings_CutSuffix(s p:ByteArray)(w:World)(hs:s.size<=9223372036854775807):
  Calls zti 131 #[.string s,.string p] w fun e w'=>e=.returned (.tuple #[.string ⟨(Lib.trimSuffix s.data.toList p.data.toList).toArray⟩,.bool (Lib.hasSuffix s.data.toList p.data.toList)])/\w'=w:=Any.strings_CutSuffix Tryz.lays104 s p w hs
def Tryz.lays195:Go.Proofs.Lays.n195 zti Tryz.ren:=by constructor<;>intros<;>kernel_rfl
def Tryz.utf8_RuneCountInString(s:ByteArray)(w:World)(hs:s.size<9223372036854775807):
  Calls zti 238 #[.string s] w fun e w'=>e=.returned (.int .i64 (Lib.runeCount s))/\∃ pos,w'=w.iter s pos:=Any.utf8_RuneCountInString Tryz.lays195 s w hs
def Tryz.lays129:Go.Proofs.Lays.n129 zti Tryz.ren:=by constructor<;>intros<;>kernel_rfl
def Tryz.bits_Len64(x:Int)(w:World)(h0:0<=x)(h1:x<=18446744073709551615):
  Calls zti 225 #[.int .u64 x] w fun e w'=>e=.returned (.int .i64 (Lib.bitLen x.toNat))/\w'=w:=Any.bits_Len64 Tryz.lays129 x w h0 h1
def Tryz.lays217:Go.Proofs.Lays.n217 zti Tryz.ren:=by constructor<;>intros<;>kernel_rfl
open Go.RowKit Go.Lib in
def Tryz.stringslite_IndexByte(s:ByteArray)(c:Int)(w:World):
  Calls zti 234 #[.string s,.int .u8 c] w fun e w'=>e=.returned (.int .i64 (Lib.indexByte s.data.toList c.toNat.toUInt8))/\w'=w:=Any.stringslite_IndexByte Tryz.lays217 s c w
def Tryz.lays224:Go.Proofs.Lays.n224 zti Tryz.ren:=by constructor<;>intros<;>kernel_rfl
open Go.RowKit Go.Lib in
def Tryz.bytealg_Cutover(n:Int)(h0:0<=n)(h1:n<4611686018427387904)(w:World):
  Calls zti 236 #[.int .i64 n] w fun e w'=>e=.returned (.int .i64 ((n+16)/8))/\w'=w:=Any.bytealg_Cutover Tryz.lays224 n h0 h1 w
def Tryz.lays314:Go.Proofs.Lays.n314 zti Tryz.ren:=by constructor<;>intros<;>kernel_rfl
open Go.RowKit Go.Lib in
def Tryz.bytealg_hashStr(sep:ByteArray)(hs:sep.size<4294967281)(w:World):
  Calls zti 270 #[.string sep] w fun e w'=>e=.returned (.tuple #[.int .u32 (RK.H sep.data.toList%4294967296),.int .u32 (16777619^sep.size%4294967296)])/\w'=w:=Any.bytealg_hashStr Tryz.lays314 sep hs w
def Tryz.lays267:Go.Proofs.Lays.n267 zti Tryz.ren:=by constructor<;>intros<;>kernel_rfl
open Go.RowKit Go.Lib in
def Tryz.bytealg_IndexRabinKarp(s sep:ByteArray)(h1:1<=sep.size)(h2:sep.size<=s.size)(hs:s.size<4294967281)(w:World):
  Calls zti 237 #[.string s,.string sep] w fun e w'=>e=.returned (.int .i64 (Lib.index s.data.toList sep.data.toList))/\w'=w:=Any.bytealg_IndexRabinKarp Tryz.lays267 s sep h1 h2 hs w
def Tryz.lays219:Go.Proofs.Lays.n219 zti Tryz.ren:=by constructor<;>intros<;>kernel_rfl
open Go.RowKit Go.Lib in
def Tryz.stringslite_Index_one(s:ByteArray)(c:UInt8)(w:World):
  Calls zti 185 #[.string s,.string ⟨#[c]⟩] w fun e w'=>e=.returned (.int .i64 (Lib.indexByte s.data.toList c))/\w'=w:=Any.stringslite_Index_one Tryz.lays219 s c w
open Go.RowKit Go.Lib in
def Tryz.stringslite_Index(s sub:ByteArray)(m:Int)(w:World)(hs:s.size<4294967281)(hm:w.cell? ⟨0,0,none⟩=some (.int .i64 m)):
  Calls zti 185 #[.string s,.string sub] w fun e w'=>e=.returned (.int .i64 (Lib.index s.data.toList sub.data.toList))/\w'=w:=Any.stringslite_Index Tryz.lays219 s sub m w hs hm
def Tryz.lays143:Go.Proofs.Lays.n143 zti Tryz.ren:=by constructor<;>intros<;>kernel_rfl
open Go.RowKit Go.Lib in
def Tryz.strings_Index_one(s:ByteArray)(c:UInt8)(w:World):
  Calls zti 122 #[.string s,.string ⟨#[c]⟩] w fun e w'=>e=.returned (.int .i64 (Lib.indexByte s.data.toList c))/\w'=w:=Any.strings_Index_one Tryz.lays143 s c w
open Go.RowKit Go.Lib in
def Tryz.strings_Index(s sub:ByteArray)(m:Int)(w:World)(hs:s.size<4294967281)(hm:w.cell? ⟨0,0,none⟩=some (.int .i64 m)):
  Calls zti 122 #[.string s,.string sub] w fun e w'=>e=.returned (.int .i64 (Lib.index s.data.toList sub.data.toList))/\w'=w:=Any.strings_Index Tryz.lays143 s sub m w hs hm
def Tryz.lays144:Go.Proofs.Lays.n144 zti Tryz.ren:=by constructor<;>intros<;>kernel_rfl
open Go.RowKit Go.Lib in
def Tryz.strings_Contains_one(s:ByteArray)(c:UInt8)(w:World):
  Calls zti 59 #[.string s,.string ⟨#[c]⟩] w fun e w'=>e=.returned (.bool (decide (0<=Lib.indexByte s.data.toList c)))/\w'=w:=Any.strings_Contains_one Tryz.lays144 s c w
open Go.RowKit Go.Lib in
def Tryz.strings_Contains(s sub:ByteArray)(m:Int)(w:World)(hs:s.size<4294967281)(hm:w.cell? ⟨0,0,none⟩=some (.int .i64 m)):
  Calls zti 59 #[.string s,.string sub] w fun e w'=>e=.returned (.bool (Lib.contains s.data.toList sub.data.toList))/\w'=w:=Any.strings_Contains Tryz.lays144 s sub m w hs hm
def Tryz.lays220:Go.Proofs.Lays.n220 zti Tryz.ren:=by constructor<;>intros<;>kernel_rfl
open Go.RowKit Go.Lib in
def Tryz.stringslite_Cut(s sep:ByteArray)(m:Int)(w:World)(hs:s.size<4294967281)(hm:w.cell? ⟨0,0,none⟩=some (.int .i64 m)):
  Calls zti 121 #[.string s,.string sep] w fun e w'=>e=.returned (.tuple #[.string ⟨(Lib.cut s.data.toList sep.data.toList).1.toArray⟩,.string ⟨(Lib.cut s.data.toList sep.data.toList).2.1.toArray⟩,.bool (Lib.cut s.data.toList sep.data.toList).2.2])/\∃ n,w'=w.drewN n:=Any.stringslite_Cut Tryz.lays220 s sep m w hs hm
def Tryz.lays145:Go.Proofs.Lays.n145 zti Tryz.ren:=by constructor<;>intros<;>kernel_rfl
open Go.RowKit Go.Lib in
def Tryz.strings_Cut(s sep:ByteArray)(m:Int)(w:World)(hs:s.size<4294967281)(hm:w.cell? ⟨0,0,none⟩=some (.int .i64 m)):
  Calls zti 58 #[.string s,.string sep] w fun e w'=>e=.returned (.tuple #[.string ⟨(Lib.cut s.data.toList sep.data.toList).1.toArray⟩,.string ⟨(Lib.cut s.data.toList sep.data.toList).2.1.toArray⟩,.bool (Lib.cut s.data.toList sep.data.toList).2.2])/\∃ n,w'=w.drewN n:=Any.strings_Cut Tryz.lays145 s sep m w hs hm
def Tryz.lays138:Go.Proofs.Lays.n138 zti Tryz.ren:=by constructor<;>intros<;>kernel_rfl
open Go.RowKit Go.Lib in
def Tryz.strings_Count_one(s:ByteArray)(c:UInt8)(w:World):
  Calls zti 187 #[.string s,.string ⟨#[c]⟩] w fun e w'=>e=.returned (.int .i64 (Lib.countByte s.data.toList c))/\w'=w:=Any.strings_Count_one Tryz.lays138 s c w
open Go.RowKit Go.Lib in
def Tryz.strings_Count(s sub:ByteArray)(m:Int)(w:World)(hs:s.size<4294967281)(hm:w.cell? ⟨0,0,none⟩=some (.int .i64 m))(h2:2<=sub.size):
  Calls zti 187 #[.string s,.string sub] w fun e w'=>e=.returned (.int .i64 (Lib.countB s sub))/\w'=w:=Any.strings_Count Tryz.lays138 s sub m w hs hm h2
def Tryz.laysM219:Go.Proofs.LaysM.n219 zti Tryz.ren:=by constructor<;>first | exact Tryz.lays219 | exact Tryz.s1_3 | (intros;kernel_rfl)
open Go.RowKit Go.Lib in
def Tryz.stringslite_Index_shaped(s sub:ByteArray)(w:World)(h:w.ShapedOpen zti)(hs:s.size<4294967281):
  Calls zti 185 #[.string s,.string sub] w fun e w'=>e=.returned (.int .i64 (Lib.index s.data.toList sub.data.toList))/\w'=w:=Any.stringslite_Index_shaped Tryz.laysM219 s sub w h hs
def Tryz.laysM143:Go.Proofs.LaysM.n143 zti Tryz.ren:=by constructor<;>first | exact Tryz.lays143 | exact Tryz.s1_3 | (intros;kernel_rfl)
open Go.RowKit Go.Lib in
def Tryz.strings_Index_shaped(s sub:ByteArray)(w:World)(h:w.ShapedOpen zti)(hs:s.size<4294967281):
  Calls zti 122 #[.string s,.string sub] w fun e w'=>e=.returned (.int .i64 (Lib.index s.data.toList sub.data.toList))/\w'=w:=Any.strings_Index_shaped Tryz.laysM143 s sub w h hs
def Tryz.laysM144:Go.Proofs.LaysM.n144 zti Tryz.ren:=by constructor<;>first | exact Tryz.lays144 | exact Tryz.s1_3 | (intros;kernel_rfl)
open Go.RowKit Go.Lib in
def Tryz.strings_Contains_shaped(s sub:ByteArray)(w:World)(h:w.ShapedOpen zti)(hs:s.size<4294967281):
  Calls zti 59 #[.string s,.string sub] w fun e w'=>e=.returned (.bool (Lib.contains s.data.toList sub.data.toList))/\w'=w:=Any.strings_Contains_shaped Tryz.laysM144 s sub w h hs
def Tryz.laysM220:Go.Proofs.LaysM.n220 zti Tryz.ren:=by constructor<;>first | exact Tryz.lays220 | exact Tryz.s1_3 | (intros;kernel_rfl)
open Go.RowKit Go.Lib in
def Tryz.stringslite_Cut_shaped(s sep:ByteArray)(w:World)(h:w.ShapedOpen zti)(hs:s.size<4294967281):
  Calls zti 121 #[.string s,.string sep] w fun e w'=>e=.returned (.tuple #[.string ⟨(Lib.cut s.data.toList sep.data.toList).1.toArray⟩,.string ⟨(Lib.cut s.data.toList sep.data.toList).2.1.toArray⟩,.bool (Lib.cut s.data.toList sep.data.toList).2.2])/\∃ n,w'=w.drewN n:=Any.stringslite_Cut_shaped Tryz.laysM220 s sep w h hs
def Tryz.laysM145:Go.Proofs.LaysM.n145 zti Tryz.ren:=by constructor<;>first | exact Tryz.lays145 | exact Tryz.s1_3 | (intros;kernel_rfl)
open Go.RowKit Go.Lib in
def Tryz.strings_Cut_shaped(s sep:ByteArray)(w:World)(h:w.ShapedOpen zti)(hs:s.size<4294967281):
  Calls zti 58 #[.string s,.string sep] w fun e w'=>e=.returned (.tuple #[.string ⟨(Lib.cut s.data.toList sep.data.toList).1.toArray⟩,.string ⟨(Lib.cut s.data.toList sep.data.toList).2.1.toArray⟩,.bool (Lib.cut s.data.toList sep.data.toList).2.2])/\∃ n,w'=w.drewN n:=Any.strings_Cut_shaped Tryz.laysM145 s sep w h hs
def Tryz.laysM138:Go.Proofs.LaysM.n138 zti Tryz.ren:=by constructor<;>first | exact Tryz.lays138 | exact Tryz.s1_3 | (intros;kernel_rfl)
open Go.RowKit Go.Lib in
def Tryz.strings_Count_shaped(s sub:ByteArray)(w:World)(h:w.ShapedOpen zti)(hs:s.size<4294967281)(h2:2<=sub.size):
  Calls zti 187 #[.string s,.string sub] w fun e w'=>e=.returned (.int .i64 (Lib.countB s sub))/\w'=w:=Any.strings_Count_shaped Tryz.laysM138 s sub w h hs h2
def Tryz.lays207:Go.Proofs.Lays.n207 zti Tryz.ren:=by constructor<;>intros<;>kernel_rfl
open Go.RowKit Go.Lib in
def Tryz.stringslite_HasSuffix(s p:ByteArray)(w:World)(hs:s.size<=9223372036854775807):
  Calls zti 243 #[.string s,.string p] w fun e w'=>e=.returned (.bool (Lib.hasSuffix s.data.toList p.data.toList))/\w'=w:=Any.stringslite_HasSuffix Tryz.lays207 s p w hs
open Go.RowKit Go.Lib in
def Tryz.strings_Count_any(s sep:ByteArray)(m:Int)(w:World)(hs:s.size<4294967281)(hm:w.cell? ⟨0,0,none⟩=some (.int .i64 m))(h1:1<=sep.size):
  Calls zti 187 #[.string s,.string sep] w fun e w'=>e=.returned (.int .i64 (Lib.countB s sep))/\w'=w:=Any.strings_Count_any Tryz.lays138 s sep m w hs hm h1
open Go.RowKit Go.Lib in
def Tryz.utf8_RuneCountInString_ascii(s:ByteArray)(w:World)(hs:s.size<4294967281)(hascii:∀ (j:Nat) b,s.data.toList[j]?=some b->b.toNat<128):
  Calls zti 238 #[.string s] w fun e w'=>e=.returned (.int .i64 s.size)/\w'=w.iter s s.size:=Any.utf8_RuneCountInString_ascii Tryz.lays195 s w hs hascii
end Go.Proofs
section
open Go.V
attribute [local irreducible] Has N Par Ret RetL Src StepOK V VO X
namespace Go.V
def _root_.Zbj(t:Wr Y->A:=by intro h;refine z7 (qh L Z Z Z Z) Z ?_;exact h.1)(h:Y):A:=t ⟨h⟩
def _root_.Zdb(t:Wr Y->A:=by intro h;refine z7 (yl Z Z Z Z) Z ?_;exact h.1)(h:Y):A:=t ⟨h⟩
def _root_.Zdc(t:Wr Y->A:=by intro h;refine z7 (qd L (qu Z) Z Z Z Z) Z ?_;exact h.1)(h:Y):A:=t ⟨h⟩
def _root_.ZbL(t:Wr Y->A:=by intro h;refine z7 (zw L (vs:=[_,_]) (qu Z) Z Z Z Z ⟨_,rfl⟩) Z ?_;exact h.1)(h:Y):A:=t ⟨h⟩
def _root_.Zck(t:Wr Y->A:=by intro h;refine y7 ?_;exact h.1)(h:Y):A:=t ⟨h⟩
def _root_.ZaM(t:Wr Y->A:=by intro h;refine z8 (zh Z Z Z) Z ?_;exact h.1)(h:Y):A:=t ⟨h⟩
def _root_.ZV(t:Wr Y->A:=by intro h;refine z7 (yp L Z Z Z Z Z Z) Z ?_;exact h.1)(h:Y):A:=t ⟨h⟩
def _root_.Zbc(t:Wr Y->A:=by intro h;refine z8 (qh L Z Z Z Z) Z ?_;exact h.1)(h:Y):A:=t ⟨h⟩
def _root_.Zem(t:Wr Y->A:=by intro h;refine z7 (zw L (vs:=[_,_,_]) (qu Z) Z Z Z Z ⟨_,rfl⟩) Z ?_;exact h.1)(h:Y):A:=t ⟨h⟩
def _root_.ZdD(t:Wr Y->A:=by intro h;refine z8 (qd L (qu Z) Z Z Z Z) Z ?_;exact h.1)(h:Y):A:=t ⟨h⟩
def _root_.ZcP(t:Wr Y->A:=by intro h;refine z8 (zw L (vs:=[_,_]) (qu Z) Z Z Z Z ⟨_,rfl⟩) Z ?_;exact h.1)(h:Y):A:=t ⟨h⟩
def _root_.ZbV(t:Wr Y->A:=by intro h;refine qo (id:=1) [] ki J ?_;exact h.1)(h:Y):A:=t ⟨h⟩
def _root_.Zd4(t:Wr Y->A:=by intro h;refine z8 (yp L Z Z Z Z Z Z) Z ?_;exact h.1)(h:Y):A:=t ⟨h⟩
def _root_.Ze1(t:Wr Y->A:=by intro h;refine z7 (Xq Z Z Z Z (ng M)) Z ?_;exact h.1)(h:Y):A:=t ⟨h⟩
def _root_.Ze2(t:Wr Y->A:=by intro h;refine z7 (Xq Z Z Z Z (nf M)) Z ?_;exact h.1)(h:Y):A:=t ⟨h⟩
def _root_.Zen(t:Wr Y->A:=by intro h;refine z8 (Ov Z Z Z Z M Z) Z ?_;exact h.1)(h:Y):A:=t ⟨h⟩
def _root_.Zb1(t:Wr Y->A:=by exact fun h=>(Zck∘Zbi) h.1)(h:Y):A:=t ⟨h⟩
def _root_.Zag(t:Wr Y->A:=by exact fun h=>(Zd∘ZE) h.1)(h:Y):A:=t ⟨h⟩
def _root_.Zu(t:Wr Y->A:=by exact fun h=>(ZP∘Zdb) h.1)(h:Y):A:=t ⟨h⟩
def _root_.Zq(t:Wr Y->A:=by exact fun h=>(Zbj∘Zdc) h.1)(h:Y):A:=t ⟨h⟩
def _root_.Z4(t:Wr Y->A:=by exact fun h=>(ZP∘Zag) h.1)(h:Y):A:=t ⟨h⟩
def _root_.Zaj(t:Wr Y->A:=by exact fun h=>(Zu∘Zdb) h.1)(h:Y):A:=t ⟨h⟩
def _root_.ZaB(t:Wr Y->A:=by exact fun h=>(ZaM∘Zb1) h.1)(h:Y):A:=t ⟨h⟩
def _root_.ZaQ(t:Wr Y->A:=by exact fun h=>(Zv∘Za) h.1)(h:Y):A:=t ⟨h⟩
def _root_.ZaX(t:Wr Y->A:=by exact fun h=>(Zbj∘ZbL) h.1)(h:Y):A:=t ⟨h⟩
def _root_.Zbk(t:Wr Y->A:=by exact fun h=>(Zbc∘ZdD) h.1)(h:Y):A:=t ⟨h⟩
def _root_.Zbl(t:Wr Y->A:=by exact fun h=>(Ze∘ZK) h.1)(h:Y):A:=t ⟨h⟩
def ze4(ha:a.size<=9223372036854775807)(hb:b.size<=9223372036854775807)(hB:zth B w){t:Nat}{v:Value}(hv:SlB [.string a,.string b] t 2 v B):
  Ret zti 188 [v] w B (fun v _=>v=.int .i64 (u5 [a,b])):=by
 exact zbe [a,b] (by intro s hs;simp at hs;rcases hs with rfl | rfl<;>assumption) (by simp) hB (hv.toV rfl)
def ze3(ha:a.size<=9223372036854775807)(hb:b.size<=9223372036854775807)(hc:c.size<=9223372036854775807)(hB:zth B w){t:Nat}{v:Value}(hv:SlB [.string a,.string b,.string c] t 3 v B):
  Ret zti 188 [v] w B (fun v _=>v=.int .i64 (u5 [a,b,c])):=by
 exact zbe [a,b,c] (by intro s hs;simp at hs;rcases hs with rfl | rfl | rfl<;>assumption) (by simp) hB (hv.toV rfl)
def l8(ha:a.size<=9223372036854775807)(hb:b.size<=9223372036854775807)(hB:zth B w):
  Ret zti 125 [.agg #[.string a,.string b]] w B (fun v _=>v=.int .i64 (u5 [a,b])):=by
 refine yn Tryz.func125 Z Tryz.ntmps125 (np Z) hB ((Zu∘Zag∘Zq∘Zq∘ZV) ?_);refine z7 (q0 L Z Z (zm Z) Z Z Z (fun u H hH _ _ v hv=>ze4 Q Q hH hv)) Z (Zc (h:=?_));exact yj2 L [.tmp 2]
def goal_ret(ha:a.size<=9223372036854775807)(hb:b.size<=9223372036854775807)(hc:c.size<=9223372036854775807)(hB:zth B w):
  Ret zti 124 [.agg #[.string a,.string b,.string c]] w B (fun v _=>v=.int .i64 (u5 [a,b,c])):=by
 refine yn Tryz.func124 Z Tryz.ntmps124 (np Z) hB ((Zu∘Zag∘Zbj∘Zq∘Zbj∘Zq∘Zq∘ZV) ?_);refine z7 (q0 L Z Z (zm Z) Z Z Z (fun u H hH _ _ v hv=>ze3 Q Q Q hH hv)) Z (Zc (h:=?_));exact yj2 L [.tmp 2]
def b9(a b c:ByteArray):Int:=if c=⟨#[]⟩ then u5 [a,b] else u5 [a,b,c]
def Cj(ha:a.size<=9223372036854775807)(hb:b.size<=9223372036854775807)(hc:c.size<=9223372036854775807)(hB:zth B w):
  Ret zti 133 [.agg #[.string a,.string b,.string c]] w B (fun v _=>v=.int .i64 (b9 a b c)):=by
 refine yn Tryz.func133 Z Tryz.ntmps133 (np Z) hB ?_;by_cases h:c=⟨#[]⟩
 ·refine(Zu∘ZG∘Zq∘Ze2∘Zcj∘ZaX) ?_;refine z71 L Z (fun u H hH _=>l8 Q Q hH) ?_;refine Zc (h:=?_);refine yj1 L [.tmp 2] fun u H hH hle=>?_;exact nh (Value.int .i64) (show u5 [a,b]=b9 a b c from(na h).symm)
 ·refine(Zu∘ZG∘Zq∘Ze1∘Zm∘ZK∘Zem) ?_;refine z71 L Z (fun u H hH _=>goal_ret Q Q Q hH) ?_;refine Zc (h:=?_);refine yj1 L [.tmp 2] fun u H hH hle=>?_;exact nh (Value.int .i64) (show u5 [a,b,c]=b9 a b c from(nc h).symm)
abbrev sCol:ByteArray:=⟨#[58]⟩
abbrev sHash:ByteArray:=⟨#[35]⟩
def G8(a b:ByteArray):ByteArray:=a++sCol++b
def cr(a b c:ByteArray):ByteArray:=G8 a b++sHash++c
def oe(a b c:ByteArray):ByteArray:=if c=⟨#[]⟩ then G8 a b else cr a b c
def Cn:sCol.size=1:=rfl
def t9:sHash.size=1:=rfl
def objT_size(a b:ByteArray):(G8 a b).size=a.size+b.size+1:=by
 unfold G8;rw[ByteArray.size_append,ByteArray.size_append,Cn];omega
def goalT_size(a b c:ByteArray):(cr a b c).size=a.size+b.size+c.size+2:=by
 unfold cr;rw[ByteArray.size_append,ByteArray.size_append,objT_size,t9];omega
def text_ret(ha:a.size<=1099511627776)(hb:b.size<=1099511627776)(hB:zth B w):
  Ret zti 127 [.agg #[.string a,.string b]] w B (fun v _=>v=.string (G8 a b)):=by
 have hz:a.size+sCol.size<=9223372036854775807:=by rw[Cn];omega
 have hz2:(a++sCol).size+b.size<=9223372036854775807:=by rw[zpw,Cn];omega
 refine yn Tryz.func127 Z Tryz.ntmps127 (np Z) hB ((Zu∘Zag∘Zq) ?_);refine z7 (Ov Z Z Z Z M Z) Z (Zq (h:=?_));refine z7 (Ov Z Z Z Z M Z) Z (Zc (h:=?_));exact yj2 L [.tmp 2]
def A7(ha:a.size<=1099511627776)(hb:b.size<=1099511627776)(hc:c.size<=1099511627776)(hB:zth B w):
  Ret zti 62 [.agg #[.string a,.string b,.string c]] w B (fun v _=>v=.string (cr a b c)):=by
 have hz:(G8 a b).size+sHash.size<=9223372036854775807:=by rw[t9,objT_size];omega
 have hz2:(G8 a b++sHash).size+c.size<=9223372036854775807:=by rw[zpw,t9,objT_size];omega
 refine yn Tryz.func62 Z Tryz.ntmps62 (np Z) hB ((Zu∘Zd∘ZbV∘Zbc∘ZcP) ?_);refine z81 L Z (fun u H hH _=>text_ret Q Q hH) ?_;refine(Zen∘Zbk∘Zen∘ZaB) ?_;exact yj2 L [.tmp 2]
def K5(ha:a.size<=1099511627776)(hb:b.size<=1099511627776)(hc:c.size<=1099511627776)(hB:zth B w):
  Ret zti 63 [.agg #[.string a,.string b,.string c]] w B (fun v _=>v=.string (oe a b c)):=by
 refine yn Tryz.func63 Z Tryz.ntmps63 (np Z) hB ?_;by_cases h:c=⟨#[]⟩
 ·refine(Zu∘ZG∘Zq∘Ze2∘Zcj∘ZaX) ?_;refine z71 L Z (fun u H hH _=>text_ret Q Q hH) ?_;refine Zc (h:=?_);refine yj1 L [.tmp 2] fun u H hH hle=>?_;exact nh Value.string (show G8 a b=oe a b c from(na h).symm)
 ·refine(Zu∘ZG∘Zq∘Ze1∘Zm∘ZK∘Zem) ?_;refine z71 L Z (fun u H hH _=>A7 Q Q Q hH) ?_;refine Zc (h:=?_);refine yj1 L [.tmp 2] fun u H hH hle=>?_;exact nh Value.string (show cr a b c=oe a b c from(nc h).symm)
def bo(a b:ByteArray):Int:=Lib.compareBytes a.data.toList b.data.toList
def Gq(hB:zth B w):Ret zti 102 [.string a,.string b] w B (fun v _=>v=.int .i64 (bo a b)):=Ret.of_same hB (Tryz.strings_Compare a b w)
def orL:List Int->Int
 | []=>0
 | x::l=>if x=0 then orL l else x
def Xn:∀ (l:List Int) (k:Nat) (s:Int),(∀ x∈l.take k,x=0)->l[k]?=some s->s≠0->orL l=s
 | [],k,s,_,h,_=>by simp at h
 | x::l,0,s,_,h,hc=>by simp at h;subst h;simp [orL,hc]
 | x::l,k+1,s,ha,h,hc=>by
  simp only[zq8] at ha;simp only[zqm] at h;have hx:=ha x (mb ..);simp only[orL,na hx];exact Xn l k s (fun y hy=>ha y (me _ hy)) h hc
def Qw:∀ (l:List Int),(∀ x∈l,x=0)->orL l=0
 | [],_=>rfl
 | x::l,h=>by simp only[orL,na (h x (mb ..))];exact Qw l fun y hy=>h y (me _ hy)
def zkr(l:List Int)(hlen:l.length<=1000){v:Value}(hB:zth B w)(hv:SlV e 1 (l.map (Value.int .i64)) l.length fu v B):
  Ret zti 100 [v] w B (fun v _=>v=.int .i64 (orL l)):=by
 refine yn Tryz.func100 Z Tryz.ntmps100 (np Z) hB (k8 0 (SlV e 1 (l.map (Value.int .i64)) l.length fu) Z ns hv ((Z4∘Zj∘Z9∘Zg∘ZaW) ?_))
 refine xm (fun k:Nat=>[(3,.is (.int .i64 0)),(6,.sat (SlV e 1 (l.map (Value.int .i64)) l.length fu)),(7,.is (.int .i64 l.length)),(8,.is (.int .i64 k))])
  (fun k=>k<=l.length/\∀ x∈l.take k,x=0) (fun k=>l.length-k) 0 ⟨mc _,by simp⟩ ⟨rfl,rfl,rfl,rfl,nm⟩ ?_
 rintro k ⟨hk,hall⟩;by_cases hlt:k<l.length
 ·have hs:l[k]?=some l[k]:=zpt hlt;generalize l[k]=s at hs;have hc:((l.map (Value.int .i64)).drop (k*1)).take 1=[.int .i64 s]:=zfg (by simp [hs]);by_cases h0:s=0
  ·refine(Zbl∘Z6∘Z2∘Zau∘ZcO∘Zd∘Zt∘Zb∘Zaq∘Zch∘ZC∘ZX) ?_;refine ym (k+1) ⟨hlt,?_⟩ T ⟨Z,Z,Z,Z,nm⟩;rw[zpj,hs];intro x hx;rcases mh.1 hx with hx | hx
   ·exact hall x hx
   ·simp at hx;rw[hx,h0]
  ·refine(Zbl∘Z6∘Z2∘Zau∘ZcO∘Zd∘Zt∘Zb∘ZaO∘ZQ∘Zc) ?_;refine yj1 L [.tmp 2] fun u H hH hle=>?_;exact nh _ (Xn l k s hall hs h0).symm
 ·refine(Zbl∘Zav∘ZaQ∘Zc) ?_;refine yj1 L [.tmp 2] fun u H hH hle=>?_;have:l.take k=l:=zpf T;exact nh _ (Qw l (this ▸ hall)).symm
def G1{x y:Int}(hB:zth B w){t:Nat}{v:Value}(hv:SlB [.int .i64 x,.int .i64 y] t 2 v B):
  Ret zti 100 [v] w B (fun v _=>v=.int .i64 (orL [x,y])):=by
 exact zkr [x,y] (by simp) hB (hv.toV Z)
def zeg(a b c d:ByteArray):Int:=orL [bo a c,bo b d]
def zf6(a b r c d s:ByteArray):Int:=orL [zeg a b c d,bo r s]
def zef{d:ByteArray}(hB:zth B w):
  Ret zti 101 [.agg #[.string a,.string b],.agg #[.string c,.string d]] w B (fun v _=>v=.int .i64 (zeg a b c d)):=by
 refine yn Tryz.func101 Z Tryz.ntmps101 (np Z) hB ((Zaj∘Zd∘ZbV∘Zbk∘Zbk) ?_);refine z81 L Z (fun u H hH _=>Gq hH) ?_;refine(Zbk∘Zbk) ?_;refine z81 L Z (fun u H hH _=>Gq hH) ?_;refine Zd4 (h:=?_);refine z8 (q0 L Z Z (zm Z) Z Z Z (fun u H hH _ _ v hv=>G1 hH hv)) Z (ZaB (h:=?_));exact yj2 L [.tmp 4]
def Hy{d:ByteArray}(hB:zth B w):
  Ret zti 38 [.agg #[.string a,.string b,.string r],.agg #[.string c,.string d,.string s]] w B (fun v _=>v=.int .i64 (zf6 a b r c d s)):=by
 refine yn Tryz.func38 Z Tryz.ntmps38 (np Z) hB ((Zaj∘Zd∘ZbV∘Zbc∘ZcP∘Zbc∘ZcP) ?_);refine z81 L Z (fun u H hH _=>zef hH) ?_;refine(Zbk∘Zbk) ?_;refine z81 L Z (fun u H hH _=>Gq hH) ?_;refine Zd4 (h:=?_);refine z8 (q0 L Z Z (zm Z) Z Z Z (fun u H hH _ _ v hv=>G1 hH hv)) Z (ZaB (h:=?_));exact yj2 L [.tmp 4]
def cmpU_ret{d:ByteArray}(hB:zth B w):
  Ret zti 40 [.agg #[.string a,.string b,.string r],.agg #[.string c,.string d,.string s]] w B (fun v _=>v=.int .i64 (zf6 a b r c d s)):=by
 refine yn Tryz.func40 Z Tryz.ntmps40 (np Z) hB ((Zaj∘Zag∘Zem∘Zem) ?_);refine z71 L Z (fun u H hH _=>Hy hH) ?_;refine Zc (h:=?_);exact yj2 L [.tmp 4]
def _root_.Zl(t:Wr Y->A:=by intro h;refine z8 (z9 Z Z Z) Z ?_;exact h.1)(h:Y):A:=t ⟨h⟩
def _root_.Zf7(t:Wr Y->A:=by intro h;refine z7 (Ou Z Z Z Z (nf M)) Z ?_;exact h.1)(h:Y):A:=t ⟨h⟩
def _root_.ZI(t:Wr Y->A:=by intro h;refine ze (id:=10) ?_;exact h.1)(h:Y):A:=t ⟨h⟩
def _root_.ZY(t:Wr Y->A:=by intro h;refine ze (id:=11) ?_;exact h.1)(h:Y):A:=t ⟨h⟩
def _root_.Zcw(t:Wr Y->A:=by intro h;refine z8 (qw Z Z Z Z (nf T)) Z ?_;exact h.1)(h:Y):A:=t ⟨h⟩
def _root_.Zaa(t:Wr Y->A:=by intro h;refine ze (id:=12) ?_;exact h.1)(h:Y):A:=t ⟨h⟩
def _root_.ZcQ(t:Wr Y->A:=by intro h;refine z8 (qw Z Z Z Z (ng T)) Z ?_;exact h.1)(h:Y):A:=t ⟨h⟩
def _root_.Zdd(t:Wr Y->A:=by intro h;refine z7 (Ou Z Z Z Z (ng M)) Z ?_;exact h.1)(h:Y):A:=t ⟨h⟩
def _root_.Zdm(t:Wr Y->A:=by intro h;refine z8 (yv Z Z Z Z (nf T)) Z ?_;exact h.1)(h:Y):A:=t ⟨h⟩
def _root_.ZcJ(t:Wr Y->A:=by intro h;refine qo (id:=4) [] ki J ?_;exact h.1)(h:Y):A:=t ⟨h⟩
def _root_.ZcK(t:Wr Y->A:=by intro h;refine qo (id:=6) [] ki J ?_;exact h.1)(h:Y):A:=t ⟨h⟩
def _root_.Zdz(t:Wr Y->A:=by intro h;refine z8 (yv Z Z Z Z (ng T)) Z ?_;exact h.1)(h:Y):A:=t ⟨h⟩
def _root_.Zd5(t:Wr Y->A:=by intro h;refine z8 (Md L Z Z Z M) Z ?_;exact h.1)(h:Y):A:=t ⟨h⟩
def _root_.ZeJ(t:Wr Y->A:=by intro h;refine z7 (Ac Z Z Z Z zo5 M Z) Z ?_;exact h.1)(h:Y):A:=t ⟨h⟩
def _root_.Zn(t:Wr Y->A:=by exact fun h=>(Zl∘Zl) h.1)(h:Y):A:=t ⟨h⟩
def _root_.Zf(t:Wr Y->A:=by exact fun h=>(Ze∘Ze) h.1)(h:Y):A:=t ⟨h⟩
def _root_.Zbw(t:Wr Y->A:=by exact fun h=>(Zo∘Zac) h.1)(h:Y):A:=t ⟨h⟩
def _root_.ZaN(t:Wr Y->A:=by exact fun h=>(Zb1∘ZeG) h.1)(h:Y):A:=t ⟨h⟩
def _root_.Zas(t:Wr Y->A:=by exact fun h=>(ZaL∘Zfm) h.1)(h:Y):A:=t ⟨h⟩
def _root_.ZbW(t:Wr Y->A:=by exact fun h=>(Zb1∘ZeH) h.1)(h:Y):A:=t ⟨h⟩
def _root_.ZaC(t:Wr Y->A:=by exact fun h=>(ZaI∘Zbw) h.1)(h:Y):A:=t ⟨h⟩
def _root_.ZaJ(t:Wr Y->A:=by exact fun h=>(Zc∘Zam) h.1)(h:Y):A:=t ⟨h⟩
def _root_.ZaR(t:Wr Y->A:=by exact fun h=>(Z9∘Zb) h.1)(h:Y):A:=t ⟨h⟩
def zeo:∀ (a b:List UInt8),Lib.compareBytes a b= -1\/Lib.compareBytes a b=0\/Lib.compareBytes a b=1
 | [],[]=>.inr (.inl rfl)
 | [],_::_=>.inl rfl
 | _::_,[]=>.inr (.inr rfl)
 | a::xs,b::bs=>by
  unfold Lib.compareBytes;split
  ·exact .inl Z
  ·split
   ·exact .inr (.inr Z)
   ·exact zeo xs bs
def za5:∀ (a:List UInt8),Lib.compareBytes a a=0
 | []=>rfl
 | a::xs=>by
  unfold Lib.compareBytes;rw[nc (UInt8.lt_irrefl a),nc (UInt8.lt_irrefl a)];exact za5 xs
def zlv:∀ (a b:List UInt8),Lib.compareBytes a b=0->a=b
 | [],[],_=>rfl
 | [],_::_,h=>by cases h
 | _::_,[],h=>by cases h
 | a::xs,b::bs,h=>by
  unfold Lib.compareBytes at h;split at h
  ·cases h
  ·split at h
   ·cases h
   ·rename_i h1 h2;have:a=b:=UInt8.le_antisymm (zrn.1 h2) (zrn.1 h1);rw[this,zlv xs bs h]
def za6:∀ (a b:List UInt8),Lib.compareBytes b a= -Lib.compareBytes a b
 | [],[]=>rfl
 | [],_::_=>rfl
 | _::_,[]=>rfl
 | a::xs,b::bs=>by
  unfold Lib.compareBytes;by_cases h1:a<b
  ·simp [h1,UInt8.lt_asymm h1]
  ·by_cases h2:b<a
   ·simp [h1,h2]
   ·simp [h1,h2];exact za6 xs bs
def Sa:∀ (a b c:List UInt8),Lib.compareBytes a b<=0->Lib.compareBytes b c<=0->Lib.compareBytes a c<=0
 | [],_,[],_,_=>zqy _
 | [],_,_::_,_,_=>by unfold Lib.compareBytes;decide
 | _::_,[],_,h,_=>by unfold Lib.compareBytes at h;exact absurd h E
 | _::_,_::_,[],_,h=>by unfold Lib.compareBytes at h;exact absurd h E
 | a::xs,b::bs,c::cs,h1,h2=>by
  unfold Lib.compareBytes at h1 h2 |-;by_cases ab:a<b
  ·by_cases bc:b<c
   ·rw[na (UInt8.lt_trans ab bc)];decide
   ·rw[nc bc] at h2;by_cases cb:c<b
    ·rw[na cb] at h2;exact ni h2 E
    ·have:b=c:=UInt8.le_antisymm (zrn.1 cb) (zrn.1 bc);subst this;rw[na ab];decide
  ·rw[nc ab] at h1;by_cases ba:b<a
   ·rw[na ba] at h1;exact ni h1 E
   ·have:a=b:=UInt8.le_antisymm (zrn.1 ba) (zrn.1 ab);subst this;rw[nc ab] at h1;by_cases ac:a<c
    ·rw[na ac];decide
    ·rw[nc ac] at h2 |-;by_cases ca:c<a
     ·rw[na ca] at h2;exact ni h2 E
     ·rw[nc ca] at h2 |-;exact Sa xs bs cs h1 h2
structure Ord3{α:Type}(c:α->α->Int):Prop where
 refl:∀ a,c a a=0
 eq:∀ a b,c a b=0->a=b
 anti:∀ a b,c b a= -c a b
 trans:∀ a b d,c a b<=0->c b d<=0->c a d<=0
def zlz(h:a.data.toList=b.data.toList):a=b:=by
 obtain⟨⟨x⟩⟩:=a;obtain⟨⟨y⟩⟩:=b;simp at h;subst h;rfl
def cmpB_ord:Ord3 bo:=⟨fun a=>za5 _,fun a b h=>zlz (zlv _ _ h),fun a b=>za6 _ _,fun a b d h1 h2=>Sa _ _ _ h1 h2⟩
def Ei{α β:Type}(c:α->α->Int)(e:β->β->Int)(x y:α×β):Int:=orL [c x.1 y.1,e x.2 y.2]
def E7(x y:Int):orL [x,y]=if x=0 then y else x:=by
 simp only[orL];by_cases hx:x=0
 ·rw[na hx,na hx];split<;>simp_all
 ·rw[nc hx,nc hx]
def Ord3.lt_of{c:α->α->Int}(h:Ord3 c){a b d:α}(h1:c a b<=0)(h2:c b d<=0)(h3:c a d=0):c a b=0/\c b d=0:=by
 obtain rfl:=h.eq _ _ h3;have:=h.anti a b;constructor<;>omega
def Ord3.lex{β:Type}{c:α->α->Int}{e:β->β->Int}(hc:Ord3 c)(he:Ord3 e):Ord3 (Ei c e):=by
 refine⟨fun a=>?_,fun a b h=>?_,fun a b=>?_,fun a b d h1 h2=>?_⟩
 ·unfold Ei;rw[E7,hc.refl,if_pos rfl,he.refl]
 ·unfold Ei at h;rw[E7] at h;by_cases h0:c a.1 b.1=0
  ·rw[na h0] at h;exact Prod.ext (hc.eq _ _ h0) (he.eq _ _ h)
  ·rw[nc h0] at h;exact ni h h0
 ·unfold Ei;rw[E7,E7,hc.anti a.1 b.1,he.anti a.2 b.2];by_cases h0:c a.1 b.1=0
  ·rw[na h0,na T]
  ·rw[nc h0,nc T]
 ·unfold Ei at h1 h2 |-;rw[E7] at h1 h2 |-;have l1:c a.1 b.1<=0:=by split at h1<;>omega
  have l2:c b.1 d.1<=0:=by split at h2<;>omega
  have l3:=hc.trans _ _ _ l1 l2;by_cases h0:c a.1 d.1=0
  ·obtain⟨e1,e2⟩:=hc.lt_of l1 l2 h0;rw[na e1] at h1;rw[na e2] at h2;rw[na h0];exact he.trans _ _ _ h1 h2
  ·rw[nc h0];exact l3
abbrev Ed:=(ByteArray×ByteArray)×ByteArray
def R0:Ed->Ed->Int:=Ei (Ei bo bo) bo
def cmp3_ord:Ord3 R0:=(cmpB_ord.lex cmpB_ord).lex cmpB_ord
def M4{a b c d:ByteArray}:zeg a b c d=0↔a=c/\b=d:=by
 have h:=cmpB_ord.lex cmpB_ord;constructor
 ·intro e;have:=h.eq (a,b) (c,d) e;cases this;exact⟨rfl,rfl⟩
 ·rintro⟨rfl,rfl⟩;exact h.refl (a,b)
def zls{d:ByteArray}(h:a≠c):zeg a b c d=bo a c:=by
 unfold zeg;rw[E7,if_neg fun e=>h (cmpB_ord.eq _ _ e)]
def zlr{d:ByteArray}(h:a=c):zeg a b c d=bo b d:=by
 unfold zeg;rw[E7,if_pos (by rw[h];exact cmpB_ord.refl _)]
def zf5{d:ByteArray}(h:¬ (a=c/\b=d)):zf6 a b r c d s=zeg a b c d:=by
 unfold zf6;rw[E7,if_neg fun e=>h (M4.1 e)]
def zf4{d:ByteArray}(h:a=c/\b=d):zf6 a b r c d s=bo r s:=by
 unfold zf6;rw[E7,if_pos (M4.2 h)]
def ij{c:UInt8}(h:s[k]?=some c):s.data.toList.drop k=c::s.data.toList.drop (k+1):=by
 have h':s.data.toList[k]?=some c:=by
  have:s.data[k]?=some c:=h;simpa using this
 obtain⟨hl,he⟩:=zqc.1 h';rw[zp3 hl,he]
def Bu(h:s.size<=k):s.data.toList.drop k=[]:=zpi (by rw[ue];exact h)
def Qa(a b:ByteArray)(k:Nat):Prop:=bo a b=Lib.compareBytes (a.data.toList.drop k) (b.data.toList.drop k)
def zgg{x y:UInt8}(h:Qa a b k)(hx:a[k]?=some x)(hy:b[k]?=some y)(hl:(x.toNat:Int)<y.toNat):bo a b= -1:=by
 unfold Qa at h;rw[h,ij hx,ij hy,Lib.compareBytes,na (zsj.2 T)]
def zgh{x y:UInt8}(h:Qa a b k)(hx:a[k]?=some x)(hy:b[k]?=some y)(hl:(y.toNat:Int)<x.toNat):bo a b=1:=by
 unfold Qa at h;have hl':y<x:=zsj.2 T;rw[h,ij hx,ij hy,Lib.compareBytes,nc (UInt8.lt_asymm hl'),na hl']
def U9{x y:UInt8}(h:Qa a b k)(hx:a[k]?=some x)(hy:b[k]?=some y)(h1:¬ (x.toNat:Int)<y.toNat)(h2:¬ (y.toNat:Int)<x.toNat):Qa a b (k+1):=by
 unfold Qa at h |-;rw[h,ij hx,ij hy,Lib.compareBytes,nc (fun e=>h1 (by have:=zsj.1 e;omega)),nc (fun e=>h2 (by have:=zsj.1 e;omega))]
def Sz(h:Qa a b k)(h1:a.size<=k)(h2:k<b.size):bo a b= -1:=by
 unfold Qa at h;obtain⟨y,hy⟩:=getElem?_lt h2;rw[h,Bu h1,ij hy,Lib.compareBytes]
def Va(h:Qa a b k)(h1:b.size<=k)(h2:k<a.size):bo a b=1:=by
 unfold Qa at h;obtain⟨y,hy⟩:=getElem?_lt h2;rw[h,Bu h1,ij hy,Lib.compareBytes]
def Vb(h:Qa a b k)(h1:a.size<=k)(h2:b.size<=k):bo a b=0:=by
 unfold Qa at h;rw[h,Bu h1,Bu h2,Lib.compareBytes]
def iy(ha:a.size<=9223372036854775807)(hb:b.size<=9223372036854775807)(hB:zth B w):
  Ret zti 230 [.string a,.string b] w B (fun v _=>v=.int .i64 (bo a b)):=by
 refine yn Tryz.func230 Z Tryz.ntmps230 (np Z) hB ((ZP∘ZG∘ZaJ) ?_)
 refine xm (fun k:Nat=>[(0,.is (.string a)),(1,.is (.string b)),(5,.is (.int .i64 k))])
  (fun k=>k<=a.size/\k<=b.size/\Qa a b k) (fun k=>a.size-k) 0 ⟨mc _,mc _,rfl⟩ ⟨rfl,rfl,rfl,nm⟩ ?_
 rintro k ⟨hk1,hk2,hall⟩;by_cases h1:k<a.size
 ·by_cases h2:k<b.size
  ·obtain⟨x,hx⟩:=getElem?_lt h1;obtain⟨y,hy⟩:=getElem?_lt h2;by_cases hxy:(x.toNat:Int)<y.toNat
   ·refine(Zf∘ZaR∘Zad∘ZN∘Z3∘Zad∘ZN∘Zh∘Zw∘Zd3∘Ze∘ZcJ∘Zn∘Zd5∘Zn∘Zd5∘Zcw∘ZbW∘Ze∘Zt∘Zc) ?_;refine yj1 L [.tmp 4] fun u H hH hle=>?_;exact nh _ (zgg hall hx hy hxy).symm
   ·by_cases hyx:(y.toNat:Int)<x.toNat
    ·refine(Zf∘ZaR∘Zad∘ZN∘Z3∘Zad∘ZN∘Zh∘Zw∘Zd3∘Ze∘ZcJ∘Zn∘Zd5∘Zn∘Zd5∘ZcQ∘ZaN∘Zaf∘ZcK∘Zn∘Zd5∘Zn∘Zd5∘Zdm∘ZbW∘Ze∘ZC∘Zc) ?_;refine yj1 L [.tmp 4] fun u H hH hle=>?_;exact nh _ (zgh hall hx hy hyx).symm
    ·refine(Zf∘ZaR∘Zad∘ZN∘Z3∘Zad∘ZN∘Zh∘Zw∘Zd3∘Ze∘ZcJ∘Zn∘Zd5∘Zn∘Zd5∘ZcQ∘ZaN∘Zaf∘ZcK∘Zn∘Zd5∘Zn∘Zd5∘Zdz∘ZaN∘Zda∘ZaE∘ZA∘ZaC) ?_;exact ym (k+1) ⟨h1,h2,U9 hall hx hy hxy hyx⟩ T ⟨Z,Z,Z,nm⟩
  ·refine(Zf∘ZaR∘Zad∘ZN∘Z3∘Zad∘ZJ∘Zh∘Zas∘Ze∘ZaQ∘Zad∘Za∘Zad∘ZJ∘Z1∘ZI∘Za∘Zad∘Za∘Zad∘ZO∘ZD∘ZY∘Zc) ?_;refine yj1 L [.tmp 4] fun u H hH hle=>?_;exact nh _ (Va hall T h1).symm
 ·by_cases h2:k<b.size
  ·refine(Zf∘ZaR∘Zad∘ZJ∘Zaz∘Zh∘Zas∘Ze∘ZaQ∘Zad∘Za∘Zad∘ZN∘ZD∘ZM∘Zc) ?_;refine yj1 L [.tmp 4] fun u H hH hle=>?_;exact nh _ (Sz hall T h2).symm
  ·refine(Zf∘ZaR∘Zad∘ZJ∘Zaz∘Zh∘Zas∘Ze∘ZaQ∘Zad∘Za∘Zad∘ZJ∘Z1∘ZI∘Za∘Zad∘Za∘Zad∘ZL∘Zm∘Zaa∘Zc) ?_;refine yj1 L [.tmp 4] fun u H hH hle=>?_;exact nh _ (Vb hall T T).symm
def Lx{d:ByteArray}(ha:a.size<=9223372036854775807)(hb:b.size<=9223372036854775807)(hc:c.size<=9223372036854775807)(hd:d.size<=9223372036854775807)(hB:zth B w):
  Ret zti 229 [.agg #[.string a,.string b],.agg #[.string c,.string d]] w B (fun v _=>v=.int .i64 (zeg a b c d)):=by
 refine yn Tryz.func229 Z Tryz.ntmps229 (np Z) hB ?_;by_cases h:a=c
 ·have h':¬ a≠c:=fun e=>e h;refine(Zaj∘ZG∘Zq∘Zq∘Zdd∘Zm∘ZK∘Zq∘Zq) ?_;refine z71 L Z (fun u H hH _=>iy Q Q hH) ?_;refine Zc (h:=?_);refine yj1 L [.tmp 4] fun u H hH hle=>?_;exact nh _ (zlr h).symm
 ·have h':a≠c:=h;refine(Zaj∘ZG∘Zq∘Zq∘Zf7∘Zcj∘Zq∘Zq) ?_;refine z71 L Z (fun u H hH _=>iy Q Q hH) ?_;refine Zc (h:=?_);refine yj1 L [.tmp 4] fun u H hH hle=>?_;exact nh _ (zls h).symm
def Xc{d:ByteArray}(ha:a.size<=9223372036854775807)(hb:b.size<=9223372036854775807)(hr:r.size<=9223372036854775807)(hc:c.size<=9223372036854775807)(hd:d.size<=9223372036854775807)(hs:s.size<=9223372036854775807)(hB:zth B w):
  Ret zti 174 [.agg #[.string a,.string b,.string r],.agg #[.string c,.string d,.string s]] w B (fun v _=>v=.int .i64 (zf6 a b r c d s)):=by
 refine yn Tryz.func174 Z Tryz.ntmps174 (np Z) hB ?_;by_cases h:a=c/\b=d
 ·have h':=zd6 (nf h);refine(Zaj∘ZG∘ZaX∘ZaX∘ZeJ∘Zm∘ZK∘Zq∘Zq) ?_;refine z71 L Z (fun u H hH _=>iy Q Q hH) ?_;refine Zc (h:=?_);refine yj1 L [.tmp 4] fun u H hH hle=>?_;exact nh _ (zf4 h).symm
 ·have h':=zd6 (ng h);refine(Zaj∘ZG∘ZaX∘ZaX∘ZeJ∘Zcj∘ZaX∘ZaX) ?_;refine z71 L Z (fun u H hH _=>Lx Q Q Q Q hH) ?_;refine Zc (h:=?_);refine yj1 L [.tmp 4] fun u H hH hle=>?_;exact nh _ (zf5 h).symm
def Xb{d:ByteArray}(ha:a.size<=9223372036854775807)(hb:b.size<=9223372036854775807)(hr:r.size<=9223372036854775807)(hc:c.size<=9223372036854775807)(hd:d.size<=9223372036854775807)(hs:s.size<=9223372036854775807)(hB:zth B w):
  Ret zti 175 [.agg #[.string a,.string b,.string r],.agg #[.string c,.string d,.string s]] w B (fun v _=>v=.int .i64 (zf6 a b r c d s)):=by
 refine yn Tryz.func175 Z Tryz.ntmps175 (np Z) hB ?_;by_cases h:a=c/\b=d
 ·have h':=zd6 (nf h);refine(Zaj∘ZG∘ZaX∘ZaX∘ZeJ∘Zm∘ZK∘Zq∘Zq) ?_;refine z71 L Z (fun u H hH _=>iy Q Q hH) ?_;refine Zc (h:=?_);refine yj1 L [.tmp 4] fun u H hH hle=>?_;exact nh _ (zf4 h).symm
 ·have h':=zd6 (ng h);refine(Zaj∘ZG∘ZaX∘ZaX∘ZeJ∘Zcj∘ZaX∘ZaX) ?_;refine z71 L Z (fun u H hH _=>Lx Q Q Q Q hH) ?_;refine Zc (h:=?_);refine yj1 L [.tmp 4] fun u H hH hle=>?_;exact nh _ (zf5 h).symm
end Go.V
end
namespace Go.V
section
variable  {c:α->α->Int}
def Ord3.irr(h:Ord3 c)(a:α):¬ c a a<0:=by rw[h.refl];decide
def Ord3.asym(h:Ord3 c){a b:α}(h1:c a b<0):¬ c b a<0:=by have:=h.anti a b;omega
def Ord3.tr(h:Ord3 c){a b d:α}(h1:c a b<0)(h2:c b d<0):c a d<0:=by
 have h3:=h.trans a b d T T;by_cases h4:c a d=0
 ·have:=h.lt_of (a:=a) (b:=b) (d:=d) T T h4;omega
 ·omega
def Ord3.ne(h:Ord3 c){a b:α}(h1:c a b<0):a≠b:=fun e=>by subst e;exact h.irr a h1
def Ord3.tri(h:Ord3 c){a b:α}(h1:¬ c a b<0)(h2:a≠b):c b a<0:=by
 have:=h.anti a b;have h3:c a b≠0:=fun e=>h2 (h.eq _ _ e);omega
def Sst(c:α->α->Int)(l:List α):Prop:=l.Pairwise fun x y=>c x y<0
def Sst.nil:Sst c []:=List.Pairwise.nil
def Sst.nodup(h:Ord3 c){l:List α}(hs:Sst c l):l.Nodup:=hs.imp fun h1=>h.ne h1
def lf(h:Ord3 c):∀ {l m:List α},Sst c l->Sst c m->(∀ z,z∈l↔z∈m)->l=m
 | [],[],_,_,_=>rfl
 | [],y::m,_,_,e=>by have:=(e y).2 (mb ..);cases this
 | y::l,[],_,_,e=>by have:=(e y).1 (mb ..);cases this
 | y::l,x::m,hl,hm,e=>by
  have h1:=mj.1 hl;have h2:=mj.1 hm
  have exy:y=x:=by
   rcases ma.1 ((e y).1 (mb ..)) with e1 | e1
   ·exact e1
   ·rcases ma.1 ((e x).2 (mb ..)) with e2 | e2
    ·exact e2.symm
    ·exact ni (h1.1 x e2) (h.asym (h2.1 y e1))
  subst exy;congr 1;refine lf h h1.2 h2.2 fun z=>?_;constructor
  ·intro hz;rcases ma.1 ((e z).1 (me _ hz)) with e1 | e1
   ·subst e1;exact ni (h1.1 _ hz) (h.irr _)
   ·exact e1
  ·intro hz;rcases ma.1 ((e z).2 (me _ hz)) with e1 | e1
   ·subst e1;exact ni (h2.1 _ hz) (h.irr _)
   ·exact e1
def om(c:α->α->Int)(t:α):List α->List α
 | []=>[t]
 | y::l=>if c t y<0 then t::y::l else y::om c t l
def ud{t z:α}:∀ {l:List α},z∈om c t l↔z=t\/z∈l
 | []=>by simp [om]
 | y::l=>by
  simp only[om];split
  ·simp
  ·rw[ma,ud,ma];constructor
   ·rintro(e | e | e)
    ·exact .inr (.inl e)
    ·exact .inl e
    ·exact .inr (.inr e)
   ·rintro(e | e | e)
    ·exact .inr (.inl e)
    ·exact .inl e
    ·exact .inr (.inr e)
def wv(t:α):∀ (l:List α),(om c t l).length=l.length+1
 | []=>rfl
 | y::l=>by
  simp only[om];split
  ·rfl
  ·simp only[nz,wv t l]
def dw(h:Ord3 c){t:α}:∀ {l:List α},Sst c l->t∉l->Sst c (om c t l)
 | [],_,_=>zqr ..
 | y::l,hs,ht=>by
  have h1:=mj.1 hs;simp only[om];split
  ·rename_i hlt;refine mj.2 ⟨fun z hz=>?_,hs⟩;rcases ma.1 hz with rfl | hz
   ·exact hlt
   ·exact h.tr hlt (h1.1 z hz)
  ·rename_i hlt;refine mj.2 ⟨fun z hz=>?_,dw h h1.2 fun e=>ht (me _ e)⟩;rcases ud.1 hz with rfl | hz
   ·exact h.tri hlt fun e=>ht (by rw[e];exact mb ..)
   ·exact h1.1 z hz
def g9(c:α->α->Int)(f:Bool->Bool->Bool):Nat->List α->List α->List α
 | 0,_,_=>[]
 | n+1,[],[]=>[]
 | n+1,a::l,[]=>(if f true false=true then [a] else [])++g9 c f n l []
 | n+1,[],b::m=>(if f false true=true then [b] else [])++g9 c f n [] m
 | n+1,a::l,b::m=>
  if c a b<0 then (if f true false=true then [a] else [])++g9 c f n l (b::m)
  else if c a b>0 then (if f false true=true then [b] else [])++g9 c f n (a::l) m
  else (if f true true=true then [a] else [])++g9 c f n l m
def Tk(f:Bool->Bool->Bool)(l m:List α)(z:α):Prop:=(z∈l/\z∉m/\f true false=true)\/(z∉l/\z∈m/\f false true=true)\/(z∈l/\z∈m/\f true true=true)
def g0(h:Ord3 c)(f:Bool->Bool->Bool){z:α}:∀ {n:Nat} {l m:List α},l.length+m.length<=n->Sst c l->Sst c m->(z∈g9 c f n l m↔Tk f l m z)
 | 0,l,m,hn,_,_=>by
  have h1:l=[]:=m7 T;have h2:m=[]:=m7 T;subst h1 h2;simp [g9,Tk]
 | n+1,[],[],_,_,_=>by simp [g9,Tk]
 | n+1,a::l,[],hn,hl,hm=>by
  have h1:=mj.1 hl;have ih:=g0 h f (z:=z) (n:=n) (l:=l) (m:=[]) (by simp only[nz,mz] at hn |-;omega) h1.2 hm;simp only[g9,mh,ih,Tk,ma,zqe,not_false_eq_true,true_and,false_and,and_false,or_false];by_cases hf:f true false=true
  ·simp [hf]
  ·simp [hf]
 | n+1,[],b::m,hn,hl,hm=>by
  have h1:=mj.1 hm;have ih:=g0 h f (z:=z) (n:=n) (l:=[]) (m:=m) (by simp only[nz,mz] at hn |-;omega) hl h1.2;simp only[g9,mh,ih,Tk,ma,zqe,not_false_eq_true,true_and,false_and,and_false,or_false,false_or];by_cases hf:f false true=true
  ·simp [hf]
  ·simp [hf]
 | n+1,a::l,b::m,hn,hl,hm=>by
  have h1:=mj.1 hl;have h2:=mj.1 hm;have ha:a∉l:=fun e=>h.irr a (h1.1 a e);have hb:b∉m:=fun e=>h.irr b (h2.1 b e);simp only[nz] at hn;simp only[g9];by_cases h3:c a b<0
  ·have ih:=g0 h f (z:=z) (n:=n) (l:=l) (m:=b::m) (by simp only[nz];omega) h1.2 hm
   have hab:a∉b::m:=fun e=>by
    rcases ma.1 e with e | e
    ·exact h.ne h3 e
    ·exact h.irr a (h.tr h3 (h2.1 a e))
   rw[na h3,mh,ih];unfold Tk;by_cases hz:z=a
   ·subst hz;by_cases hf:f true false=true<;>simp [hf,ha,hab]
   ·have e1:z∈a::l↔z∈l:=by rw[ma];exact or_iff_right hz
    rw[e1];by_cases hf:f true false=true<;>simp [hf,hz]
  ·rw[nc h3];by_cases h4:c a b>0
   ·have h5:c b a<0:=by have:=h.anti a b;omega
    have ih:=g0 h f (z:=z) (n:=n) (l:=a::l) (m:=m) (by simp only[nz];omega) hl h2.2
    have hba:b∉a::l:=fun e=>by
     rcases ma.1 e with e | e
     ·exact h.ne h5 e
     ·exact h.irr b (h.tr h5 (h1.1 b e))
    rw[na h4,mh,ih];unfold Tk;by_cases hz:z=b
    ·subst hz;by_cases hf:f false true=true<;>simp [hf,hb,hba]
    ·have e1:z∈b::m↔z∈m:=by rw[ma];exact or_iff_right hz
     rw[e1];by_cases hf:f false true=true<;>simp [hf,hz]
   ·have e:a=b:=h.eq _ _ T;subst e;have ih:=g0 h f (z:=z) (n:=n) (l:=l) (m:=m) T h1.2 h2.2;rw[nc h4,mh,ih];unfold Tk;by_cases hz:z=a
    ·subst hz;by_cases hf:f true true=true<;>simp [hf,ha,hb]
    ·have e1:z∈a::l↔z∈l:=by rw[ma];exact or_iff_right hz
     have e2:z∈a::m↔z∈m:=by rw[ma];exact or_iff_right hz
     rw[e1,e2];by_cases hf:f true true=true<;>simp [hf,hz]
def Tk.or{f:Bool->Bool->Bool}{l m:List α}{z:α}(h:Tk f l m z):z∈l\/z∈m:=by
 rcases h with ⟨h,_⟩ | ⟨_,h,_⟩ | ⟨h,_⟩
 ·exact .inl h
 ·exact .inr h
 ·exact .inl h
def zgv(p:Bool)(a:α):Sst c (if p=true then [a] else []):=by
 split
 ·exact zqr ..
 ·exact Sst.nil
def ry{p:Bool}{a:α}{r:List α}(hr:Sst c r)(hlt:∀ z∈r,c a z<0):Sst c ((if p=true then [a] else [])++r):=by
 refine zp4.2 ⟨zgv p a,hr,fun x hx z hz=>?_⟩;split at hx
 ·rw[m4] at hx;subst hx;exact hlt z hz
 ·cases hx
def ae(h:Ord3 c)(f:Bool->Bool->Bool):∀ {n:Nat} {l m:List α},l.length+m.length<=n->Sst c l->Sst c m->Sst c (g9 c f n l m)
 | 0,_,_,_,_,_=>Sst.nil
 | n+1,[],[],_,_,_=>Sst.nil
 | n+1,a::l,[],hn,hl,hm=>by
  have h1:=mj.1 hl;have hn':l.length+([]:List α).length<=n:=by simp only[nz,mz] at hn |-;omega
  refine ry (ae h f hn' h1.2 hm) fun z hz=>?_;rcases((g0 h f hn' h1.2 hm).1 hz).or with e | e
  ·exact h1.1 z e
  ·cases e
 | n+1,[],b::m,hn,hl,hm=>by
  have h1:=mj.1 hm;have hn':([]:List α).length+m.length<=n:=by simp only[nz,mz] at hn |-;omega
  refine ry (ae h f hn' hl h1.2) fun z hz=>?_;rcases((g0 h f hn' hl h1.2).1 hz).or with e | e
  ·cases e
  ·exact h1.1 z e
 | n+1,a::l,b::m,hn,hl,hm=>by
  have h1:=mj.1 hl;have h2:=mj.1 hm;simp only[nz] at hn;simp only[g9];split
  ·rename_i h3;have hn':l.length+(b::m).length<=n:=by simp only[nz];omega
   refine ry (ae h f hn' h1.2 hm) fun z hz=>?_;rcases((g0 h f hn' h1.2 hm).1 hz).or with e | e
   ·exact h1.1 z e
   ·rcases ma.1 e with e | e
    ·rw[e];exact h3
    ·exact h.tr h3 (h2.1 z e)
  ·split
   ·rename_i h4;have h5:c b a<0:=by have:=h.anti a b;omega
    have hn':(a::l).length+m.length<=n:=by simp only[nz];omega
    refine ry (ae h f hn' hl h2.2) fun z hz=>?_;rcases((g0 h f hn' hl h2.2).1 hz).or with e | e
    ·rcases ma.1 e with e | e
     ·rw[e];exact h5
     ·exact h.tr h5 (h1.1 z e)
    ·exact h2.1 z e
   ·have e0:a=b:=h.eq _ _ T;have hn':l.length+m.length<=n:=T;refine ry (ae h f hn' h1.2 h2.2) fun z hz=>?_;rcases((g0 h f hn' h1.2 h2.2).1 hz).or with e | e
    ·exact h1.1 z e
    ·rw[e0];exact h2.1 z e
variable [DecidableEq α]
def g8(c:α->α->Int):List α->List α->List α
 | out,[]=>out
 | out,t::r=>g8 c (if t∈out then out else om c t out) r
def gm(h:Ord3 c):∀ {l out:List α},Sst c out->Sst c (g8 c out l)
 | [],_,hs=>hs
 | t::r,out,hs=>by
  simp only[g8];refine gm h ?_;split
  ·exact hs
  ·rename_i ht;exact dw h hs ht
def gz{z:α}:∀ {l out:List α},z∈g8 c out l↔z∈out\/z∈l
 | [],_=>by simp [g8]
 | t::r,out=>by
  simp only[g8];rw[gz];split
  ·rename_i ht;constructor
   ·rintro(e | e)
    ·exact .inl e
    ·exact .inr (me _ e)
   ·rintro(e | e)
    ·exact .inl e
    ·rcases ma.1 e with rfl | e
     ·exact .inl ht
     ·exact .inr e
  ·rw[ud,ma];constructor
   ·rintro((e | e) | e)
    ·exact .inr (.inl e)
    ·exact .inl e
    ·exact .inr (.inr e)
   ·rintro(e | e | e)
    ·exact .inl (.inr e)
    ·exact .inl (.inl e)
    ·exact .inr e
def eo:∀ (l out:List α),(g8 c out l).length<=out.length+l.length
 | [],_=>nu _
 | t::r,out=>by
  have:=eo r (if t∈out then out else om c t out);simp only[g8];refine mp this ?_;split
  ·simp only[nz];omega
  ·rw[wv];simp only[nz];omega
def Tc(h:Ord3 c){l:List α}(hs:Sst c l):g8 c [] l=l:=lf h (gm h Sst.nil) hs fun z=>by rw[gz];simp
end
end Go.V
section
open Go.V
attribute [local irreducible] Has N Par Ret RetL Src StepOK V VO X
namespace Go.V
def _root_.ZZ(t:Wr Y->A:=by intro h;refine z7 (qq L Z Z Z Z) Z ?_;exact h.1)(h:Y):A:=t ⟨h⟩
def _root_.Zcx(t:Wr Y->A:=by intro h;refine z7 (qk Z Z Z Z) Z ?_;exact h.1)(h:Y):A:=t ⟨h⟩
def _root_.Zbd(t:Wr Y->A:=by intro h;refine z7 (qt L Z Z Z Z) Z ?_;exact h.1)(h:Y):A:=t ⟨h⟩
def _root_.Zr(t:Wr Y->A:=by intro h;refine z7 (yy Z Z Z Z) Z ?_;exact h.1)(h:Y):A:=t ⟨h⟩
def _root_.Ze3(t:Wr Y->A:=by intro h;refine z7 (yu (cs:=[_,_]) Z Z zn4 Z Z) Z ?_;exact h.1)(h:Y):A:=t ⟨h⟩
def _root_.Zc5(t:Wr Y->A:=by exact fun h=>(Zcx∘Zcx) h.1)(h:Y):A:=t ⟨h⟩
def _root_.ZB(t:Wr Y->A:=by exact fun h=>(Za∘Zc5) h.1)(h:Y):A:=t ⟨h⟩
def _root_.ZR(t:Wr Y->A:=by exact fun h=>(Zo∘Zc) h.1)(h:Y):A:=t ⟨h⟩
def _root_.ZaS(t:Wr Y->A:=by exact fun h=>(Zo∘Zd) h.1)(h:Y):A:=t ⟨h⟩
def _root_.Zbm(t:Wr Y->A:=by exact fun h=>(ZP∘ZZ) h.1)(h:Y):A:=t ⟨h⟩
def _root_.ZaP(t:Wr Y->A:=by exact fun h=>(Zo∘Zj) h.1)(h:Y):A:=t ⟨h⟩
def _root_.Zb2(t:Wr Y->A:=by exact fun h=>(ZP∘Zo) h.1)(h:Y):A:=t ⟨h⟩
def _root_.ZbC(t:Wr Y->A:=by exact fun h=>(Zh∘Zb) h.1)(h:Y):A:=t ⟨h⟩
def _root_.ZbX(t:Wr Y->A:=by exact fun h=>(Zh∘Zm) h.1)(h:Y):A:=t ⟨h⟩
def GlobM(B:Heap):Prop:=∃ m cs t fr,B 0=some (.cells cs t fr)/\cs[0]?=some (.int .i64 m)
def GlobM.of_cell{m:Int}(h:w.cell? ⟨0,0,none⟩=some (.int .i64 m)):GlobM (hp w):=by
 unfold World.cell? at h;split at h
 ·rename_i cs t fr hb;exact⟨m,cs,t,fr,hb,by simpa using h⟩
 ·cases h
def GlobM.mono(h:GlobM B)(hl:B.Le H):GlobM H:=let ⟨m,cs,t,fr,hb,hc⟩:=h;⟨m,cs,t,fr,hl _ _ hb,hc⟩
def fg(s:ByteArray)(c:UInt8):ByteArray×ByteArray×Bool:=
 (⟨(Lib.cut s.data.toList [c]).1.toArray⟩,⟨(Lib.cut s.data.toList [c]).2.1.toArray⟩,(Lib.cut s.data.toList [c]).2.2)
def Uf(s:ByteArray)(c:UInt8):Bool:=decide (0<=Lib.indexByte s.data.toList c)
def zit(s:ByteArray)(c:UInt8):Nat:=Lib.countByte s.data.toList c
def ct{c:UInt8}{f:Bool}(hs:s.size<=1000000)(hB:zth B w)(hM:GlobM B)(hf:(fg s c).2.2=f):
  Ret zti 58 [.string s,.string ⟨#[c]⟩] w B (fun v _=>v=.tuple #[.string (fg s c).1,.string (fg s c).2.1,.bool f]):=by
 obtain⟨m,cs,t,fr,hb,hc⟩:=hM;subst hf;refine Ret.of_drawn hB (Tryz.strings_Cut s ⟨#[c]⟩ m w T ?_);rw[kq (hB _ _ hb)];exact hc
def ws{c:UInt8}{f:Bool}(hB:zth B w)(hf:Uf s c=f):
  Ret zti 59 [.string s,.string ⟨#[c]⟩] w B (fun v _=>v=.bool f):=by
 subst hf;exact Ret.of_same hB (Tryz.strings_Contains_one s c w)
def count_ret{c:UInt8}(hB:zth B w):
  Ret zti 187 [.string s,.string ⟨#[c]⟩] w B (fun v _=>v=.int .i64 (zit s c)):=Ret.of_same hB (Tryz.strings_Count_one s c w)
def tc(s:ByteArray)(c:UInt8):(fg s c).1.size<=s.size/\(fg s c).2.1.size<=s.size:=by
 unfold fg Lib.cut;have hl:=ue s;have e:∀ l:List UInt8,(ByteArray.mk l.toArray).size=l.length:=fun l=>by show l.toArray.size=_;simp
 generalize s.data.toList=l at hl |-;rw[<-hl];split
 ·simp only[e,mg,m6];omega
 ·simp only[e,mz];omega
def dk(s:ByteArray):Option (ByteArray×ByteArray×ByteArray×Bool):=
 if ((fg s 58).2.2 && !Uf (fg s 58).1 35 && !Uf (fg s 58).2.1 58)=true/\zit (fg s 58).2.1 35<=1 then
  some ((fg s 58).1,(fg (fg s 58).2.1 35).1,(fg (fg s 58).2.1 35).2.1,(fg (fg s 58).2.1 35).2.2)
 else none
def C5{s a b c:ByteArray}{d:Bool}(h:dk s=some (a,b,c,d)):a.size<=s.size/\b.size<=s.size/\c.size<=s.size:=by
 unfold dk at h;split at h
 ·cases h;have h1:=tc s 58;have h2:=tc (fg s 58).2.1 35;omega
 ·cases h
def Hx{f:Bool}(hs:s.size<=1000000)(hB:zth B w)(hM:GlobM B)(hf:((fg s 58).2.2 && !Uf (fg s 58).1 35 && !Uf (fg s 58).2.1 58)=f):
  Ret zti 186 [.string s,.string ⟨#[58]⟩] w B (fun v _=>v=.tuple #[.string (fg s 58).1,.string (fg s 58).2.1,.bool f]):=by
 subst hf;refine yn Tryz.func186 Z Tryz.ntmps186 (np Z) hB ?_;cases h1:(fg s 58).2.2
 ·refine(Zb2∘Zo∘Zag∘Zb) ?_;refine z71 L Z (fun u H hH hle=>ct M hH (GlobM.mono M hle) M) ?_;refine(ZB∘Zcx∘Zo∘ZaS∘ZaR∘Zb∘Zb0∘ZaF∘ZbU∘Zo∘ZR) ?_;exact yj2 L [.tmp 4,.tmp 5,.tmp 6]
 ·cases h2:Uf (fg s 58).1 35
  ·cases h3:Uf (fg s 58).2.1 58
   ·refine(Zb2∘Zo∘Zag∘Zb) ?_;refine z71 L Z (fun u H hH hle=>ct M hH (GlobM.mono M hle) M) ?_;refine(ZB∘Zcx∘Zo∘ZaS∘ZaR∘Z3) ?_;refine z71 L Z (fun u H hH _=>ws hH M) ?_;refine(Zr∘ZbC) ?_;refine z71 L Z (fun u H hH _=>ws hH M) ?_;refine(Zr∘Zh∘Zo∘ZR) ?_;exact yj2 L [.tmp 4,.tmp 5,.tmp 6]
   ·refine(Zb2∘Zo∘Zag∘Zb) ?_;refine z71 L Z (fun u H hH hle=>ct M hH (GlobM.mono M hle) M) ?_;refine(ZB∘Zcx∘Zo∘ZaS∘ZaR∘Z3) ?_;refine z71 L Z (fun u H hH _=>ws hH M) ?_;refine(Zr∘ZbC) ?_;refine z71 L Z (fun u H hH _=>ws hH M) ?_;refine(Zr∘Zh∘Zo∘ZR) ?_;exact yj2 L [.tmp 4,.tmp 5,.tmp 6]
  ·refine(Zb2∘Zo∘Zag∘Zb) ?_;refine z71 L Z (fun u H hH hle=>ct M hH (GlobM.mono M hle) M) ?_;refine(ZB∘Zcx∘Zo∘ZaS∘ZaR∘Z3) ?_;refine z71 L Z (fun u H hH _=>ws hH M) ?_;refine(Zr∘Zh∘ZbU∘Zo∘ZR) ?_;exact yj2 L [.tmp 4,.tmp 5,.tmp 6]
def Tm(hs:s.size<=1000000)(hB:zth B w)(hM:GlobM B)(h:dk s=none):
  Ret zti 123 [.string s] w B (fun v _=>v=.tuple #[.agg #[.string ⟨#[]⟩,.string ⟨#[]⟩],.string ⟨#[]⟩,.bool false,.bool false]):=by
 refine yn Tryz.func123 Z Tryz.ntmps123 (np Z) hB ?_;unfold dk at h;cases h1:((fg s 58).2.2 && !Uf (fg s 58).1 35 && !Uf (fg s 58).2.1 58)
 ·refine(Zbm∘Zo∘Zo∘Zag∘Zd∘ZaR) ?_;refine z71 L Z (fun u H hH hle=>Hx M hH (GlobM.mono M hle) M) ?_;refine(ZB∘Zcx∘Zo∘ZaP∘ZA∘Zr∘ZbU∘ZD∘Z2∘Ze3∘Zbd∘Zo∘ZR) ?_;refine yj1 L [.cell 2 52,.tmp 3,.tmp 4,.tmp 5] fun u H hH hle=>?_;exact⟨_,y9 Z,rfl,rfl⟩
 ·have h2:¬ zit (fg s 58).2.1 35<=1:=fun h2=>by rw[na ⟨h1,h2⟩] at h;cases h
  clear h;refine(Zbm∘Zo∘Zo∘Zag∘Zd∘ZaR) ?_;refine z71 L Z (fun u H hH hle=>Hx M hH (GlobM.mono M hle) M) ?_;refine(ZB∘Zcx∘Zo∘ZaP∘ZA∘Zr∘Zb) ?_;refine z71 L Z (fun u H hH _=>count_ret hH) ?_;refine(ZO∘Zbb∘Z2∘Ze3∘Zbd∘Zo∘ZR) ?_;refine yj1 L [.cell 2 52,.tmp 3,.tmp 4,.tmp 5] fun u H hH hle=>?_;exact⟨_,y9 Z,rfl,rfl⟩
def Tl{s a b c:ByteArray}{d:Bool}(hs:s.size<=1000000)(hB:zth B w)(hM:GlobM B)(h:dk s=some (a,b,c,d)):
  Ret zti 123 [.string s] w B (fun v _=>v=.tuple #[.agg #[.string a,.string b],.string c,.bool d,.bool true]):=by
 refine yn Tryz.func123 Z Tryz.ntmps123 (np Z) hB ?_;unfold dk at h;split at h
 ·rename_i hc;obtain⟨h1,h2⟩:=hc;cases h;have hz:=tc s 58;have hz2:(fg s 58).2.1.size<=1000000:=T;refine(Zbm∘Zo∘Zo∘Zag∘Zd∘ZaR) ?_;refine z71 L Z (fun u H hH hle=>Hx M hH (GlobM.mono M hle) M) ?_;refine(ZB∘Zcx∘Zo∘ZaP∘ZA∘Zr∘Zb) ?_;refine z71 L Z (fun u H hH _=>count_ret hH) ?_;refine(ZL∘ZbX∘ZU) ?_;refine z71 L Z (fun u H hH hle=>ct M hH (GlobM.mono M hle) Z) ?_;refine(ZB∘Zcx∘Zo∘ZaS∘Zs∘Zb∘Ze3∘Zb∘Zbd∘Zo∘ZR) ?_;refine yj1 L [.cell 2 52,.tmp 3,.tmp 4,.tmp 5] fun u H hH hle=>?_;exact⟨_,y9 Z,rfl,rfl⟩
 ·cases h
def _root_.Zx(t:Wr Y->A:=by intro h;refine z7 (yt Z Z Z Z (ng T)) Z ?_;exact h.1)(h:Y):A:=t ⟨h⟩
def _root_.ZW(t:Wr Y->A:=by intro h;refine z7 (yt Z Z Z Z (nf T)) Z ?_;exact h.1)(h:Y):A:=t ⟨h⟩
def _root_.Zc6(t:Wr Y->A:=by intro h;refine z7 (zw L (vs:=[_,_]) (y9 Z) Z Z Z Z ⟨_,rfl⟩) Z ?_;exact h.1)(h:Y):A:=t ⟨h⟩
def _root_.ZdJ(t:Wr Y->A:=by intro h;refine z71 L Z (fun u H hH hle=>Tl M hH (GlobM.mono M hle) M) ?_;exact h.1)(h:Y):A:=t ⟨h⟩
def _root_.ZdK(t:Wr Y->A:=by intro h;refine z7 (zw L (vs:=[_,_,_]) (y9 Z) Z Z Z Z ⟨_,rfl⟩) Z ?_;exact h.1)(h:Y):A:=t ⟨h⟩
def _root_.ZdE(t:Wr Y->A:=by intro h;refine z7 (yu (cs:=[_,_,_]) Z Z zot Z Z) Z ?_;exact h.1)(h:Y):A:=t ⟨h⟩
def _root_.Zeo(t:Wr Y->A:=by intro h;refine z7 (yu (cs:=[_,_,_]) Z Z zn3 Z Z) Z ?_;exact h.1)(h:Y):A:=t ⟨h⟩
def _root_.Zaw(t:Wr Y->A:=by exact fun h=>(ZZ∘Zbd) h.1)(h:Y):A:=t ⟨h⟩
def _root_.Zy(t:Wr Y->A:=by exact fun h=>(Z9∘Za) h.1)(h:Y):A:=t ⟨h⟩
def _root_.Zan(t:Wr Y->A:=by exact fun h=>(Zi∘Ze) h.1)(h:Y):A:=t ⟨h⟩
def _root_.Z8(t:Wr Y->A:=by exact fun h=>(ZC∘Za) h.1)(h:Y):A:=t ⟨h⟩
def _root_.Zbf(t:Wr Y->A:=by exact fun h=>(Zbd∘Zc) h.1)(h:Y):A:=t ⟨h⟩
def _root_.Zbs(t:Wr Y->A:=by exact fun h=>(Zaw∘Zan) h.1)(h:Y):A:=t ⟨h⟩
def _root_.Zb7(t:Wr Y->A:=by exact fun h=>(Zag∘Za) h.1)(h:Y):A:=t ⟨h⟩
def _root_.Zb8(t:Wr Y->A:=by exact fun h=>(Zaq∘Zm) h.1)(h:Y):A:=t ⟨h⟩
def _root_.Zf8(t:Wr Y->A:=by intro h;refine Zb7 (h:=?_);refine z71 L Z (fun u H hH hle=>Tm M hH (GlobM.mono M hle) M) ?_;exact h.1)(h:Y):A:=t ⟨h⟩
abbrev Bl:ByteArray:=⟨#[]⟩
def poA(s:ByteArray):ByteArray×ByteArray×Int:=
 match dk s with
 | none=>(Bl,Bl,5)
 | some (a,b,_,d)=>if d=true then (Bl,Bl,5) else if u5 [a,b]=0 then (a,b,0) else (Bl,Bl,u5 [a,b])
def pgA(s:ByteArray):ByteArray×ByteArray×ByteArray×Int:=
 match dk s with
 | none=>(Bl,Bl,Bl,5)
 | some (a,b,c,d)=>if d=false then (Bl,Bl,Bl,5) else if u5 [a,b,c]=0 then (a,b,c,0) else (Bl,Bl,Bl,u5 [a,b,c])
def psA(s:ByteArray):ByteArray×ByteArray×ByteArray×Int:=
 match dk s with
 | none=>(Bl,Bl,Bl,5)
 | some (a,b,c,d)=>if u5 [a,b]=0 then (if d=true then (if chk c=0 then (a,b,c,0) else (Bl,Bl,Bl,chk c)) else (a,b,c,0)) else (Bl,Bl,Bl,u5 [a,b])
def zkq{r:ByteArray×ByteArray×ByteArray×Int}(hr:pgA s=r)(hs:s.size<=1000000)(hB:zth B w)(hM:GlobM B):
  Ret zti 60 [.string s] w B (fun v _=>v=.tuple #[.agg #[.string r.1,.string r.2.1,.string r.2.2.1],.int .i64 r.2.2.2]):=by
 refine yn Tryz.func60 Z Tryz.ntmps60 (np Z) hB ?_;unfold pgA at hr
 cases hp:dk s with
 | none=>
  rw[hp] at hr;simp only at hr;subst hr;refine(Zbm∘Zf8∘ZB∘Zc5∘Zaw∘Zo∘ZaP∘Zy∘Zr∘ZcE∘Zbb∘ZK∘Zeo∘Zbf) ?_;refine yj1 L [.cell 2 54,.tmp 3] fun u H hH hle=>?_;exact⟨_,y9 Z,rfl,rfl⟩
 | some p=>
  obtain⟨a,b,c,d⟩:=p;rw[hp] at hr;simp only at hr;have hz:=C5 hp;have ha:a.size<=1099511627776:=T;have hb:b.size<=1099511627776:=T;have hc:c.size<=1099511627776:=T
  cases d with
  | false=>
   rw[na rfl] at hr;subst hr;refine(Zbm∘Zb7∘ZdJ∘ZB∘Zc5∘Zaw∘Zo∘ZaP∘Zy∘Zr∘Zb∘Zr∘Zbb∘ZK∘Zeo∘Zbf) ?_;refine yj1 L [.cell 2 54,.tmp 3] fun u H hH hle=>?_;exact⟨_,y9 Z,rfl,rfl⟩
  | true=>
   rw[nc E] at hr;by_cases h0:u5 [a,b,c]=0
   ·rw[na h0] at hr;subst hr;refine(Zbm∘Zb7∘ZdJ∘ZB∘Zc5∘Zaw∘Zo∘ZaP∘Zy∘Zr∘Zb∘Zr∘ZbX∘Z2∘Zc6∘Za∘Zeo∘Zbs∘Zt∘ZdK) ?_;refine z71 L Z (fun u H hH _=>goal_ret Q Q Q hH) ?_;refine(Zd∘ZQ∘Zb8∘Zv∘ZdK∘Zbf) ?_;refine yj1 L [.cell 2 54,.tmp 3] fun u H hH hle=>?_;exact⟨_,y9 Z,rfl,rfl⟩
   ·rw[nc h0] at hr;subst hr;refine(Zbm∘Zb7∘ZdJ∘ZB∘Zc5∘Zaw∘Zo∘ZaP∘Zy∘Zr∘Zb∘Zr∘ZbX∘Z2∘Zc6∘Za∘Zeo∘Zbs∘Zt∘ZdK) ?_;refine z71 L Z (fun u H hH _=>goal_ret Q Q Q hH) ?_;refine(Zd∘ZQ∘ZaO∘ZC∘Zeo∘Za∘Zbf) ?_;refine yj1 L [.cell 2 54,.tmp 3] fun u H hH hle=>?_;exact⟨_,y9 Z,rfl,rfl⟩
def zkk{r:ByteArray×ByteArray×ByteArray×Int}(hr:psA s=r)(hs:s.size<=1000000)(hB:zth B w)(hM:GlobM B):
  Ret zti 61 [.string s] w B (fun v _=>v=.tuple #[.agg #[.string r.1,.string r.2.1,.string r.2.2.1],.int .i64 r.2.2.2]):=by
 refine yn Tryz.func61 Z Tryz.ntmps61 (np Z) hB ?_;unfold psA at hr
 cases hp:dk s with
 | none=>
  rw[hp] at hr;simp only at hr;subst hr;refine(Zbm∘Zf8∘ZB∘Zc5∘Zaw∘Zo∘ZaP∘Zy∘Zr∘ZD∘ZK∘ZdE∘Zbf) ?_;refine yj1 L [.cell 2 55,.tmp 3] fun u H hH hle=>?_;exact⟨_,y9 Z,rfl,rfl⟩
 | some p=>
  obtain⟨a,b,c,d⟩:=p;rw[hp] at hr;simp only at hr;have hz:=C5 hp;have ha:a.size<=1099511627776:=T;have hb:b.size<=1099511627776:=T;have hc:c.size<=1099511627776:=T;by_cases h0:u5 [a,b]=0
  ·rw[na h0] at hr
   cases d with
   | false=>
    rw[nc E] at hr;subst hr;refine(Zbm∘Zb7∘ZdJ∘ZB∘Zc5∘Zaw∘Zo∘ZaP∘Zy∘Zr∘Zm∘Z2∘Zc6) ?_;refine z71 L Z (fun u H hH _=>l8 Q Q hH) ?_;refine(Zj∘Zt∘Zb∘Zb0∘Zh∘Z1∘Z8∘Zb8∘ZM∘Zc6∘Za∘ZdE∘Zbf) ?_;refine yj1 L [.cell 2 55,.tmp 3] fun u H hH hle=>?_;exact⟨_,y9 Z,rfl,rfl⟩
   | true=>
    rw[na rfl] at hr;by_cases h1:chk c=0
    ·rw[na h1] at hr;subst hr;refine(Zbm∘Zb7∘ZdJ∘ZB∘Zc5∘Zaw∘Zo∘ZaP∘Zy∘Zr∘Zm∘Z2∘Zc6) ?_;refine z71 L Z (fun u H hH _=>l8 Q Q hH) ?_;refine(Zj∘Zt∘Z3∘ZW∘Zh∘Zw∘ZQ∘ZeI∘Zj∘Z8∘Zb8∘ZM∘Zc6∘Za∘ZdE∘Zbf) ?_;refine yj1 L [.cell 2 55,.tmp 3] fun u H hH hle=>?_;exact⟨_,y9 Z,rfl,rfl⟩
    ·rw[nc h1] at hr;subst hr;refine(Zbm∘Zb7∘ZdJ∘ZB∘Zc5∘Zaw∘Zo∘ZaP∘Zy∘Zr∘Zm∘Z2∘Zc6) ?_;refine z71 L Z (fun u H hH _=>l8 Q Q hH) ?_;refine(Zj∘Zt∘Z3∘ZW∘Zh∘Zw∘ZQ∘ZeI∘Zj∘Z8∘ZaO∘Zv∘ZdE∘Za∘Zbf) ?_;refine yj1 L [.cell 2 55,.tmp 3] fun u H hH hle=>?_;exact⟨_,y9 Z,rfl,rfl⟩
  ·rw[nc h0] at hr;subst hr;cases d
   ·refine(Zbm∘Zb7∘ZdJ∘ZB∘Zc5∘Zaw∘Zo∘ZaP∘Zy∘Zr∘Zm∘Z2∘Zc6) ?_;refine z71 L Z (fun u H hH _=>l8 Q Q hH) ?_;refine(Zj∘Zt∘Zb∘Zb0∘Zh∘Z1∘Z8∘ZaO∘Zv∘ZdE∘Za∘Zbf) ?_;refine yj1 L [.cell 2 55,.tmp 3] fun u H hH hle=>?_;exact⟨_,y9 Z,rfl,rfl⟩
   ·refine(Zbm∘Zb7∘ZdJ∘ZB∘Zc5∘Zaw∘Zo∘ZaP∘Zy∘Zr∘Zm∘Z2∘Zc6) ?_;refine z71 L Z (fun u H hH _=>l8 Q Q hH) ?_;refine(Zj∘Zt∘Z3∘Zx∘Zh∘Z1∘Z8∘ZaO∘Zv∘ZdE∘Za∘Zbf) ?_;refine yj1 L [.cell 2 55,.tmp 3] fun u H hH hle=>?_;exact⟨_,y9 Z,rfl,rfl⟩
def zhi{e:Int}(hr:pgA s=(a,b,c,e))(hs:s.size<=1000000)(hB:zth B w)(hM:GlobM B):
  Ret zti 60 [.string s] w B (fun v _=>v=.tuple #[.agg #[.string a,.string b,.string c],.int .i64 e]):=zkq hr hs hB hM
def Xf{e:Int}(hr:psA s=(a,b,c,e))(hs:s.size<=1000000)(hB:zth B w)(hM:GlobM B):
  Ret zti 61 [.string s] w B (fun v _=>v=.tuple #[.agg #[.string a,.string b,.string c],.int .i64 e]):=zkk hr hs hB hM
end Go.V
end
namespace Go.V.L2
open Go.V
abbrev U:=Ed×Ed
def ucs(t:U):List Value:=[.string t.1.1.1,.string t.1.1.2,.string t.1.2,.string t.2.1.1,.string t.2.1.2,.string t.2.2]
def Ge(t:U):(ucs t).length=6:=rfl
def ku:U->U->Int:=Ei R0 R0
def cmpT_ord:Ord3 ku:=cmp3_ord.lex cmp3_ord
def zoh{t v:U}:(t.1.1.1=v.1.1.1/\t.1.1.2=v.1.1.2/\t.1.2=v.1.2/\t.2.1.1=v.2.1.1/\t.2.1.2=v.2.1.2/\t.2.2=v.2.2)↔t=v:=
 ⟨fun⟨a,b,c,d,e,f⟩=>Prod.ext (Prod.ext (Prod.ext a b) c) (Prod.ext (Prod.ext d e) f),fun e=>by subst e;exact⟨rfl,rfl,rfl,rfl,rfl,rfl⟩⟩
instance memU(t:U)(l:List U):Decidable (t∈l):=decidable_of_iff (l.any (fun x=>decide (x=t))=true) (by simp)
def tE(t:U):Int:=if u5 [t.1.1.1,t.1.1.2,t.1.2]=0 then b9 t.2.1.1 t.2.1.2 t.2.2 else u5 [t.1.1.1,t.1.1.2,t.1.2]
abbrev sAt:ByteArray:=⟨#[64]⟩
def tT(t:U):ByteArray:=cr t.1.1.1 t.1.1.2 t.1.2++sAt++oe t.2.1.1 t.2.1.2 t.2.2
def TZ(t:U):Prop:=(t.1.1.1.size<=1099511627776/\t.1.1.2.size<=1099511627776/\t.1.2.size<=1099511627776)/\t.2.1.1.size<=1099511627776/\t.2.1.2.size<=1099511627776/\t.2.2.size<=1099511627776
instance (t:U):Decidable (TZ t):=inferInstanceAs (Decidable (_/\_))
def Gm{α:Type}{c:α->α->Int}(h:Ord3 c):∀ {l:List α},Sst c l↔∀ (j:Nat) (a b:α),l[j]?=some a->l[j+1]?=some b->c a b<0
 | []=>⟨fun _ j a b h1 _=>by simp at h1,fun _=>Sst.nil⟩
 | [x]=>⟨fun _ j a b _ h2=>by simp at h2,fun _=>zqr ..⟩
 | x::y::l=>by
  constructor
  ·intro hs j a b h1 h2;have hp:=mj.1 hs
   cases j with
   | zero=>simp at h1 h2;subst h1 h2;exact hp.1 _ (mb ..)
   | succ j=>exact(Gm h).1 hp.2 j a b (by simpa using h1) (by simpa using h2)
  ·intro hj;have hl:Sst c (y::l):=(Gm h).2 fun j a b h1 h2=>hj (j+1) a b (by simpa using h1) (by simpa using h2);have hxy:c x y<0:=hj 0 x y rfl rfl;refine mj.2 ⟨fun z hz=>?_,hl⟩;rcases ma.1 hz with rfl | hz
   ·exact hxy
   ·exact h.tr hxy ((mj.1 hl).1 z hz)
instance {α:Type}(c:α->α->Int)(l:List α):Decidable (Sst c l):=inferInstanceAs (Decidable (l.Pairwise _))
def isB(l:List U):Bool:=decide (Sst ku l)
def zlk{l:List U}{a b:U}(h1:l[j]?=some a)(h2:l[j+1]?=some b)(h:¬ ku a b<0):isB l=false:=ng fun hs=>h ((Gm cmpT_ord).1 hs j a b h1 h2)
def zia{l:List U}(h:∀ j a b,l[j]?=some a->l[j+1]?=some b->ku a b<0):isB l=true:=nf ((Gm cmpT_ord).2 h)
def ptA(s:ByteArray):U×Int:=
 if (fg s 64).2.2=true/\Uf (fg s 64).2.1 64=false then
  (if (pgA (fg s 64).1).2.2.2=0 then
   (if (psA (fg s 64).2.1).2.2.2=0 then
    (((((pgA (fg s 64).1).1,(pgA (fg s 64).1).2.1),(pgA (fg s 64).1).2.2.1),(((psA (fg s 64).2.1).1,(psA (fg s 64).2.1).2.1),(psA (fg s 64).2.1).2.2.1)),0)
   else ((((⟨#[]⟩,⟨#[]⟩),⟨#[]⟩),((⟨#[]⟩,⟨#[]⟩),⟨#[]⟩)),(psA (fg s 64).2.1).2.2.2))
  else ((((⟨#[]⟩,⟨#[]⟩),⟨#[]⟩),((⟨#[]⟩,⟨#[]⟩),⟨#[]⟩)),(pgA (fg s 64).1).2.2.2))
 else ((((⟨#[]⟩,⟨#[]⟩),⟨#[]⟩),((⟨#[]⟩,⟨#[]⟩),⟨#[]⟩)),5)
end Go.V.L2
namespace Go.V
def zsL(P:Program)(e:TypeId)(k:Nat):List Value:=match P.info? e with
 | some i=>match i.zero with
  | some z=>(madeCells z.cells k).toList
  | none=>[]
 | none=>[]
def En{s:Nat}(h:elI P e=some (s,by_)):(zsL P e k).length=k:=by
 obtain⟨i,z,hi,hz,_,_,_,_⟩:=uf h;unfold zsL;rw[hi];dsimp only;rw[hz];simp [size_madeCells]
def SlE(e:TypeId)(s n:Nat)(xs:List Value):Res where
 P x _ u C:=xs.length=n*s/\((n=0/\x=.slice none 0 0/\∀ k,¬ C k)\/∃ b,x=.slice (some ⟨b,0,none⟩) n n/\u.heap[b]?=some (.cells xs.toArray e)/\n<=maxLen/\∀ k,C k↔k=b)
 st:=fun⟨hl,h⟩ _ _ _ hk=>⟨hl,by
  rcases h with h | ⟨b,h1,h2,h3,h4⟩
  ·exact .inl h
  ·exact .inr ⟨b,h1,(hk b ((h4 b).2 rfl)).trans h2,h3,h4⟩⟩
section
variable             {a:Act}      
def G5(L:Tabs P){kl kc:IntKind}{s:Nat}(c:Nat){q:Int}(hn:Nat.blt d n=true)(hg:gK ops κ ⟨some d,.makeSlice t x y,ty,pos,aft,g⟩=some true)(ht:L.sl t=some e)(he:elI P e=some (s,by_))
  (hx:evK κ x=some (.int kl q)) (hy:evK κ y=some (.int kc p)) (hq:q=c) (hp:p=c) (hb:by_*c<=281474976710656) (hc:c<=maxLen):StepOK P F B n ops O κ ⟨some d,.makeSlice t x y,ty,pos,aft,g⟩ d (.own (SlE e s c (zsL P e (c*s)))):=by
 rintro κ' a u hl ⟨H,fp,hh⟩;unfold After;rw[na (xj hh hl hg)];have en:=hh.env hl;have hzl:=En (k:=c*s) he;obtain⟨i,z,hi,hz,hs1,hs2,hs3,hs4⟩:=uf he;have h1:=en.is_ x _ (by simp [Op.operands]) hx;have h2:=en.is_ y _ (by simp [Op.operands]) hy;subst hp;subst hq
 have hb':(i.bytes:Int)*(c:Int)<=281474976710656:=by
  have h:((by_*c:Nat):Int)<=281474976710656:=T;rw[hs2];rwa [Int.natCast_mul] at h
 have h63:(c:Int)<=9223372036854775807:=by simp [maxLen] at hc;omega
 have hr:=run_make (P:=P) u t e i z (Tabs.sl_spec ht) hi hz kl kc c c T T hb' h63;simp only[zpu] at hr
 have hrun:(execOp a.eval ⟨some d,.makeSlice t x y,ty,pos,aft,g⟩).run P u=.ok (.value (.slice (some ⟨u.heap.size,0,none⟩) c c)) (u.alloc (.cells (madeCells z.cells (c*i.size)) e)):=by
  simp only[execOp,h1,h2,nw,hr,ny];rfl
 rw[hrun];simp only[Upon]
 have hzs:zsL P e (c*s)=(madeCells z.cells (c*i.size)).toList:=by
  unfold zsL;rw[hi];dsimp only;rw[hz,hs1]
 have hg2:=hh.grow (Grow.hid hh.sub (.cells (madeCells z.cells (c*i.size)) e));refine⟨H,_,hg2.putR (C:=fun k=>k=u.heap.size) (by simp [Act.put]) Z (fun t ht=>xr ht) ⟨hzl,.inr ⟨u.heap.size,xz (by rw[hh.size];exact zm hn),by rw[xy,hzs],hc,fun _=>Iff.rfl⟩⟩ (fun k hk=>?_) fun t r' _ ht k hf hk=>?_⟩
 ·subst hk;exact⟨xh (xy u _),jg hh.sub (nu _),.inl hh.keep.size,fun y hy e=>by have:=xh (hh.boxes y hy).1;omega⟩
 ·have:=((hh.slot t _ ht).2 k hf).1;omega
def Has.boxE{t:Nat}{s:Nat}(hm:0<m)(hk:κ t=some (.own (SlE e s m xs)))(h:Has F B O n κ a u):
  ∃ b,(xs.length=m*s/\m<=maxLen)/\Has F B (bx b xs e::O) n (upd κ t (.is (.slice (some ⟨b,0,none⟩) m m))) a u:=by
 obtain⟨H,fp,h⟩:=h;obtain⟨⟨hl,hv⟩,hM⟩:=h.slot t _ hk;rcases hv with ⟨h0,_,_⟩ | ⟨b,hv,hb,h4,hC⟩
 ·omega
 ·have:=h.toBox hk hb ((hC b).2 rfl);rw[hv] at this;exact⟨b,⟨hl,h4⟩,H,fp,this⟩
def Has.unboxE{t b:Nat}{s:Nat}{O1 O2:Boxes}(hO:O=O1++bx b xs e::O2)(hd:F.ds=[])(hk:κ t=some (.is (.slice (some ⟨b,0,none⟩) m m)))(hl:xs.length=m*s)(h4:m<=maxLen)
  (h:Has F B O n κ a u):Has F B (O1++O2) n (upd κ t (.own (SlE e s m xs))) a u:=by
 obtain⟨H,fp,h⟩:=h;subst hO;have hb:=(h.boxes (bx b xs e) (by simp)).1;exact⟨H,_,h.ofBox (by rw[hd];simp) ⟨hl,.inr ⟨b,h.slot t _ hk,hb,h4,fun _=>Iff.rfl⟩⟩⟩
def zl9(t:Nat){s:Nat}{c:Code}(hm:0<m)(hk:κ t=some (.own (SlE e s m xs)))
  (h:∀ b,(xs.length=m*s/\m<=maxLen)->V P F B n (bx b xs e::O) (upd κ t (.is (.slice (some ⟨b,0,none⟩) m m))) c ztg):V P F B n O κ c ztg:=fun a u hh=>
 let ⟨b,h1,h'⟩:=hh.boxE hm hk;h b h1 a u h'
def ze5(t:Nat){b:Nat}{s:Nat}(O1:Boxes){O2:Boxes}{c:Code}(hO:O=O1++bx b xs e::O2)(hk:κ t=some (.is (.slice (some ⟨b,0,none⟩) m m)))(hl:xs.length=m*s)(h4:m<=maxLen)
  (h:V P F B n (O1++O2) (upd κ t (.own (SlE e s m xs))) c ztg) (hd:F.ds=[]:=by rfl):V P F B n O κ c ztg:=fun a u hh=>h a u (hh.unboxE hO hd hk hl h4)
def zhu(L:Tabs P){e':TypeId}{s:Nat}(hn:Nat.blt d n=true)(hg:gK ops κ ⟨some d,.call ⟨.builtin .len,#[.tmp q],#[tt]⟩,ty,pos,aft,g⟩=some true)(hx:κ q=some (.own (SlE e' s m xs)))(ht:L.sl tt=some e):
  StepOK P F B n ops O κ ⟨some d,.call ⟨.builtin .len,#[.tmp q],#[tt]⟩,ty,pos,aft,g⟩ d (.is (.int .i64 m)):=
 kf rfl (zm hn) hg trivial fun a u H fp en=>⟨_,by
  obtain⟨⟨_,⟨rfl,h1,_⟩ | ⟨b,h1,_⟩⟩,_⟩:=en.own_ q _ (by simp [Op.operands,Call.operands]) hx
  ·simp [execOp,resolve,h1,invoke,builtin,Builtin.len_,run_underlying (Tabs.sl_spec ht),goInt]
  ·simp [execOp,resolve,h1,invoke,builtin,Builtin.len_,run_underlying (Tabs.sl_spec ht),goInt],rfl⟩
def Has.pubE{t:Nat}{s:Nat}(hk:κ t=some (.own (SlE e s m xs)))(h:Has F B O n κ a u):Has F B O n (upd κ t (.sat (SlV e s xs m true))) a u:=by
 obtain⟨H,fp,h⟩:=h;obtain⟨⟨hl,hv⟩,hM⟩:=h.slot t _ hk;rcases hv with ⟨rfl,hv,hC⟩ | ⟨b,hv,hb,h4,hC⟩
 ·have hx:xs=[]:=m7 (by simpa using hl);subst hx;have h2:=h.name t;rw[hv] at h2;have h3:Has F B O n (upd κ t (.is (.slice none 0 0))) a u:=⟨H,fp,h2⟩
  have h4:=h3.seen (t:=t) (SlV e s [] 0 true) (xn _ _ _) ns ⟨by simp,.inl ⟨rfl,_,rfl⟩⟩;rw[j8] at h4;exact h4
 ·obtain⟨H',h'⟩:=h.pub (φ:=SlV e s xs m true) hk hb ((hC b).2 rfl) ns fun H' _ hb'=>⟨hl,.inr ⟨b,0,m,_,_,(0,0),hv,hb',by simp,nu _,fun _=>rfl⟩⟩
  exact⟨H',fp,h'⟩
def F6(t:Nat){s:Nat}{c:Code}(hk:κ t=some (.own (SlE e s m xs)))(h:V P F B n O (upd κ t (.sat (SlV e s xs m true))) c ztg):V P F B n O κ c ztg:=fun a u hh=>h a u (hh.pubE hk)
def zkg{f:α->List Value}{s:Nat}(hf:∀ a,(f a).length=s)(l:List α)(k m:Nat)(zs:List Value)(y:α)(hl:l.length=k)(hz:zs.length=(m-k)*s)(hk:k<m):
  (l.flatMap f++zs).take (k*s)++(f y++(l.flatMap f++zs).drop (k*s+s))=(l++[y]).flatMap f++zs.drop s:=by
 have h1:(l.flatMap f).length=k*s:=by
  subst hl;clear hz hk
  induction l with
  | nil=>simp
  | cons x l ih=>rw[zp0,nr,hf,ih,nz,zp6,Nat.one_mul];omega
 have h2:s<=zs.length:=by rw[hz];exact Nat.le_mul_of_pos_left _ T
 rw[<-h1,List.take_left',zqh]
 ·rw[zpi T,mi,show(l.flatMap f).length+s-(l.flatMap f).length=s by omega,zpl];simp
 ·rfl
def zje(w:World)(r:Res)(v:Value)(H:Heap)(u:World):Prop:=∃ C:Nat->Prop,r.P v H u C/\∀ k,C k->w.heap.size<=k/\k<u.heap.size/\H k=none
def RetO(P:Program)(f:FuncId)(args:List Value)(w:World)(B:Heap)(r:Res):Prop:=RetL P f args w B noL (zje w r)
def wh(L:Tabs P){r:Res}{fo:Operand}
  (hop:o.op=.call { callee:=.value fo,args:=args,argTypes:=at_ }) (hd:o.dst=some d) (hn:d<n) (hg:gK ops κ o=some true)
  (hf:evK κ fo=some (.func (.func f) #[] cap.toArray)) (hfn:L.fn f=some ())
  (h:∀ u H,zth H u->B.Le H->Below F.w0.heap.size F.w0 F.w0->Args κ H args.toList [] (fun vs=>RetO P f (vs++cap) u H r)):
  StepOK P F B n ops O κ o d (.own r):=by
 rintro κ' a u hl ⟨H,fp,hh⟩;unfold After;rw[na (xj hh hl hg)];have e:=hh.env hl;have hfe:a.eval fo=.func (.func f) #[] cap.toArray:=e.is_ fo _ (by simp [hop,Op.operands,Call.operands]) hf;have hc:=Args.use e args.toList [] (fun x hx=>by simp [hop,Op.operands,Call.operands] at hx |-;exact .inr hx) (h u H e.sub e.base (Below.refl _ _));simp only[zp9,mi] at hc;rw[uw L hop hfe hfn];simp only[Upon];refine Calls.mono hc fun e' u' hp=>?_;obtain⟨v,rfl,H',g',C,hv,hC⟩:=hp;have h2:=hh.grow g';refine⟨v,rfl,?_⟩;simp only[hd];refine⟨H',_,h2.putR (C:=C) (by simp [Act.put]) Z (fun t ht=>xr ht) (by rw[xz (by rw[hh.size];exact hn)];exact hv) (fun k hk=>?_) fun t r' _ ht k hf hk=>?_⟩
 ·obtain⟨h3,h4,h5⟩:=hC k hk;exact⟨h4,h5,.inl (mp hh.keep.size h3),fun y hy e=>by have:=xh (hh.boxes y hy).1;omega⟩
 ·have h3:=(hC k hk).1;have:=((hh.slot t _ ht).2 k hf).1;omega
def p9{fn:Func}{t:Nat}{r:Res}(hrs:fn.results=#[.tmp t])(hQ:∀ a u,bodyPostM Fence.wide 0 P fn (li F.w0 B0 F.L (zje F.w0 r)) .ret a u->ztg .ret a u)(hs:Since F B0 B)(hk:κ t=some (.own r))(hL:F.L=noL:=by rfl)(hm:zbt F.ds=true:=by rfl):V P F B n O κ .ret ztg:=
 Sl hQ hs (hm:=hm) fun O' a u H fp _ hh=>by
  obtain⟨hown,hM⟩:=hh.slot t _ hk;refine⟨a.eval (.tmp t),?_,fp t,hown,fun k hk=>?_⟩
  ·simp [results,hrs,Act.eval]
  ·obtain⟨h1,h2,h3,_⟩:=hM k hk;refine⟨?_,h1,h2⟩;rcases h3 with h3 | h3
   ·exact h3
   ·have h3':F.L k:=h3;rw[hL] at h3';exact h3'.elim
open Classical in
noncomputable def joinH (H:Heap) (u:World) (C:Nat->Prop):Heap:=fun k=>if C k then hp u k else H k
def d9(h:C k):joinH H u C k=hp u k:=na h
def dl(h:¬ C k):joinH H u C k=H k:=nc h
def sn(h:zth H u):(joinH H u C).Le (hp u):=fun k v hv=>by
 by_cases hc:C k
 ·rwa [d9 hc] at hv
 ·rw[dl hc] at hv;exact h _ _ hv
def Hn(h:∀ k,C k->H k=none):H.Le (joinH H u C):=fun k v hv=>by
 by_cases hc:C k
 ·rw[h k hc] at hv;cases hv
 ·rwa [dl hc]
def zmr(r:Res)(φ:Value->Heap->Prop):Prop:=∀ x H u C,r.P x H u C->φ x (joinH H u C)
def d8{s:Nat}:zmr (SlE e s m xs) (SlV e s xs m true):=fun x H u C ⟨hl,h⟩=>⟨hl,by
 rcases h with ⟨h0,hv,_⟩ | ⟨b,hv,hb,h3,hC⟩
 ·exact .inl ⟨h0,_,hv⟩
 ·exact .inr ⟨b,0,m,_,_,_,hv,(d9 ((hC b).2 rfl)).trans hb,by simp,nu _,fun _=>rfl⟩⟩
def zfn(q:Nat)(l:List Operand):Bool:=l.any fun x=>match x with | .tmp t=>Nat.beq t q | _=>false
def RetO.toRet{f:FuncId}{args:List Value}{r:Res}(h:RetO P f args w B r)(hl:zmr r φ):Ret P f args w B φ:=
 Calls.mono h fun _ u ⟨v,he,H,g,C,h1,h2⟩=>⟨v,he,joinH H u C,⟨g.keep,sn g.sub,fun k x hx=>Hn (fun k hk=>(h2 k hk).2.2) _ _ (g.le _ _ hx),fun k hk hn=>(dl fun hc=>by have:=(h2 k hc).1;omega).trans (g.fresh k hk hn)⟩,hl _ _ _ _ h1⟩
def wz{f:FuncId}{fn:Func}{c:Code}{args:List Value}{r:Res}(hf:P.funcs[f]?=some fn)(hb:fn.body=some c)(hn:fn.ntmps=n)
  (hs:args.length<=n) (hB:zth B w) (h:V P (Fr.pure w) B n [] (Aq 0 args) c (bodyPostM Fence.wide 0 P fn (li w B noL (zje w r)))):RetO P f args w B r:=
 bp hf hb (h _ w ⟨B,fun _=>noL,by subst hn;exact bl noL (fun _ h=>h.elim) hs hB _⟩)
def Has.nilE{t:Nat}(e:TypeId)(s:Nat)(hk:κ t=some (.is (.slice none 0 0)))(h:Has F B O n κ a u):Has F B O n (upd κ t (.own (SlE e s 0 []))) a u:=by
 obtain⟨H,fp,h⟩:=h;exact⟨H,_,h.putR (C:=noL) Z Z (fun _ _=>rfl) ⟨by simp,.inl ⟨rfl,h.slot t _ hk,fun _ h=>h⟩⟩ (fun _ h=>h.elim) fun _ _ _ _ _ _ h=>h⟩
def zl6(t:Nat)(e:TypeId)(s:Nat){c:Code}(hk:κ t=some (.is (.slice none 0 0)))(h:V P F B n O (upd κ t (.own (SlE e s 0 []))) c ztg):V P F B n O κ c ztg:=fun a u hh=>h a u (hh.nilE e s hk)
end
end Go.V
namespace Go.V
def xp(b:Nat)(cs:List Value)(ty:TypeId):Res where
 P _ _ u C:=u.heap[b]?=some (.cells cs.toArray ty)/\∀ k,C k↔k=b
 st:=fun⟨h1,h2⟩ _ _ _ hk=>⟨(hk b ((h2 b).2 rfl)).trans h1,h2⟩
section
variable             {a:Act}      
def Has.hold{t:Nat}(hk:κ t=some (.own (Cell cs ty)))(h:Has F B O n κ a u):∃ b,Has F B O n (upd (upd (upd κ t pg) q (.own (xp b cs ty))) t (.is (.pointer (some ⟨b,0,none⟩)))) a u:=by
 obtain⟨H,fp,h⟩:=h;obtain⟨⟨b,hv,hb,hC⟩,hM⟩:=h.slot t _ hk;have h2:=h.usePut (d:=q) (a':=a) (r':=xp b cs ty) (C:=fp t) hk ⟨Keep.refl _ _,h.sub,mq _,fun _ _ _=>rfl⟩ rfl rfl (fun _ _=>rfl) ⟨hb,hC⟩ fun k hk=>⟨.inl hk,(hM k hk).1,(hM k hk).2.1⟩
 have h3:=h2.name t;rw[hv] at h3;exact⟨b,H,_,h3⟩
def Has.release{t b:Nat}(hk:κ q=some (.own (xp b cs ty)))(ht:κ t=some (.is (.pointer (some ⟨b,0,none⟩))))(h:Has F B O n κ a u):Has F B O n (upd (upd κ q pg) t (.own (Cell cs ty))) a u:=by
 obtain⟨H,fp,h⟩:=h;obtain⟨⟨hb,hC⟩,hM⟩:=h.slot q _ hk;have hx:a.eval (.tmp t)=.pointer (some ⟨b,0,none⟩):=h.slot t _ ht;exact⟨H,_,h.usePut (d:=t) (a':=a) (r':=Cell cs ty) (C:=fp q) hk ⟨Keep.refl _ _,h.sub,mq _,fun _ _ _=>rfl⟩ Z Z (fun _ _=>rfl) ⟨b,hx,hb,hC⟩ fun k hk=>⟨.inl hk,(hM k hk).1,(hM k hk).2.1⟩⟩
def k9(t q:Nat){c:Code}(hk:κ t=some (.own (Cell cs ty)))(h:∀ b,V P F B n O (upd (upd (upd κ t pg) q (.own (xp b cs ty))) t (.is (.pointer (some ⟨b,0,none⟩)))) c ztg):V P F B n O κ c ztg:=fun a u hh=>let ⟨b,h'⟩:=hh.hold (q:=q) hk;h b a u h'
def bq(t q:Nat){b:Nat}{c:Code}(hk:κ q=some (.own (xp b cs ty)))(ht:κ t=some (.is (.pointer (some ⟨b,0,none⟩))))(h:V P F B n O (upd (upd κ q pg) t (.own (Cell cs ty))) c ztg):V P F B n O κ c ztg:=fun a u hh=>h a u (hh.release hk ht)
def StepOKR(P:Program)(F:Fr)(B:Heap)(n:Nat)(ops:Array Oper)(O:Boxes)(κ:Kap)(o:Oper)(q d:Nat)(k:Kn):Prop:=
 ∀ κ' a u,(∀ t∈o.looksAt ops,κ' t=κ t)->κ' q=κ q->Has F B O n κ' a u->After P ops o (fun a' u'=>Has F B O n (upd κ' d k) a' u') a u
def yd{k:Kn}(hs:StepOKR P F B n ops O κ o q d k)(h:VO P F B n O ops (upd κ d k) os ztg):VO P F B n O ops κ (o::os) ztg:=
 fun a u hh=>After.mono (fun a' u' hh'=>h a' u' hh') (hs κ a u (fun _ _=>rfl) rfl hh)
def qz{k:Kn}(hs:StepOKR P F B n ops O κ o q d k)(hd:vd o=some d)(he:(exR ex o).contains q=true)(h:Par P F B n O ops ex (upd κ d k) os ztg):Par P F B n O ops ex κ (o::os) ztg:=by
 have hm:q∈exR ex o:=by simpa using he
 refine⟨[(d,k)],fun p hp=>?_,fun κ' a u hl hh=>hs κ' a u (fun t ht=>hl t (zpz _ ht)) (hl q (zp8 _ (zp8 _ hm))) hh,h⟩;simp only[ma,zqx,or_false] at hp;subst hp;exact zpz _ (by simp [hd])
def As(P:Program)(F:Fr)(B:Heap)(n:Nat)(ops:Array Oper)(O:Boxes)(κ:Kap)(o:Oper)(q:Nat)(k:Kn):Prop:=
 ∀ κ' a u,(∀ t∈o.looksAt ops,κ' t=κ t)->κ' q=κ q->Has F B O n κ' a u->After P ops o (fun a' u'=>Has F B O n (upd κ' q k) a' u') a u
def xl{k:Kn}(hs:As P F B n ops O κ o q k)(h:VO P F B n O ops (upd κ q k) os ztg):VO P F B n O ops κ (o::os) ztg:=
 fun a u hh=>After.mono (fun a' u' hh'=>h a' u' hh') (hs κ a u (fun _ _=>rfl) rfl hh)
def xo{k:Kn}(hs:As P F B n ops O κ o q k)(he:(exO ex o).contains q=true)(h:Par P F B n O ops ex (upd κ q k) os ztg):Par P F B n O ops ex κ (o::os) ztg:=by
 have hm:q∈exO ex o:=by simpa using he
 refine⟨[(q,k)],fun p hp=>?_,fun κ' a u hl hh=>hs κ' a u (fun t ht=>hl t (zpz _ ht)) (hl q (zp8 _ (zpz _ hm))) hh,h⟩;simp only[ma,zqx,or_false] at hp;subst hp;exact zp8 _ hm
def xx(L:Tabs P)(q:Nat){r:Res}{Φ:Heap->Prop}{d f:Nat}{c:Value}{fo:Operand}
  (hop:o.op=.call { callee:=.value fo,args:=args,argTypes:=at_ }) (hd:o.dst=some d) (hn:d<n) (hg:gK ops κ o=some true)
  (hf:evK κ fo=some (.func (.func f) #[] cap.toArray)) (hfn:L.fn f=some ()) (hq:κ q=some (.own r)) (hm:zfn q o.op.operands.toList=false) (hl:∀ v H u C,r.P v H u C->Φ (joinH H u C))
  (h:∀ u H,zth H u->B.Le H->Φ H->Args κ H args.toList [] (fun vs=>Ret P f (vs++cap) u H (fun v _=>v=c))):
  StepOKR P F B n ops O κ o q d (.is c):=by
 rintro κ' a u hlk hqk ⟨H,fp,hh⟩;unfold After;rw[na (xj hh hlk hg)];have e:=hh.env hlk;have hfe:a.eval fo=.func (.func f) #[] cap.toArray:=e.is_ fo _ (by simp [hop,Op.operands,Call.operands]) hf;obtain⟨hown,hM⟩:=hh.slot q _ (hqk.trans hq);have hle:H.Le (joinH H u (fp q)):=Hn fun k hk=>(hM k hk).2.1
 have hqo:∀ t,Operand.tmp t∈o.op.operands->t≠q:=fun t ht e=>by
  subst e;have:zfn t o.op.operands.toList=true:=zr3.2 ⟨Operand.tmp t,by simpa using ht,Nat.beq_refl t⟩;rw[this] at hm;cases hm
 have e1:Env F B O κ o a u (joinH H u (fp q)) fp:=by
  refine⟨e.is_,fun t ψ ht hk=>?_,fun t r' ht hk=>?_,sn hh.sub,fun k v hv=>hle _ _ (hh.base _ _ hv),fun y hy=>?_,hh.keep⟩
  ·have hk':κ' t=some (.sat ψ):=(hlk t (l5 ht)).trans hk;exact hh.mono t _ hk' _ _ _ (e.sat_ t ψ ht hk) hle
  ·obtain⟨h1,h2⟩:=e.own_ t r' ht hk;have hk':κ' t=some (.own r'):=(hlk t (l5 ht)).trans hk;refine⟨r'.st h1 hle (sn hh.sub) ⟨rfl,rfl,rfl,nu _,nu _⟩ fun _ _=>rfl,fun k hk2=>?_⟩;obtain⟨g1,g2,g3,g4⟩:=h2 k hk2;exact⟨g1,(dl (hh.owns t q r' _ (hqo t ht) hk' (hqk.trans hq) k hk2)).trans g2,g3,g4⟩
  ·obtain⟨h1,h2,h3⟩:=e.boxes y hy;exact⟨h1,(dl fun hc=>(hM _ hc).2.2.2 y hy Z).trans h2,h3⟩
 have hc:=Args.use e1 args.toList [] (fun x hx=>by simp [hop,Op.operands,Call.operands] at hx |-;exact .inr hx) (h u (joinH H u (fp q)) e1.sub e1.base (hl _ _ _ _ hown));simp only[zp9,mi] at hc;rw[uw L hop hfe hfn];simp only[Upon];refine Calls.mono hc fun e' u' hp=>?_;obtain⟨v,rfl,H',g',hv⟩:=hp;refine⟨v,rfl,?_⟩;simp only[hd]
 have g2:Grow noL u H u' H:=⟨g'.keep,fun k x hx=>by
  have h1:=hh.sub _ _ hx;exact(g'.keep.block k (xh h1) fun h=>h).trans h1,mq _,fun _ _ _=>rfl⟩
 exact⟨H,fp,(hh.grow g2).put (k:=.is c) hn trivial hv⟩
def kw(L:Tabs P){q b:Nat}{t t':TypeId}{s off:Nat}{cs vs:List Value}(eqs:(evK κ x,κ q,Nat.blt d n)=(some (.pointer (some ⟨b,off,none⟩)),some (.own (xp b cs t')),true))(hg:gK ops κ ⟨some d,.load t x,ty,pos,aft,g⟩=some true)
  (hl:L.ld t=some (true,s)) (hlen:vs.length=s) (hc:∃ r,cs.drop off=vs++r):StepOKR P F B n ops O κ ⟨some d,.load t x,ty,pos,aft,g⟩ q d (.is (.agg vs.toArray)):=by
 obtain⟨hx,hq,hn⟩:=EQ3 eqs;rintro κ' a u hlk hqk ⟨H,fp,hh⟩;unfold After;rw[na (xj hh hlk hg)];have e:=hh.env hlk;have h1:=e.is_ x _ (by simp [Op.operands]) hx;obtain⟨⟨h2,hC⟩,hM⟩:=hh.slot q _ (hqk.trans hq);obtain⟨r,hc⟩:=hc
 have hrun:(execOp a.eval ⟨some d,.load t x,ty,pos,aft,g⟩).run P u=.ok (.value (.agg vs.toArray)) u:=by
  simp only[execOp,h1,Instr.loadAt,Instr.sureAddr,nw,mf,ny]
  rw[w6 (Tabs.ld_spec hl) u _ vs hlen (fun j v hj=>by
   have h3:cs[off+j]?=some v:=by
    have:=nh (·[j]?) hc;simp only[zqa] at this
    rw[this,zqb (by
     rcases m8 j vs.length with h | h
     ·exact h
     ·rw[zpd h] at hj;cases hj)]
    exact hj
   show u.cell? (Addr.add ⟨b,off,none⟩ j)=some v;have:Addr.add ⟨b,off,none⟩ j=⟨b,off+j,none⟩:=by simp [Addr.add]
   rw[this,kq h2];simpa using h3)]
  rfl
 rw[hrun];simp only[Upon];exact⟨H,fp,hh.put (k:=.is (.agg vs.toArray)) (zm hn) trivial Z⟩
def qg(L:Tabs P){b:Nat}{s:Nat}{r:List Value}(eqs:(evK κ x,κ q,Nat.blt d n)=(some (.pointer (some ⟨b,off,none⟩)),some (.own (xp b cs t')),true))(hg:gK ops κ ⟨some d,.load t x,ty,pos,aft,g⟩=some true)
  (hl:L.ld t=some (false,s)) (hc:cs.drop off=v::r):StepOKR P F B n ops O κ ⟨some d,.load t x,ty,pos,aft,g⟩ q d (.is v):=by
 obtain⟨hx,hq,hn⟩:=EQ3 eqs;rintro κ' a u hlk hqk ⟨H,fp,hh⟩;unfold After;rw[na (xj hh hlk hg)];have e:=hh.env hlk;have h1:=e.is_ x _ (by simp [Op.operands]) hx;obtain⟨⟨h2,hC⟩,hM⟩:=hh.slot q _ (hqk.trans hq)
 have h3:cs[off]?=some v:=by
  have:=nh (·[0]?) hc;simpa using this
 have hrun:(execOp a.eval ⟨some d,.load t x,ty,pos,aft,g⟩).run P u=.ok (.value v) u:=by
  simp only[execOp,h1,Instr.loadAt,Instr.sureAddr,nw,mf,ny];rw[gu (Tabs.ld_spec hl) u _ v (by rw[kq h2];simpa using h3)];rfl
 rw[hrun];simp only[Upon];exact⟨H,fp,hh.put (k:=.is v) (zm hn) trivial Z⟩
def yo(L:Tabs P){z b:Nat}{p:Operand}{cs':List Value}(hg:gK ops κ ⟨none,.store t p x,ty,pos,aft,g⟩=some true)
  (eqs:(evK κ p,κ q,evK κ x,L.ld t,(je v).length)=(some (.pointer (some ⟨b,off,none⟩)),some (.own (xp b cs t')),some v,some (ag,z),z)) (hcs:Nat.ble (off+z) cs.length=true) (hpl:(je v).all u7=true) (hr:cs.take off++(je v++cs.drop (off+z))=cs'):
  As P F B n ops O κ ⟨none,.store t p x,ty,pos,aft,g⟩ q (.own (xp b cs' t')):=by
 obtain⟨hp,hq,hx,hl,hlen⟩:=EQ5 eqs;rintro κ' a u hlk hqk ⟨H,fp,hh⟩;subst hr;unfold After;rw[na (xj hh hlk hg)];have e:=hh.env hlk;have hev:=e.is_ x v (by simp [Op.operands]) hx;have hes:=e.is_ p _ (by simp [Op.operands]) hp;have hqs:=hqk.trans hq;obtain⟨⟨hb,hC⟩,hM⟩:=hh.slot q _ hqs
 have hrun:(execOp a.eval ⟨none,.store t p x,ty,pos,aft,g⟩).run P u=.ok .skip (u.setRow b (cs.take off++(je v++cs.drop (off+z))).toArray):=by
  simp only[execOp,hes,hev,Instr.storeAt,Instr.sureAddr,nw,mf,ny];have:=gt (P:=P) (off:=off) (Tabs.ld_spec hl) hb hlen (np hcs) hpl;rw[this];simp
 rw[hrun];simp only[Upon,Act.put];have hset:=setRow_heap u b cs.toArray (cs.take off++(je v++cs.drop (off+z))).toArray t' (0,0) hb;have hbm:=hM b ((hC b).2 rfl)
 have:=hh.usePut (d:=q) (a':=a) (r':=xp b (cs.take off++(je v++cs.drop (off+z))) t') (C:=fun k=>k=b) hqs (v6 hh.sub hb ((hC b).2 rfl) hbm.2.1 _) rfl rfl (fun _ _=>rfl) ⟨hset,fun _=>Iff.rfl⟩ (fun k hk=>by
  subst hk;exact⟨.inl ((hC k).2 rfl),by rw[setRow_size];exact hbm.1,hbm.2.1⟩)
 rw[j8] at this;exact⟨H,_,this⟩
def zjc(t q:Nat){s:Nat}{c:Code}(hm:0<m)(hk:κ t=some (.own (SlE e s m xs)))
  (h:∀ b,xs.length=m*s->V P F B n O (upd (upd (upd κ t pg) q (.own (xp b xs e))) t (.is (.slice (some ⟨b,0,none⟩) m m))) c ztg):V P F B n O κ c ztg:=fun a u hh=>by
 obtain⟨H,fp,hh⟩:=hh;obtain⟨⟨hl,hv⟩,hM⟩:=hh.slot t _ hk;rcases hv with ⟨h0,_,_⟩ | ⟨b,hv,hb,h4,hC⟩
 ·omega
 ·have h2:=hh.usePut (d:=q) (a':=a) (r':=xp b xs e) (C:=fp t) hk ⟨Keep.refl _ _,hh.sub,mq _,fun _ _ _=>rfl⟩ rfl rfl (fun _ _=>rfl) ⟨hb,hC⟩ fun k hk=>⟨.inl hk,(hM k hk).1,(hM k hk).2.1⟩
  have h3:=h2.name t;rw[hv] at h3;exact h b hl a u ⟨H,_,h3⟩
def Ab(L:Tabs P){s:Nat}(hn:Nat.blt d n=true)(hg:gK ops κ ⟨some d,.call ⟨.builtin .append,#[x,y],#[t,t]⟩,ty,pos,aft,g⟩=some true)
  (hx:evK κ x=some (.slice none 0 0)) (hy:Apd F B O κ y m news) (ht:L.sl t=some e) (he:elI P e=some (s,by_)) (hl:news.length=m*s) (h1:news.all u7=true) (hb:m*by_<=140737488355328) (h63:m<=9223372036854775807):
  StepOK P F B n ops O κ ⟨some d,.call ⟨.builtin .append,#[x,y],#[t,t]⟩,ty,pos,aft,g⟩ d (.own (SlR e s m news)):=by
 rintro κ' a u hlk ⟨H,fp,hh⟩;unfold After;rw[na (xj hh hlk hg)];have en:=hh.env hlk;obtain⟨i,z,hi,hz,hs1,hs2,hs3,hs4⟩:=uf he;have hxe:=en.is_ x _ (by simp [Op.operands,Call.operands]) hx;obtain⟨x',u',C',hr,hown',hgr,hC'⟩:=Ea (C:=noL) (xs:=[]) (nn:=0) (x:=.slice none 0 0) u (aty:=ty) (Tabs.sl_spec ht) hi hz hs1 hs2 hs3 hs4 hh.sub ⟨by simp,.inl ⟨rfl,rfl,fun _ h=>h⟩⟩ (fun k hk=>hk.elim) (hy _ a u H fp (by simp [Op.operands,Call.operands]) en) hl (fun v hv=>dj (zph.1 h1 v hv)) T (by rw[zpc];exact hb);rw[zpc,mi] at hown'
 have hrun:(execOp a.eval ⟨some d,.call ⟨.builtin .append,#[x,y],#[t,t]⟩,ty,pos,aft,g⟩).run P u=.ok (.value x') u':=by
  simp only[execOp,resolve,invoke,builtin,nw,mf,ny,zpp,mw,zpk,hxe,hr]
 rw[hrun];simp only[Upon];have h2:=hh.grow hgr;refine⟨H,_,h2.putR (C:=C') (by simp [Act.put]) Z (fun t ht=>xr ht) (by rw[xz (by rw[hh.size];exact zm hn)];exact hown') (fun k hk=>?_) fun t r' _ ht k hf hk=>?_⟩
 ·obtain⟨h3,h4,h5⟩:=hC' k hk;have h3':u.heap.size<=k:=h3.resolve_left fun h=>h;exact⟨h4,h5,.inl (mp hh.keep.size h3'),fun y hy e=>by have:=xh (hh.boxes y hy).1;omega⟩
 ·have h3':u.heap.size<=k:=(hC' k hk).1.resolve_left fun h=>h;have:=((hh.slot t _ ht).2 k hf).1;omega
end
end Go.V
section
open Go.V
attribute [local irreducible] Has N Par Ret RetL Src StepOK V VO X
namespace Go.V.L2
def _root_.Zcl(t:Wr Y->A:=by intro h;refine z8 (yi L (vs:=[_,_,_,_,_,_]) Z Z Z Z Z ⟨_,rfl⟩) Z ?_;exact h.1)(h:Y):A:=t ⟨h⟩
def _root_.Zdn(t:Wr Y->A:=by intro h;refine z8 (yf L _ Z Z Z Z (by first | omega | decide) M) Z ?_;exact h.1)(h:Y):A:=t ⟨h⟩
def _root_.Zab(t:Wr Y->A:=by intro h;refine z8 (qb Z Z Z) Z ?_;exact h.1)(h:Y):A:=t ⟨h⟩
def _root_.Zd6(t:Wr Y->A:=by intro h;refine z8 (Qx Z Z Z Z M) Z ?_;exact h.1)(h:Y):A:=t ⟨h⟩
def _root_.Zcm(t:Wr Y->A:=by intro h;refine z7 (yu (cs:=[_,_,_,_,_,_]) Z Z zn2 Z Z) Z ?_;exact h.1)(h:Y):A:=t ⟨h⟩
def _root_.Zdo(t:Wr Y->A:=by intro h;refine z8 (zw L (vs:=[_,_,_]) (qu Z) Z Z Z Z ⟨_,rfl⟩) Z ?_;exact h.1)(h:Y):A:=t ⟨h⟩
def _root_.Zeb(t:Wr Y->A:=by intro h;refine z8 (Q1 Z Z Z Z (nf T)) Z ?_;exact h.1)(h:Y):A:=t ⟨h⟩
def _root_.Zfn(t:Wr Y->A:=by intro h;refine z71 L Z (fun u H hH hle=>zhi (by first | assumption | rfl) Q hH (GlobM.mono M hle)) ?_;exact h.1)(h:Y):A:=t ⟨h⟩
def _root_.Ze4(t:Wr Y->A:=by intro h;refine z8 (Q1 Z Z Z Z (ng T)) Z ?_;exact h.1)(h:Y):A:=t ⟨h⟩
def _root_.Zf9(t:Wr Y->A:=by intro h;refine z71 L Z (fun u H hH _=>Cj Q Q Q hH) ?_;exact h.1)(h:Y):A:=t ⟨h⟩
def _root_.ZfA(t:Wr Y->A:=by intro h;refine z71 L Z (fun u H hH hle=>Xf (by first | assumption | rfl) Q hH (GlobM.mono M hle)) ?_;exact h.1)(h:Y):A:=t ⟨h⟩
def _root_.ZbD(t:Wr Y->A:=by exact fun h=>(ZN∘Zw) h.1)(h:Y):A:=t ⟨h⟩
def _root_.Zep(t:Wr Y->A:=by exact fun h=>(Zab∘Zl) h.1)(h:Y):A:=t ⟨h⟩
def _root_.Zeq(t:Wr Y->A:=by exact fun h=>(Zep∘Zdn) h.1)(h:Y):A:=t ⟨h⟩
def _root_.ZaT(t:Wr Y->A:=by exact fun h=>(Zeq∘Zcl) h.1)(h:Y):A:=t ⟨h⟩
def _root_.Zbx(t:Wr Y->A:=by exact fun h=>(Zd∘Zy) h.1)(h:Y):A:=t ⟨h⟩
def _root_.ZbE(t:Wr Y->A:=by exact fun h=>(Zbj∘Zem) h.1)(h:Y):A:=t ⟨h⟩
def _root_.ZbF(t:Wr Y->A:=by exact fun h=>(ZbD∘Zd3) h.1)(h:Y):A:=t ⟨h⟩
abbrev uv(t:U):Value:=.agg #[.string t.1.1.1,.string t.1.1.2,.string t.1.2,.string t.2.1.1,.string t.2.1.2,.string t.2.2]
abbrev tyU:TypeId:=57
abbrev US(l:List U)(fu:Bool):Value->Heap->Prop:=SlV tyU 6 (l.flatMap ucs) l.length fu
def f9{l:List U}{t:U}(h:l[i]?=some t):((l.flatMap ucs).drop (i*6)).take 6=[.string t.1.1.1,.string t.1.1.2,.string t.1.2,.string t.2.1.1,.string t.2.1.2,.string t.2.2]:=fw Ge l i t h
def ky{t:U}(hz:TZ t)(hB:zth B w):Ret zti 104 [uv t] w B (fun v _=>v=.int .i64 (tE t)):=by
 obtain⟨⟨z1,z2,z3⟩,z4,z5,z6⟩:=hz;unfold tE;refine yn Tryz.func104 Z Tryz.ntmps104 (np Z) hB ?_;by_cases h:u5 [t.1.1.1,t.1.1.2,t.1.2]=0
 ·rw[na h];refine(Zu∘ZG∘ZbE) ?_;refine z71 L Z (fun u H hH _=>goal_ret Q Q Q hH) ?_;refine(Zbx∘Zb8∘Z2∘ZbE∘Zf9∘Zc) ?_;exact yj2 L [.tmp 2]
 ·rw[nc h];refine(Zu∘ZG∘ZbE) ?_;refine z71 L Z (fun u H hH _=>goal_ret Q Q Q hH) ?_;refine(Zbx∘ZaO∘ZA∘Zc) ?_;exact yj2 L [.tmp 2]
def ju{a b:U}(hB:zth B w):Ret zti 74 [uv a,uv b] w B (fun v _=>v=.int .i64 (ku a b)):=by
 refine yn Tryz.func74 Z Tryz.ntmps74 (np Z) hB ((Zaj∘Zd∘ZbV∘Zbc∘Zdo∘Zbc∘Zdo) ?_);refine z81 L Z (fun u H hH _=>Hy hH) ?_;refine(Zbc∘Zdo∘Zbc∘Zdo) ?_;refine z81 L Z (fun u H hH _=>cmpU_ret hH) ?_;refine Zd4 (h:=?_);refine z8 (q0 L Z Z (zm Z) Z Z Z (fun u H hH _ _ v hv=>G1 hH hv)) Z (ZaB (h:=?_));exact yj2 L [.tmp 4]
def subjT_size(a b c:ByteArray):(oe a b c).size<=a.size+b.size+c.size+2:=by
 unfold oe;split
 ·rw[objT_size];omega
 ·rw[goalT_size];omega
def Kw{t:U}(hz:TZ t)(hB:zth B w):Ret zti 18 [uv t] w B (fun v _=>v=.string (tT t)):=by
 obtain⟨⟨z1,z2,z3⟩,z4,z5,z6⟩:=hz;have h0:sAt.size=1:=rfl;have h1:=goalT_size t.1.1.1 t.1.1.2 t.1.2;have h2:=subjT_size t.2.1.1 t.2.1.2 t.2.2;have h3:(cr t.1.1.1 t.1.1.2 t.1.2).size+sAt.size<=9223372036854775807:=T;have h4:(cr t.1.1.1 t.1.1.2 t.1.2++sAt).size+(oe t.2.1.1 t.2.1.2 t.2.2).size<=9223372036854775807:=by rw[zpw];omega
 refine yn Tryz.func18 Z Tryz.ntmps18 (np Z) hB ((Zu∘Zd∘ZbV∘Zbc∘Zdo) ?_);refine z81 L Z (fun u H hH _=>A7 Q Q Q hH) ?_;refine(Zen∘Zbc∘Zdo) ?_;refine z81 L Z (fun u H hH _=>K5 Q Q Q hH) ?_;refine(Zen∘ZaB) ?_;exact yj2 L [.tmp 2]
def Es{r:U×Int}(hr:ptA s=r)(hs:s.size<=1000000)(hB:zth B w)(hM:GlobM B):
  Ret zti 17 [.string s] w B (fun v _=>v=.tuple #[uv r.1,.int .i64 r.2]):=by
 subst hr;have hz:=tc s 64;have hz1:(fg s 64).1.size<=1000000:=T;have hz2:(fg s 64).2.1.size<=1000000:=T;unfold ptA;refine yn Tryz.func17 Z Tryz.ntmps17 (np Z) hB ?_;cases h1:(fg s 64).2.2
 ·rw[nc (fun h=>by cases h.1)];refine(Zbm∘Zb7) ?_;refine z71 L Z (fun u H hH hle=>ct M hH (GlobM.mono M hle) M) ?_;refine(ZB∘Zcx∘Zo∘ZaP∘Zy∘Zr∘ZcE∘Zbb∘ZK∘Zcm∘Zbf) ?_;refine yj1 L [.cell 2 57,.tmp 3] fun u H hH hle=>?_;exact⟨_,y9 Z,rfl,rfl⟩
 ·cases h2:Uf (fg s 64).2.1 64
  ·rw[na ⟨rfl,rfl⟩];rcases hp:pgA (fg s 64).1 with ⟨a,b,c,e⟩
   dsimp only;by_cases he:e=0
   ·rw[na he];rcases hq:psA (fg s 64).2.1 with ⟨a',b',c',e'⟩
    dsimp only;by_cases he':e'=0
    ·rw[na he'];refine(Zbm∘Zb7) ?_;refine z71 L Z (fun u H hH hle=>ct M hH (GlobM.mono M hle) M) ?_;refine(ZB∘Zcx∘Zo∘ZaP∘Zy∘Zr∘Zb) ?_;refine z71 L Z (fun u H hH _=>ws hH M) ?_;refine(ZbX∘Z0∘Zfn∘ZB∘Zaw∘Zj∘ZU∘Zb8∘Z8∘ZfA∘ZB∘Zaw∘Zj∘ZaQ∘Zb8∘ZI∘ZdK∘ZdK∘Zcm∘Zbf) ?_;refine yj1 L [.cell 2 57,.tmp 3] fun u H hH hle=>?_;exact⟨_,y9 Z,rfl,rfl⟩
    ·rw[nc he'];refine(Zbm∘Zb7) ?_;refine z71 L Z (fun u H hH hle=>ct M hH (GlobM.mono M hle) M) ?_;refine(ZB∘Zcx∘Zo∘ZaP∘Zy∘Zr∘Zb) ?_;refine z71 L Z (fun u H hH _=>ws hH M) ?_;refine(ZbX∘Z0∘Zfn∘ZB∘Zaw∘Zj∘ZU∘Zb8∘Z8∘ZfA∘ZB∘Zaw∘Zj∘ZaQ∘ZaO∘ZM∘Zcm∘Za∘Zbf) ?_;refine yj1 L [.cell 2 57,.tmp 3] fun u H hH hle=>?_;exact⟨_,y9 Z,rfl,rfl⟩
   ·rw[nc he];refine(Zbm∘Zb7) ?_;refine z71 L Z (fun u H hH hle=>ct M hH (GlobM.mono M hle) M) ?_;refine(ZB∘Zcx∘Zo∘ZaP∘Zy∘Zr∘Zb) ?_;refine z71 L Z (fun u H hH _=>ws hH M) ?_;refine(ZbX∘Z0∘Zfn∘ZB∘Zaw∘Zj∘ZU∘ZaO∘Zs∘Zcm∘Za∘Zbf) ?_;refine yj1 L [.cell 2 57,.tmp 3] fun u H hH hle=>?_;exact⟨_,y9 Z,rfl,rfl⟩
  ·rw[nc (fun h=>by cases h.2)];refine(Zbm∘Zb7) ?_;refine z71 L Z (fun u H hH hle=>ct M hH (GlobM.mono M hle) M) ?_;refine(ZB∘Zcx∘Zo∘ZaP∘Zy∘Zr∘Zb) ?_;refine z71 L Z (fun u H hH _=>ws hH M) ?_;refine(Zbb∘ZK∘Zcm∘Zbf) ?_;refine yj1 L [.cell 2 57,.tmp 3] fun u H hH hle=>?_;exact⟨_,y9 Z,rfl,rfl⟩
def ov{l:List U}{fu:Bool}(hl:l.length<=1000000){r:Bool}(hr:isB l=r){v:Value}(hB:zth B w)(hv:US l fu v B):
  Ret zti 32 [v] w B (fun v _=>v=.bool r):=by
 subst hr;refine yn Tryz.func32 Z Tryz.ntmps32 (np Z) hB (k8 0 (US l fu) Z ns hv ((ZP∘ZG∘ZaJ) ?_))
 refine xm (fun i:Nat=>[(0,.sat (US l fu)),(3,.is (.int .i64 (i+1:Nat)))])
  (fun i=>∀ j a b,j<i->l[j]?=some a->l[j+1]?=some b->ku a b<0) (fun i=>l.length-i) 0 (fun j a b h=>by omega) ⟨rfl,rfl,nm⟩ ?_
 rintro i hall;by_cases hlt:i+1<l.length
 ·obtain⟨a,ha⟩:=xk (show i<l.length by omega);obtain⟨b,hb⟩:=xk hlt;have hca:=f9 ha;have hcb:=f9 hb;have hsub:IntKind.i64.wrap (((i+1:Nat):Int)-1)=(i:Int):=xb T T |>.trans T;by_cases hc:ku a b<0
  ·refine(Zf∘Zy∘Zg∘ZbF∘ZcJ∘Zep∘Zd6∘Zdn∘Zcl∘ZaT) ?_;refine z81 L Z (fun u H hH _=>ju hH) ?_;refine(Ze4∘ZaN∘Zda∘ZaE∘ZA∘ZaC) ?_
   exact ym (x:=i) (i+1) (fun j a' b' hj h1 h2=>by
    by_cases hji:j=i
    ·subst hji;rw[ha] at h1;rw[hb] at h2;cases h1;cases h2;exact hc
    ·exact hall j a' b' T h1 h2) T ⟨Z,Z,nm⟩
  ·rw[zlk ha hb hc];refine(Zf∘Zy∘Zg∘ZbF∘ZcJ∘Zep∘Zd6∘Zdn∘Zcl∘ZaT) ?_;refine z81 L Z (fun u H hH _=>ju hH) ?_;refine(Zeb∘ZbW∘Ze∘Zt∘Zc) ?_;exact yj2 L [.tmp 2]
 ·rw[zia fun j a b h1 h2=>hall j a b (by
   have:j+1<l.length:=by
    rcases m8 (j+1) l.length with h | h
    ·exact h
    ·rw[zpd h] at h2;cases h2
   omega) h1 h2]
  refine(Zf∘Zy∘Zg∘ZJ∘Zas∘Zs∘Zc) ?_;exact yj2 L [.tmp 2]
end Go.V.L2
namespace Go.V
def _root_.Zb3(t:Wr Y->A:=by intro h;refine z7 (Q1 Z Z Z Z (nf T)) Z ?_;exact h.1)(h:Y):A:=t ⟨h⟩
def _root_.Za4(t:Wr Y->A:=by intro h;refine z7 (Q1 Z Z Z Z (ng T)) Z ?_;exact h.1)(h:Y):A:=t ⟨h⟩
def _root_.Zc7(t:Wr Y->A:=by intro h;refine z7 (Q0 Z Z Z Z (ng T)) Z ?_;exact h.1)(h:Y):A:=t ⟨h⟩
def _root_.ZcF(t:Wr Y->A:=by intro h;refine z7 (Q0 Z Z Z Z (nf T)) Z ?_;exact h.1)(h:Y):A:=t ⟨h⟩
def _root_.Zc8(t:Wr Y->A:=by exact fun h=>(ZK∘Zb) h.1)(h:Y):A:=t ⟨h⟩
def _root_.ZbM(t:Wr Y->A:=by exact fun h=>(Zf∘Zc8) h.1)(h:Y):A:=t ⟨h⟩
def i6(hs:s.size<=9223372036854775807)(hB:zth B w):
  Ret zti 232 [.string s] w B (fun v _=>v=.int .i64 (chk s)):=by
 refine yn Tryz.func232 Z Tryz.ntmps232 (np Z) hB ?_;by_cases h0:1<=s.size/\s.size<=16
 ·obtain⟨h1,h2⟩:=h0;refine(Z4∘Za∘Zad∘ZO∘Zb∘Zad∘ZcF∘Zh∘Zj∘Z9∘ZaJ) ?_
  refine xm (fun p:Nat×Bool=>[(0,.is (.string s)),(3,.is (.bool p.2)),(4,.is (.int .i64 p.1))])
   (fun p=>p.1<=s.size/\(p.2=true->(s.data.toList.take p.1).all okB=true)/\(p.2=false->chk s=6)) (fun p=>s.size-p.1) (0,true) ⟨mc _,fun _=>by simp,fun h=>by cases h⟩ ⟨rfl,rfl,rfl,nm⟩ ?_
  rintro⟨k,b⟩ ⟨hk,hall,hbad⟩;dsimp only at hk hall hbad |-;by_cases hlt:k<s.size
  ·cases b with
   | false=>
    refine(ZbM∘Zad∘ZN∘Zb∘Zh∘Zas∘Ze∘ZQ∘Zm∘Zv∘Zc) ?_;refine yj1 L [.tmp 2] fun u H hH hle=>?_;exact nh _ (hbad Z).symm
   | true=>
    obtain⟨c,hc⟩:=getElem?_lt hlt;have hu:=zjv c;by_cases a1:97<=(c.toNat:Int)
    ·by_cases a4:(c.toNat:Int)<=122
     ·refine(ZbM∘Zad∘ZN∘Zb∘Zh∘Zw∘Zaf∘Zam∘Zt∘Zb∘Zbr∘Zb3∘Z3∘Zbr∘ZcF∘Zh∘Zaz∘Zb0∘Zb0∘Zb0∘Zh∘Zbw∘ZaE∘Z0∘ZaC) ?_;exact ym (x:=(k,true)) (k+1,true) ⟨hlt,fun _=>Bi hc (zku T T) (hall Z),fun h=>(by cases h)⟩ G ⟨Z,Z,Z,nm⟩
     ·refine(ZbM∘Zad∘ZN∘Zb∘Zh∘Zw∘Zaf∘Zam∘Zt∘Zb∘Zbr∘Zb3∘Z3∘Zbr∘Zc7∘Zh∘Z3∘Zbr∘Zb3∘Z3∘Zbr∘Zc7∘Zh∘Zh∘Zbw∘ZaE∘Z0∘ZaC) ?_;exact ym (x:=(k,true)) (k+1,false) ⟨hlt,fun h=>(by cases h),fun _=>Fx hc (zkv T)⟩ G ⟨Z,Z,Z,nm⟩
    ·by_cases a2:48<=(c.toNat:Int)
     ·by_cases a3:(c.toNat:Int)<=57
      ·refine(ZbM∘Zad∘ZN∘Zb∘Zh∘Zw∘Zaf∘Zam∘Zt∘Zb∘Zbr∘Za4∘Zaz∘Zh∘Z3∘Zbr∘Zb3∘Z3∘Zbr∘ZcF∘Zh∘Zh∘Zbw∘ZaE∘Z0∘ZaC) ?_;exact ym (x:=(k,true)) (k+1,true) ⟨hlt,fun _=>Bi hc (zkt T T) (hall Z),fun h=>(by cases h)⟩ G ⟨Z,Z,Z,nm⟩
      ·refine(ZbM∘Zad∘ZN∘Zb∘Zh∘Zw∘Zaf∘Zam∘Zt∘Zb∘Zbr∘Za4∘Zaz∘Zh∘Z3∘Zbr∘Zb3∘Z3∘Zbr∘Zc7∘Zh∘Zh∘Zbw∘ZaE∘Z0∘ZaC) ?_;exact ym (x:=(k,true)) (k+1,false) ⟨hlt,fun h=>(by cases h),fun _=>Fx hc (zkw T T)⟩ G ⟨Z,Z,Z,nm⟩
     ·refine(ZbM∘Zad∘ZN∘Zb∘Zh∘Zw∘Zaf∘Zam∘Zt∘Zb∘Zbr∘Za4∘Zaz∘Zh∘Z3∘Zbr∘Za4∘Zaz∘Zh∘Zh∘Zbw∘ZaE∘Z0∘ZaC) ?_;exact ym (x:=(k,true)) (k+1,false) ⟨hlt,fun h=>(by cases h),fun _=>Fx hc (zkx T T)⟩ G ⟨Z,Z,Z,nm⟩
  ·cases b with
   | false=>
    refine(ZbM∘Zad∘ZJ∘Za∘ZaF∘Zas∘Ze∘ZQ∘Zm∘Zv∘Zc) ?_;refine yj1 L [.tmp 2] fun u H hH hle=>?_;exact nh _ (hbad Z).symm
   | true=>
    refine(ZbM∘Zad∘ZJ∘Za∘ZaF∘Zas∘Ze∘ZQ∘ZD∘ZC∘Zc) ?_;refine yj1 L [.tmp 2] fun u H hH hle=>?_;exact nh _ (za2 h1 h2 (Sg T (hall Z))).symm
 ·have hbad:=Pn h0;by_cases h1:1<=s.size
  ·have h2:16<s.size:=T;refine(Z4∘Za∘Zad∘ZO∘Zb∘Zad∘Zc7∘Zh∘Zj∘Z9∘ZaJ) ?_;refine xm (fun _:Unit=>[(0,.is (.string s)),(3,.is (.bool false)),(4,.is (.int .i64 0))]) (fun _=>True) (fun _=>0) () trivial ⟨Z,Z,Z,nm⟩ ?_;rintro _ _;refine(ZbM∘Zad∘ZN∘Zb∘Zh∘Zas∘Ze∘ZQ∘Zm∘Zv∘Zc) ?_;refine yj1 L [.tmp 2] fun u H hH hle=>?_;exact nh _ hbad.symm
  ·refine(Z4∘Za∘Zad∘ZL∘ZbU∘Zj∘Z9∘ZaJ) ?_;refine xm (fun _:Unit=>[(0,.is (.string s)),(3,.is (.bool false)),(4,.is (.int .i64 0))]) (fun _=>True) (fun _=>0) () trivial ⟨Z,Z,Z,nm⟩ ?_;rintro _ _;refine(ZbM∘Zad∘ZJ∘Za∘ZaF∘Zas∘Ze∘ZQ∘Zm∘Zv∘Zc) ?_;refine yj1 L [.tmp 2] fun u H hH hle=>?_;exact nh _ hbad.symm
def max2(a b:ByteArray):(if chk b>chk a then chk b else chk a)=u5 [a,b]:=by
 simp only[u5];rcases wt a with h | h<;>rcases wt b with h' | h'<;>simp [h,h']
def zn7(a b c:ByteArray):(if chk c>u5 [a,b] then chk c else u5 [a,b])=u5 [a,b,c]:=by
 simp only[u5];rcases wt a with h | h<;>rcases wt b with h' | h'<;>rcases wt c with h'' | h''<;>simp [h,h',h'']
def o0(ha:a.size<=9223372036854775807)(hb:b.size<=9223372036854775807)(hB:zth B w):
  Ret zti 231 [.agg #[.string a,.string b]] w B (fun v _=>v=.int .i64 (u5 [a,b])):=by
 refine yn Tryz.func231 Z Tryz.ntmps231 (np Z) hB ((Zu∘Zd∘ZbV∘Zbk) ?_);refine z81 L Z (fun u H hH _=>i6 (by first | omega | decide) hH) ?_;refine Zbk (h:=?_);refine z81 L Z (fun u H hH _=>i6 (by first | omega | decide) hH) ?_;refine z8 (sd Z Z Z Z Z) Z (ZaB (h:=?_));refine yj1 L [.tmp 2] fun u H hH hle=>?_;exact nh _ (max2 a b)
def V7(ha:a.size<=9223372036854775807)(hb:b.size<=9223372036854775807)(hc:c.size<=9223372036854775807)(hB:zth B w):
  Ret zti 176 [.agg #[.string a,.string b,.string c]] w B (fun v _=>v=.int .i64 (u5 [a,b,c])):=by
 refine yn Tryz.func176 Z Tryz.ntmps176 (np Z) hB ((Zu∘Zd∘ZbV∘Zbc∘ZcP) ?_);refine z81 L Z (fun u H hH _=>o0 Q Q hH) ?_;refine Zbk (h:=?_);refine z81 L Z (fun u H hH _=>i6 (by first | omega | decide) hH) ?_;refine z8 (sd Z Z Z Z Z) Z (ZaB (h:=?_));refine yj1 L [.tmp 2] fun u H hH hle=>?_;exact nh _ (zn7 a b c)
def _root_.Zc9(t:Wr Y->A:=by intro h;refine qo (id:=3) [] ki J ?_;exact h.1)(h:Y):A:=t ⟨h⟩
def zcx(h:c.size=0):c=⟨#[]⟩:=by
 obtain⟨⟨l⟩⟩:=c;have h':l.length=0:=h;rw[m7 h']
def Lu(ha:a.size<=9223372036854775807)(hb:b.size<=9223372036854775807)(hc:c.size<=9223372036854775807)(hB:zth B w):
  Ret zti 177 [.agg #[.string a,.string b,.string c]] w B (fun v _=>v=.int .i64 (b9 a b c)):=by
 refine yn Tryz.func177 Z Tryz.ntmps177 (np Z) hB ?_;by_cases h:c.size=0
 ·refine(Zu∘ZG∘Zq∘Zad∘ZW∘Zcj∘ZaX) ?_;refine z71 L Z (fun u H hH _=>o0 Q Q hH) ?_;refine Zc (h:=?_);refine yj1 L [.tmp 2] fun u H hH hle=>?_;exact nh (Value.int .i64) (show u5 [a,b]=b9 a b c from(na (zcx h)).symm)
 ·refine(Zu∘ZG∘Zq∘Zad∘Zx∘Zm∘Zc9∘Zbc∘ZcP) ?_;refine z81 L Z (fun u H hH _=>o0 Q Q hH) ?_;refine Zbk (h:=?_);refine z81 L Z (fun u H hH _=>i6 (by first | omega | decide) hH) ?_;refine z8 (sd Z Z Z Z Z) Z (ZaB (h:=?_));refine yj1 L [.tmp 2] fun u H hH hle=>?_;exact nh (Value.int .i64) ((zn7 a b c).trans (show u5 [a,b,c]=b9 a b c from(nc (fun e=>h (by subst e;rfl))).symm))
end Go.V
namespace Go.V.L2
def _root_.ZaY(t:Wr Y->A:=by intro h;refine z8 (zw L (vs:=[_,_,_,_,_,_]) (qu Z) Z Z Z Z ⟨_,rfl⟩) Z ?_;exact h.1)(h:Y):A:=t ⟨h⟩
def By:∀ (l:List ByteArray),u5 l=0\/u5 l=6
 | []=>.inl rfl
 | s::l=>by
  simp only[u5];split
  ·exact By l
  ·rename_i h;exact .inr ((wt s).resolve_left h)
def K6(a b c:ByteArray):b9 a b c=0\/b9 a b c=6:=by
 unfold b9;split<;>exact By _
def zj8(t:U):(if b9 t.2.1.1 t.2.1.2 t.2.2>u5 [t.1.1.1,t.1.1.2,t.1.2] then b9 t.2.1.1 t.2.1.2 t.2.2 else u5 [t.1.1.1,t.1.1.2,t.1.2])=tE t:=by
 unfold tE;rcases By [t.1.1.1,t.1.1.2,t.1.2] with h | h<;>rcases K6 t.2.1.1 t.2.1.2 t.2.2 with h' | h'<;>rw[h,h']<;>decide
def eqU{t v:U}{r:Bool}(e:decide (t=v)=r):ig [0,0,0,0,0,0] [.string t.1.1.1,.string t.1.1.2,.string t.1.2,.string t.2.1.1,.string t.2.1.2,.string t.2.2] [.string v.1.1.1,.string v.1.1.2,.string v.1.2,.string v.2.1.1,.string v.2.1.2,.string v.2.2]=some r:=by
 subst e;simp only[ig,eqC];have h:=@zoh t v;by_cases hh:t=v
 ·subst hh;simp
 ·rw[ng hh];have h':=fun x=>hh (h.1 x);by_cases a1:t.1.1.1=v.1.1.1
  ·by_cases a2:t.1.1.2=v.1.1.2
   ·by_cases a3:t.1.2=v.1.2
    ·by_cases a4:t.2.1.1=v.2.1.1
     ·by_cases a5:t.2.1.2=v.2.1.2
      ·by_cases a6:t.2.2=v.2.2
       ·exact ni ⟨a1,a2,a3,a4,a5,a6⟩ h'
       ·simp [a6]
      ·simp [a5]
     ·simp [a4]
    ·simp [a3]
   ·simp [a2]
  ·simp [a1]
def eq3{g h:Ed}{r:Bool}(e:decide (g=h)=r):ig [0,0,0] [.string g.1.1,.string g.1.2,.string g.2] [.string h.1.1,.string h.1.2,.string h.2]=some r:=
 znj (by rw[<-e];exact decide_eq_decide.2 ⟨fun⟨a,b,c⟩=>Prod.ext (Prod.ext a b) c,fun e=>by subst e;exact⟨rfl,rfl,rfl⟩⟩)
def Rz{a b:U}(h:a.1≠b.1):ku a b=R0 a.1 b.1:=by
 unfold ku Ei;rw[E7,if_neg fun e=>h (cmp3_ord.eq _ _ e)]
def zat{a b:U}(h:a.1=b.1):ku a b=R0 a.2 b.2:=by
 unfold ku Ei;rw[E7,if_pos (by rw[h];exact cmp3_ord.refl _)]
def Az{l:List α}{g:α}(h:l[k]?=some g):l.take (k+1)=l.take k++[g]:=by rw[zpj,h];rfl
def bn{l:List α}{g:α}(h:l[k]?=some g):l.drop k=g::l.drop (k+1):=by
 obtain⟨hl,he⟩:=zqc.1 h;rw[zp3 hl,he]
def ut{s:Nat}{r:List U}{t:U}(h:κ s=some (.own (SlR tyU 6 (r.length+1) (r.flatMap ucs++[.string t.1.1.1,.string t.1.1.2,.string t.1.2,.string t.2.1.1,.string t.2.1.2,.string t.2.2])))):κ s=some (.own (SlR tyU 6 (r++[t]).length ((r++[t]).flatMap ucs))):=by
 rw[h,zpl,nr];rfl
def dh{t:U}(hz:TZ t)(hB:zth B w):Ret zti 109 [uv t] w B (fun v _=>v=.int .i64 (tE t)):=by
 obtain⟨⟨z1,z2,z3⟩,z4,z5,z6⟩:=hz;have hm:=zj8 t;refine yn Tryz.func109 Z Tryz.ntmps109 (np Z) hB ((Zu∘Zd∘ZbV∘Zbc∘Zdo) ?_);refine z81 L Z (fun u H hH _=>V7 Q Q Q hH) ?_;refine(Zbc∘Zdo) ?_;refine z81 L Z (fun u H hH _=>Lu Q Q Q hH) ?_;refine z8 (sd Z Z Z Z M) Z (ZaB (h:=?_));exact yj2 L [.tmp 2]
def Lt{a b:U}(ha:TZ a)(hb:TZ b)(hB:zth B w):Ret zti 108 [uv a,uv b] w B (fun v _=>v=.int .i64 (ku a b)):=by
 obtain⟨⟨z1,z2,z3⟩,z4,z5,z6⟩:=ha;obtain⟨⟨y1,y2,y3⟩,y4,y5,y6⟩:=hb;refine yn Tryz.func108 Z Tryz.ntmps108 (np Z) hB ?_;by_cases h:a.1=b.1
 ·have hq:=eq3 (nf h);rw[zat h];refine(Zaj∘ZG∘ZbE∘ZbE) ?_;refine z7 (Ac Z Z Z Z zoa M Z) Z ((Zm∘ZK∘ZbE∘ZbE) ?_);refine z71 L Z (fun u H hH _=>Xb Q Q Q Q Q Q hH) ?_;refine Zc (h:=?_);exact yj2 L [.tmp 4]
 ·have hq:=eq3 (ng h);rw[Rz h];refine(Zaj∘ZG∘ZbE∘ZbE) ?_;refine z7 (Ac Z Z Z Z zoa M Z) Z ((Zcj∘ZbE∘ZbE) ?_);refine z71 L Z (fun u H hH _=>Xc Q Q Q Q Q Q hH) ?_;refine Zc (h:=?_);exact yj2 L [.tmp 4]
def wu{l:List U}{t:U}(hl:l.length<=1000000){e:Int}(he:(if t∈l then 1 else 0:Int)=e){v:Value}(hB:zth B w)(hv:US l fu v B):
  Ret zti 107 [v,uv t] w B (fun v _=>v=.int .i64 e):=by
 subst he;refine yn Tryz.func107 Z Tryz.ntmps107 (np Z) hB (k8 0 (US l fu) Z ns hv ((Zu∘ZG∘ZaJ) ?_))
 refine xm (fun i:Nat=>[(0,.sat (US l fu)),(3,.sat (At [.string t.1.1.1,.string t.1.1.2,.string t.1.2,.string t.2.1.1,.string t.2.1.2,.string t.2.2] tyU 0)),(5,.is (.int .i64 i))])
  (fun i=>i<=l.length/\(t∈l↔t∈l.drop i)) (fun i=>l.length-i) 0 ⟨mc _,Iff.rfl⟩ ⟨rfl,rfl,rfl,nm⟩ ?_
 rintro i ⟨hi,he⟩;by_cases hlt:i<l.length
 ·obtain⟨y,hy⟩:=xk hlt;have hc:=f9 hy;rw[bn hy] at he;by_cases hyt:y=t
  ·have hq:=eqU (nf hyt);rw[na (he.2 (by rw[hyt];exact mb ..))];refine(Zf∘Zy∘Zg∘ZbF∘ZcJ∘ZaT∘ZaY) ?_;refine z8 (Dg Z Z Z Z znk M Z) Z ((ZbW∘Ze∘Zt∘Zc) ?_);exact yj2 L [.tmp 4]
  ·have hq:=eqU (ng hyt);refine(Zf∘Zy∘Zg∘ZbF∘ZcJ∘ZaT∘ZaY) ?_;refine z8 (Dg Z Z Z Z znk M Z) Z ((ZaN∘Zda∘ZaE∘ZA∘ZaC) ?_);exact ym (x:=i) (i+1) ⟨hlt,he.trans ⟨fun h=>(ma.1 h).resolve_left fun e=>hyt e.symm,fun h=>me _ h⟩⟩ T ⟨Z,Z,Z,nm⟩
 ·obtain rfl:i=l.length:=by omega
  rw[zq9] at he;rw[nc fun h=>by cases he.1 h];refine(Zf∘Zy∘Zg∘ZJ∘Zas∘Zs∘Zc) ?_;exact yj2 L [.tmp 4]
end Go.V.L2
namespace Go.V.Top
open Go.V.L2
end Go.V.Top
namespace Go.V
def noB(s:ByteArray)(c:UInt8):Prop:=c∉s.data.toList
def sq(r:List UInt8)(c:UInt8):∀ (l:List UInt8),c∉l->Lib.indexByte (l++c::r) c=l.length
 | [],_=>by simp [Lib.indexByte]
 | b::l,h=>by
  have h1:¬ (b == c)=true:=fun e=>h (by rw[beq_iff_eq] at e;rw[e];exact mb ..);have ih:=sq r c l (fun e=>h (me _ e));rw[zpq,Lib.indexByte,nc h1,ih,nc (by rw[beq_iff_eq];omega)];simp
def ib(c:UInt8):∀ (l:List UInt8),c∉l->Lib.indexByte l c= -1
 | [],_=>rfl
 | b::l,h=>by
  have h1:¬ (b == c)=true:=fun e=>h (by rw[beq_iff_eq] at e;rw[e];exact mb ..);rw[Lib.indexByte,nc h1,ib c l (fun e=>h (me _ e))];rfl
def zio{l r:List UInt8}{c:UInt8}(h:c∉l):Lib.cut (l++c::r) [c]=(l,r,true):=by
 unfold Lib.cut;rw[Lib.index_one,sq r c l h,na T];simp
def zlp{l:List UInt8}{c:UInt8}(h:c∉l):Lib.cut l [c]=(l,[],false):=by
 unfold Lib.cut;rw[Lib.index_one,ib c l h,nc T]
def j7(a b:ByteArray):(a++b).data.toList=a.data.toList++b.data.toList:=by
 rw[ByteArray.data_append,Array.toList_append]
def dp(h:a.data.toList=b.data.toList):a=b:=by
 obtain⟨⟨x⟩⟩:=a;obtain⟨⟨y⟩⟩:=b;simp at h;subst h;rfl
def ba_of(a:ByteArray):(⟨a.data.toList.toArray⟩:ByteArray)=a:=by obtain⟨⟨l⟩⟩:=a;rfl
def Bv{c:UInt8}(h:noB a c):fg (a++⟨#[c]⟩++b) c=(a,b,true):=by
 have e:(a++⟨#[c]⟩++b).data.toList=a.data.toList++c::b.data.toList:=by rw[j7,j7];simp
 unfold fg;rw[e,zio h]
def ziq{c:UInt8}(h:noB a c):fg a c=(a,⟨#[]⟩,false):=by
 unfold fg;rw[zlp h]
def Dr{c:UInt8}(h:noB a c):Uf a c=false:=by
 unfold Uf;rw[ib c _ h];rfl
def zis{c:UInt8}(h:noB a c):zit a c=0:=by
 unfold zit Lib.countByte;exact zs3 h
def wc{c:UInt8}(h:noB a c)(k:noB b c):noB (a++b) c:=by
 unfold noB at *;rw[j7];simp [h,k]
def lg{c d:UInt8}(h:c≠d):noB ⟨#[d]⟩ c:=by unfold noB;simp [h]
structure zjq(s:ByteArray):Prop where
 colon:noB s 58
 hash:noB s 35
def ci(h:chk s=0):zjq s:=by
 unfold chk at h;split at h
 ·rename_i hc;have:=zph.1 hc.2.2;exact⟨fun hm=>by have:=this _ hm;revert this;decide,fun hm=>by have:=this _ hm;revert this;decide⟩
 ·exact ni h E
def Xl(ha:zjq a)(hb:zjq b):dk (G8 a b)=some (a,b,⟨#[]⟩,false):=by
 have h1:fg (G8 a b) 58=(a,b,true):=Bv ha.colon;unfold dk;rw[h1];simp only[Dr ha.hash,Dr hb.colon,zis hb.hash,ziq hb.hash];simp
def E5(ha:zjq a)(hb:zjq b)(hc:zjq c):dk (cr a b c)=some (a,b,c,true):=by
 have e:cr a b c=a++sCol++(b++sHash++c):=by unfold cr G8;apply dp;simp only[j7,List.append_assoc]
 have h1:fg (cr a b c) 58=(a,b++sHash++c,true):=by rw[e];exact Bv ha.colon
 have h2:noB (b++sHash++c) 58:=wc (wc hb.colon (lg E)) hc.colon
 have h3:zit (b++sHash++c) 35=1:=by
  unfold zit Lib.countByte;rw[j7,j7,zra,zra,zs3 hb.hash,zs3 hc.hash];simp
 have h4:fg (b++sHash++c) 35=(b,c,true):=Bv hb.hash;unfold dk;rw[h1];simp only[Dr ha.hash,Dr h2,h3,h4];simp
def zl3(h:u5 [a,b]=0):chk a=0/\chk b=0:=by
 simp only[u5] at h;rcases wt a with h1 | h1<;>rcases wt b with h2 | h2<;>simp [h1,h2] at h |-
def Kd(h:u5 [a,b,c]=0):chk a=0/\chk b=0/\chk c=0:=by
 simp only[u5] at h;rcases wt a with h1 | h1<;>rcases wt b with h2 | h2<;>rcases wt c with h3 | h3<;>simp [h1,h2,h3] at h |-
def Sj(ha:chk a=0)(hb:chk b=0):u5 [a,b]=0:=by simp [u5,ha,hb]
def ze2(ha:chk a=0)(hb:chk b=0)(hc:chk c=0):u5 [a,b,c]=0:=by simp [u5,ha,hb,hc]
def fh(h:b9 a b c=0):chk a=0/\chk b=0/\(c=⟨#[]⟩\/chk c=0):=by
 unfold b9 at h;split at h
 ·rename_i hc;exact⟨(zl3 h).1,(zl3 h).2,.inl hc⟩
 ·exact⟨(Kd h).1,(Kd h).2.1,.inr (Kd h).2.2⟩
def zix:chk ⟨#[]⟩=6:=by decide+kernel
def zhd(h:b9 a b c=0):psA (oe a b c)=(a,b,c,0):=by
 obtain⟨ha,hb,hc⟩:=fh h;unfold psA oe;by_cases h0:c=⟨#[]⟩
 ·subst h0;rw[na rfl,Xl (ci ha) (ci hb)];simp only[Sj ha hb,if_true];simp
 ·have hc':chk c=0:=hc.resolve_left h0;rw[nc h0,E5 (ci ha) (ci hb) (ci hc')];simp only[Sj ha hb,hc',if_true]
def zhj(ha:chk a=0)(hb:chk b=0)(hc:chk c=0):pgA (cr a b c)=(a,b,c,0):=by
 unfold pgA;rw[E5 (ci ha) (ci hb) (ci hc)];simp [ze2 ha hb hc]
def subjT_size(a b c:ByteArray):(oe a b c).size<=a.size+b.size+c.size+2:=by
 unfold oe;split
 ·rw[objT_size];omega
 ·rw[goalT_size];omega
def zgy(s:ByteArray)(c:UInt8):noB s c\/∃ a b,s=a++⟨#[c]⟩++b/\noB a c:=by
 by_cases h:c∈s.data.toList
 ·obtain⟨p,q,e,hp⟩:=List.eq_append_cons_of_mem h;refine .inr ⟨⟨p.toArray⟩,⟨q.toArray⟩,dp ?_,by unfold noB;simpa using hp⟩;rw[j7,j7,e];simp
 ·exact .inl h
def zaj(p q r:ByteArray)(i j:Nat)(hi:i=p.size)(hj:j=p.size+q.size):(p++q++r).extract i j=q:=by
 subst hi hj;apply dp;rw[ByteArray.data_extract,Array.toList_extract,List.extract,j7,j7];have h1:p.data.toList.length=p.size:=ue p;have h2:q.data.toList.length=q.size:=ue q;rw[mn,<-h1,zr1,List.take_left' T]
end Go.V
end
namespace Go.V.L11
abbrev sNl:ByteArray:=⟨#[10]⟩
def Uy:List UInt8->List UInt8->List (List UInt8)
 | acc,[]=>if acc=[] then [] else [acc]
 | acc,c::l=>if c=10 then (acc++[c])::Uy [] l else Uy (acc++[c]) l
def Yv:∀ {l acc:List UInt8},10∉l->Uy acc l=if acc++l=[] then [] else [acc++l]
 | [],acc,_=>by rw[mo];rfl
 | c::l,acc,h=>by
  rw[ma,not_or] at h;show(if c=10 then _ else _)=_;rw[nc (Ne.symm h.1),Yv h.2,mn];rfl
def Rh:∀ {a b acc:List UInt8},10∉a->Uy acc (a++10::b)=(acc++a++[10])::Uy [] b
 | [],b,acc,_=>by rw[mo];exact na rfl
 | c::a,b,acc,h=>by
  rw[ma,not_or] at h;show(if c=10 then _ else _)=_;rw[nc (Ne.symm h.1)];refine(Rh (a:=a) (b:=b) (acc:=acc++[c]) h.2).trans ?_;simp
def a8(s:ByteArray):List ByteArray:=(Uy [] s.data.toList).map fun l=>⟨l.toArray⟩
def Hi:a8 ⟨#[]⟩=[]:=rfl
def ba_of(s:ByteArray):(⟨s.data.toList.toArray⟩:ByteArray)=s:=by cases s;simp
def zh4(h:noB s 10)(hn:s≠⟨#[]⟩):a8 s=[s]:=by
 unfold a8;rw[Yv h,mi,nc (fun e=>hn (dp e)),mw,zpk,ba_of]
def Ri(h:noB a 10):a8 (a++sNl++b)=(a++sNl)::a8 b:=by
 unfold a8;have e:(a++sNl++b).data.toList=a.data.toList++10::b.data.toList:=by simp [j7]
 rw[e,Rh h,mw,mi];congr 1
def Ki(x:ByteArray):Option ByteArray:=if x.data.toList.getLast?=some 10 then some ⟨x.data.toList.dropLast.toArray⟩ else none
def zij(a:ByteArray):Ki (a++sNl)=some a:=by
 unfold Ki;have e:(a++sNl).data.toList=a.data.toList++[10]:=by simp [j7]
 rw[e,na (by simp),List.dropLast_concat,ba_of]
def M0{x r:ByteArray}(h:Ki x=some r):x=r++sNl:=by
 unfold Ki at h;split at h
 ·rename_i hl;cases h;apply dp;rw[j7];obtain⟨ys,hy⟩:=List.getLast?_eq_some_iff.1 hl;show x.data.toList=x.data.toList.dropLast.toArray.toList++[10];rw[hy];simp
 ·cases h
def rq{X:Type}(rd:ByteArray->X×Int):List X->Nat->List ByteArray->List X×Nat×Int
 | out,_,[]=>(out,0,0)
 | out,n,x::xs=>if 4096<n then ([],n,3) else match Ki x with
  | none=>([],n,5)
  | some r=>if (rd r).2≠0 then ([],n,(rd r).2) else rq rd (out++[(rd r).1]) (n+1) xs
def Uw{X:Type}(rd:ByteArray->X×Int)(s:ByteArray):List X×Nat×Int:=if 1048576<s.size then ([],0,3) else rq rd [] 1 (a8 s)
def Ka{X:Type}(rd:ByteArray->X×Int)(n:Nat)(x:ByteArray):Bool:=decide (4096<n) || match Ki x with | none=>true | some r=>(rd r).2 != 0
def uk{X:Type}(rd:ByteArray->X×Int):Nat->List ByteArray->Bool
 | _,[]=>true
 | n,x::xs=>!Ka rd n x && uk rd (n+1) xs
def Eg{X:Type}(rd:ByteArray->X×Int)(xs:List ByteArray):List X:=xs.filterMap fun x=>(Ki x).map fun r=>(rd r).1
def ev{X:Type}{rd:ByteArray->X×Int}:∀ {xs ys:List ByteArray} {out:List X} {n:Nat},uk rd n xs=true->rq rd out n (xs++ys)=rq rd (out++Eg rd xs) (n+xs.length) ys
 | [],ys,out,n,_=>by simp [Eg]
 | x::xs,ys,out,n,h=>by
  unfold uk at h;rw[zpm] at h;obtain⟨h1,h2⟩:=h;unfold Ka at h1;simp only[zsk,Bool.or_eq_false_iff,decide_eq_false_iff_not] at h1;obtain⟨h3,h4⟩:=h1
  have e:rq rd out n (x::xs++ys)=if 4096<n then ([],n,3) else match Ki x with
   | none=>([],n,5)
   | some r=>if (rd r).2≠0 then ([],n,(rd r).2) else rq rd (out++[(rd r).1]) (n+1) (xs++ys):=rfl
  rw[e,nc h3]
  cases hx:Ki x with
  | none=>rw[hx] at h4;cases h4
  | some r=>
   rw[hx] at h4;have h5:¬ (rd r).2≠0:=by simpa using h4
   dsimp only;rw[nc h5,ev h2]
   have e2:Eg rd (x::xs)=(rd r).1::Eg rd xs:=by
    unfold Eg;rw[List.filterMap_cons,hx];rfl
   rw[e2,mn,nz,show n+1+xs.length=n+(xs.length+1) by omega];rfl
def da{X:Type}{rd:ByteArray->X×Int}{y:ByteArray}:∀ {ls:List ByteArray} {n:Nat},uk rd n (ls++[y])=(uk rd n ls && !Ka rd (n+ls.length) y)
 | [],n=>by simp [uk]
 | x::ls,n=>by
  show(!Ka rd n x && uk rd (n+1) (ls++[y]))=((!Ka rd n x && uk rd (n+1) ls) && _);rw[da,nz,show n+1+ls.length=n+(ls.length+1) by omega,Bool.and_assoc]
def Oo{X:Type}(rd:ByteArray->X×Int):Nat->List ByteArray->List X
 | _,[]=>[]
 | n,x::xs=>if Ka rd n x=true then [] else Eg rd [x]++Oo rd (n+1) xs
def ew{X:Type}{rd:ByteArray->X×Int}{ys:List ByteArray}:∀ {ls:List ByteArray} {n:Nat},uk rd n ls=true->Oo rd n (ls++ys)=Eg rd ls++Oo rd (n+ls.length) ys
 | [],n,_=>by simp [Eg]
 | x::ls,n,h=>by
  unfold uk at h;rw[zpm] at h;have h1:Ka rd n x=false:=by simpa using h.1
  show(if Ka rd n x=true then [] else Eg rd [x]++Oo rd (n+1) (ls++ys))=_;rw[nc (by rw[h1];decide),ew h.2,nz,show n+1+ls.length=n+(ls.length+1) by omega,<-mn];congr 1;unfold Eg;rw[<-List.filterMap_append];rfl
def Ol{X:Type}{rd:ByteArray->X×Int}(h:uk rd 1 ls=true):rq rd [] 1 ls=(Eg rd ls,0,0):=by
 have:=ev (rd:=rd) (xs:=ls) (ys:=[]) (out:=[]) h;rw[mo] at this;rw[this];rfl
def Om{X:Type}{rd:ByteArray->X×Int}(h:uk rd 1 ls=true):Oo rd 1 ls=Eg rd ls:=by
 have:=ew (rd:=rd) (ys:=[]) h;rw[mo] at this;rw[this];exact mo _
def U5{X:Type}{rd:ByteArray->X×Int}{y:ByteArray}(h:Ki y=some r):Eg rd (ls++[y])=Eg rd ls++[(rd r).1]:=by
 unfold Eg;rw[List.filterMap_append];congr 1;simp [h]
def P7{X:Type}{rd:ByteArray->X×Int}:(Eg rd ls).length<=ls.length:=List.length_filterMap_le ..
def Gy{X:Type}{rd:ByteArray->X×Int}{y:ByteArray}(h:uk rd 1 ls=true)(hn:4096<1+ls.length):rq rd [] 1 (ls++y::ys)=([],1+ls.length,3):=by
 rw[ev h];exact na hn
def C6{X:Type}{rd:ByteArray->X×Int}{y:ByteArray}(h:uk rd 1 ls=true)(hn:¬ 4096<1+ls.length)(he:Ki y=none):rq rd [] 1 (ls++y::ys)=([],1+ls.length,5):=by
 rw[ev h];unfold rq;rw[nc hn,he]
def Gz{X:Type}{rd:ByteArray->X×Int}{y:ByteArray}(h:uk rd 1 ls=true)(hn:¬ 4096<1+ls.length)(he:Ki y=some r)(hr:(rd r).2≠0):rq rd [] 1 (ls++y::ys)=([],1+ls.length,(rd r).2):=by
 rw[ev h];unfold rq;rw[nc hn,he];exact na hr
def zc4{X:Type}{rd:ByteArray->X×Int}{ls ys:List ByteArray}{y:ByteArray}(h:uk rd 1 ls=true)(hb:Ka rd (1+ls.length) y=true):rq rd [] 1 (ls++y::ys)=rq rd [] 1 (ls++[y]):=by
 by_cases hn:4096<1+ls.length
 ·rw[Gy h hn,Gy h hn]
 ·cases he:Ki y with
  | none=>rw[C6 h hn he,C6 h hn he]
  | some r=>
   have hr:(rd r).2≠0:=by
    unfold Ka at hb;rw[he] at hb;simpa [hn] using hb
   rw[Gz h hn he hr,Gz h hn he hr]
def Dp:∀ {l acc x:List UInt8},x∈Uy acc l->x.length<=acc.length+l.length
 | [],acc,x,h=>by
  have h':x∈if acc=[] then ([]:List (List UInt8)) else [acc]:=h
  split at h'
  ·cases h'
  ·rw[m4] at h';subst h';simp
 | c::l,acc,x,h=>by
  have h':x∈if c=10 then (acc++[c])::Uy [] l else Uy (acc++[c]) l:=h
  rw[nz];split at h'
  ·rcases ma.1 h' with rfl | h2
   ·simp
   ·have:=Dp h2;simp at this;omega
  ·have:=Dp h';simp at this;omega
def Yw{y:ByteArray}(h:y∈a8 s):y.size<=s.size:=by
 unfold a8 at h;obtain⟨l,hl,rfl⟩:=zo9.1 h;have:=Dp hl;rw[ue] at this;show l.toArray.size<=_;simpa using this
def Qt{X:Type}{rd:ByteArray->X×Int}:∀ {xs:List ByteArray} {n:Nat} {out:List X},uk rd n xs=false->(rq rd out n xs).1=[]
 | [],_,_,h=>by cases h
 | x::xs,n,out,h=>by
  unfold uk at h;unfold rq;by_cases hn:4096<n
  ·rw[na hn]
  ·rw[nc hn]
   cases he:Ki x with
   | none=>rfl
   | some r=>
    dsimp only;by_cases hr:(rd r).2≠0
    ·rw[na hr]
    ·rw[nc hr]
     have hb:Ka rd n x=false:=by
      unfold Ka;rw[he];simp at hr;simp [hn,hr]
     rw[hb] at h;exact Qt (by simpa using h)
end Go.V.L11
namespace Go.V
def zmf(P:Program)(f:FuncId)(caps:List Value)(gr:GR)(w:World)(B:Heap)(xs:wl):Prop:=
 ∀ (l:Nat) (ztc:wl->GR) (stop:wl->Bool) (C Cg:Nat->Prop),stop []=false->Eb P l ztc stop xs->(ztc []).P B w C->(ZCB C w B)->gr.P B w Cg->(ZCB Cg w B)->(∀ k,C k->¬ Cg k)->
  RetL P f (.func (.yield l) #[] #[]::caps) w B (fun k=>C k\/Cg k) fun _ H u=>∃ C',(ztc (jn stop [] xs)).P H u C'/\∀ k,C' k->((C k\/Cg k)\/w.heap.size<=k)/\k<u.heap.size/\H k=none
section
variable             {a:Act}      
def JcX(Cg:Nat->Prop)(F:Fr)(B:Heap)(n:Nat)(a0:Act)(H0:Heap)(N1:Nat)(O':wl->Boxes)(K:wl->Kap)(pre:wl):GR where
 P Hit u C:=∃ Hc fp,HasH F B (O' pre) n (K pre) a0 u Hc fp/\H0.Le Hc/\H0.Le Hit/\(∀ y∈O' pre,y.1<N1)/\N1<=u.heap.size/\F.w0.heap.size<=N1/\
  (∀ k,Cg k->k<N1/\(F.w0.heap.size<=k\/F.L k)/\Hc k=none)/\(∀ y∈O' pre,¬ Cg y.1)/\(∀ t r k,K pre t=some (.own r)->fp t k->¬ Cg k)/\
  (∀ k,C k↔(k<N1/\H0 k=none/\¬ Cg k)\/(N1<=k/\((Hc k).isSome=true\/∃ t r,K pre t=some (.own r)/\fp t k)))
 st:=by
  rintro Hit u C Hit' u' ⟨Hc,fp,hh,h1,h2,h3,h4,h5,hx1,hx2,hx3,hC⟩ hle hsub hon hk
  have hCt:∀ t r k,K pre t=some (.own r)->fp t k->C k:=fun t r k ht hf=>by
   rw[hC];rcases m8 k N1 with hlt | hge
   ·refine .inl ⟨hlt,?_,hx3 t r k ht hf⟩;have:=((hh.slot t _ ht).2 k hf).2.1
    cases hx:H0 k with
    | none=>rfl
    | some o=>rw[h1 k o hx] at this;cases this
   ·exact .inr ⟨hge,.inr ⟨t,r,ht,hf⟩⟩
  have hCb:∀ y∈O' pre,C y.1:=fun y hy=>by
   rw[hC];refine .inl ⟨h3 y hy,?_,hx2 y hy⟩;have:=(hh.boxes y hy).2.1
   cases hx:H0 y.1 with
   | none=>rfl
   | some o=>rw[h1 _ o hx] at this;cases this
  have hold:∀ k o,H0 k=some o->u'.heap[k]?=u.heap[k]?:=fun k o ho=>
   ((hsub k o (hle k o (h2 k o ho))):u'.heap[k]?=some o).trans ((hh.sub k o (h1 k o ho)):u.heap[k]?=some o).symm
  have hsub':Hc.Le (hp u'):=fun k o ho=>by
   show u'.heap[k]?=some o
   cases hx:H0 k with
   | some o'=>rw[hold k o' hx];exact hh.sub k o ho
   | none=>
    rw[hk k ((hC k).2 ?_)]
    ·exact hh.sub k o ho
    ·rcases m8 k N1 with hlt | hge
     ·exact .inl ⟨hlt,hx,fun hg=>by rw[(hx1 k hg).2.2] at ho;cases ho⟩
     ·exact .inr ⟨hge,.inl (by rw[ho];rfl)⟩
  refine⟨Hc,fp,⟨hh.size,hh.defers,hh.nodup,hh.marks,hh.lent,?_,hsub',hh.base,hh.fresh,fun y hy=>?_,hh.apart,fun t k ht=>?_,hh.owns,hh.mono⟩,h1,h2.trans hle,h3,mp h4 hon.size,h5,hx1,hx2,hx3,hC⟩
  ·refine⟨hon.os.trans hh.keep.os,hon.tape.trans hh.keep.tape,hon.output.trans hh.keep.output,mp hh.keep.size hon.size,fun k hk' hl=>?_,mp hh.keep.dr hon.dr⟩;refine Eq.trans ?_ (hh.keep.block k hk' hl)
   cases hx:H0 k with
   | some o=>exact hold k o hx
   | none=>exact hk k ((hC k).2 (.inl ⟨by omega,hx,fun hg=>by
     rcases(hx1 k hg).2.1 with h | h
     ·omega
     ·exact hl h⟩))
  ·obtain⟨g1,g2,g3⟩:=hh.boxes y hy;exact⟨(hk _ (hCb y hy)).trans g1,g2,g3⟩
  ·have hs:=hh.slot t k ht
   cases k with
   | is _=>exact hs
   | sat _=>exact hs
   | own r=>exact⟨r.st hs.1 (mq _) hsub' hon fun k hf=>hk k (hCt t r k ht hf),fun k hf=>by
     obtain⟨g1,g2,g3,g4⟩:=hs.2 k hf;exact⟨zqg g1 hon.size,g2,g3,g4⟩⟩
def Nc(L:Tabs P)(gi:Nat){gr:GR}{f:Operand}{params:Array Tmp}{assign body:Code}{gf:Nat}{caps:List Value}
  (fx:List (Nat×Value)) (ztf:wl→List (Nat×Res)) (K1:wl→List Value→List (Nat×Kn)) (xs:wl) (stop:wl→Bool) (jc:wl→Code)
  (hr:F.r=none) (hf:evK κ f=some (.func (.func gf) #[] caps.toArray)) (hfn:L.fn gf=some ())
  (hgi:κ gi=some (.own gr.res)) (hGi:∀ pre,∀ p∈ztf pre,p.1≠gi) (h0:LiveOK (gK' (ztf [])++zf1 fx) κ) (hG:∀ pre,∀ p∈ztf pre,n≤p.1) (hst0:stop []=false)
  (hps:∀ x∈xs,x.length=params.size) (hpn:∀ t∈params.toList,t<n)
  (hit:∀ u H,H.Le (hp u)→B.Le H→zmf P gf caps gr u H xs)
  (hassign:∀ (w1:World) (Ln:Nat→Prop) (B':Heap) (l D:Nat) (o:Obj) (pre:wl) (x:List Value),pre++[x]<+:xs→stop pre=false→B.Le B'→
   V P ⟨w1,some l,[],Ln⟩ B' n ((l,o)::(D,.deferred (some []))::O) (zmh (KK fx (ztf pre)) (params.toList.zip x)) assign (Exit.then (fun a u=>Has ⟨w1,some l,[],Ln⟩ B' ((l,o)::(D,.deferred (some []))::O) n (ofL (K1 pre x)) a u) (fun _ _ _=>False)))
  (hbody:∀ (w1:World) (Ln:Nat→Prop) (B':Heap) (l D:Nat) (o:Obj) (pre:wl) (x:List Value),pre++[x]<+:xs→stop pre=false→B.Le B'→
   V P ⟨w1,some l,[],Ln⟩ B' n ((l,o)::(D,.deferred (some []))::O) (ofL (K1 pre x)) body (zfa ⟨w1,some l,[],Ln⟩ B' n ((l,o)::(D,.deferred (some []))::O) ztf stop jc (pre++[x])))
  (hdone:∀ (l D:Nat) (o:Obj),stop (jn stop [] xs)=false→N ⟨F.w0,F.r,.m D::F.ds,F.L⟩ B n ((l,o)::(D,.deferred (some []))::O) (KK fx (ztf (jn stop [] xs))) ztg)
  (hstop:∀ (l D:Nat) (o:Obj),stop (jn stop [] xs)=true→V P ⟨F.w0,F.r,.m D::F.ds,F.L⟩ B n ((l,o)::(D,.deferred (some []))::O) (KK fx (ztf (jn stop [] xs))) (jc (jn stop [] xs)) ztg):
  V P F B n O κ (.rangeFunc f params assign body) ztg:=by
 obtain⟨w0,r,ds,Lf⟩:=F;dsimp only at hr;subst hr;rintro a u ⟨H,fp,hh⟩
 have e := hh.env (ops := #[]) (o := ⟨none, .move f, 0, "", #[], none⟩) (κ := κ) (fun _ _ => rfl)
 have hfe:a.eval f=.func (.func gf) #[] caps.toArray:=e.is_ f _ (by simp [Op.operands]) hf;refine wpIn_rangeFunc fun fn _=>?_
 --the record
 have hD0:(.loop { state:=.ready,pending:=none,fn,tmps:=a.tmps,params,assign,body,defers:=u.heap.size }:Obj)=.loop { state:=.ready,pending:=none,fn,tmps:=a.tmps,params,assign,body,defers:=u.heap.size }:=rfl;generalize hrec:({ state:=.ready,pending:=none,fn,tmps:=a.tmps,params,assign,body,defers:=u.heap.size }:Loop)=rec0 at hD0;have hh1:=(hh.newBox (.deferred (some []))).newBox (.loop rec0);rw[World.size_alloc] at hh1;generalize hw1:(u.alloc (.deferred (some []))).alloc (.loop rec0)=w1 at hh1;have hN1:w1.heap.size=u.heap.size+2:=by subst hw1;simp
 let recS:wl→Loop:=fun pre=>if stop pre=true then { rec0 with state:=.done,pending:=some (jc pre) } else rec0
 let O':wl→Boxes:=fun pre=>(u.heap.size+1,.loop (recS pre))::(u.heap.size,.deferred (some []))::O
 let F1:Fr:=⟨w0,none,[],Lf⟩
 let a0:Act:={ tmps:=a.tmps,defers:=[] }
 have hCg:=fun k (hk:fp gi k)=>((hh1.slot gi _ hgi).2 k hk)
 have hCg0:=fun k (hk:fp gi k)=>((hh.slot gi _ hgi).2 k hk)
 have hCg1:∀ k,fp gi k→k<w1.heap.size:=fun k hk=>(hCg k hk).1
 let ztc:wl→GR:=JcX (fp gi) F1 B n a0 H w1.heap.size O' fun pre=>KK fx (ztf pre)
 have hrec0:rec0.state=.ready∧rec0.pending=none∧rec0.fn=fn∧rec0.tmps=a.tmps∧rec0.params=params∧rec0.assign=assign∧rec0.body=body:=by subst hrec;exact⟨rfl,rfl,rfl,rfl,rfl,rfl,rfl⟩
 have hO'mem:∀ pre pre' y,y∈O' pre'→∃ y'∈O' pre,y'.1=y.1:=fun pre pre' y hy=>by
  rcases ma.1 hy with rfl | hy
  ·exact⟨_,mb ..,rfl⟩
  ·exact⟨y,me _ hy,rfl⟩
 have hfix:∀ t k,ofL (zf1 fx) t=some k→∀ v,k=.is v→a0.eval (.tmp t)=v:=fun t k ht v hv=>by
  subst hv;exact hh.slot t _ ((LiveOK.right h0).get ht)
 have hrecS0:recS []=rec0:=nc (by rw[hst0];simp)
 --at the start
 have hstart:HasH F1 B (O' []) n (KK fx (ztf [])) a0 w1 H fp:=by
  have h2:=hh1.sub_kap (κ2:=KK fx (ztf [])) fun t k hk=>h0.get hk;have:O' []=(u.heap.size+1,.loop rec0)::(u.heap.size,.deferred (some []))::O:=by show(_,Obj.loop (recS []))::_=_;rw[hrecS0]
  rw[this];exact⟨h2.size,rfl,zqn,(fun _ h=>by cases h),h2.lent,h2.keep,h2.sub,h2.base,h2.fresh,h2.boxes,h2.apart,h2.slot,h2.owns,h2.mono⟩
 have hOg0:∀ pre,∀ y∈O' pre,¬ fp gi y.1:=fun pre y hy hg=>by
  rcases ma.1 hy with rfl | hy
  ·have:=(hCg0 _ hg).1;dsimp only at this;omega
  ·rcases ma.1 hy with rfl | hy
   ·have:=(hCg0 _ hg).1;dsimp only at this;omega
   ·exact(hCg0 _ hg).2.2.2 y hy Z
 have hyg:=hOg0 []
 have hKgi:∀ pre,ofL (gK' (ztf pre)) gi=none:=fun pre=>by
  have:∀ l:List (Nat×Res),(∀ p∈l,p.1≠gi)→ofL (gK' l) gi=none:=fun l=>by
   induction l with
   | nil=>exact fun _=>rfl
   | cons p l ih=>
    intro h;show upd (ofL (gK' l)) p.1 (.own p.2) gi=none;rw[xi _ _ (Ne.symm (h p (mb ..)))];exact ih fun q hq=>h q (me _ hq)
  exact this _ (hGi pre)
 have hKne:∀ pre t r,KK fx (ztf pre) t=some (.own r)→t≠gi:=fun pre t r ht he=>by
  subst he;have:=Ba (hG pre) ht;rw[hKgi pre] at this;cases this
 have hog:∀ t r k,KK fx (ztf []) t=some (.own r)→fp t k→¬ fp gi k:=fun t r k ht hf hg=>
  hh.owns t gi r gr.res (hKne [] t r ht) (h0.get ht) hgi k hf hg
 let C0:Nat→Prop:=fun k=>(k<w1.heap.size∧H k=none∧¬ fp gi k)∨(w1.heap.size≤k∧((H k).isSome=true∨∃ t r,KK fx (ztf []) t=some (.own r)∧fp t k))
 have hJ0:(ztc []).P H w1 C0:=⟨H,fp,hstart,mq _,mq _,fun y hy=>xh (hstart.boxes y hy).1,nu _,hstart.keep.size,fun k hk=>⟨hCg1 k hk,(hCg k hk).2.2.1,(hCg k hk).2.1⟩,fun y hy hg=>hyg y hy hg,hog,fun _=>Iff.rfl⟩
 have hC0:∀ k,C0 k→k<w1.heap.size∧H k=none:=fun k hk=>by
  rcases hk with h | ⟨h1,h | ⟨t,r,ht,hf⟩⟩
  ·exact⟨h.1,h.2.1⟩
  ·rw[jg hstart.sub h1] at h;cases h
  ·have:=((hstart.slot t _ ht).2 k hf).1;omega
 --the rounds
 have hY:Eb P (u.heap.size+1) ztc stop xs:=by
  rintro pre x hpre hstp v Hit C hsubv ⟨Hc,fpc,hc,c1,c2,c3,c4,c5,x1,x2,x3,c6⟩ hCv;have hrp:recS pre=rec0:=nc (by rw[hstp];simp);have hOp:O' pre=(u.heap.size+1,.loop rec0)::(u.heap.size,.deferred (some []))::O:=by show(_,Obj.loop (recS pre))::_=_;rw[hrp]
  rw[hOp] at hc;have hl:v.heap[u.heap.size+1]?=some (.loop rec0):=(hc.boxes _ (mb ..)).1;have hxl:x.length=params.size:=hps x (hpre.subset (by simp));have hyr:=run_yield (P:=P) (args:=x.toArray) hl (by rw[hrec0.2.2.2.2.1];simpa using hxl);rw[hrec0.2.2.1,hrec0.2.2.2.1,hrec0.2.2.2.2.1,hrec0.2.2.2.2.2.1,hrec0.2.2.2.2.2.2] at hyr;refine⟨fn,_,assign,body,hyr,roundIn_of_wpIn trivial ?_⟩
  --the round's frame
  let Cr:Nat→Prop:=fun k=>(∃ y∈O' pre,y.1=k)∨∃ t r,KK fx (ztf pre) t=some (.own r)∧fpc t k
  have hCrC:∀ k,Cr k→C k∧k<v.heap.size∧(w0.heap.size≤k∨Lf k):=fun k hk=>by
   rcases hk with ⟨y,hy,rfl⟩ | ⟨t,r,ht,hf⟩
   ·rw[hOp] at hy;obtain⟨g1,g2,g3⟩:=hc.boxes y hy;refine⟨(c6 _).2 (.inl ⟨c3 y (by rw[hOp];exact hy),?_,x2 y (by rw[hOp];exact hy)⟩),xh g1,g3⟩
    cases hx:H y.1 with
    | none=>rfl
    | some o=>rw[c1 _ o hx] at g2;cases g2
   ·obtain⟨g1,g2,g3,g4⟩:=(hc.slot t _ ht).2 k hf;refine⟨(c6 k).2 ?_,g1,g3⟩;rcases m8 k w1.heap.size with hlt | hge
    ·refine .inl ⟨hlt,?_,x3 t r k ht hf⟩
     cases hx:H k with
     | none=>rfl
     | some o=>rw[c1 _ o hx] at g2;cases g2
    ·exact .inr ⟨hge,.inr ⟨t,r,ht,hf⟩⟩
  have hCrg:∀ k,Cr k→¬ fp gi k:=fun k hk=>by
   rcases hk with ⟨y,hy,rfl⟩ | ⟨t,r,ht,hf⟩
   ·exact x2 y hy
   ·exact x3 t r k ht hf
  let Fr':Fr:=⟨v,some (u.heap.size+1),[],Cr⟩
  have hr0:HasH Fr' Hc ((u.heap.size+1,.loop rec0)::(u.heap.size,.deferred (some []))::O) n (KK fx (ztf pre)) a0 v Hc fpc:=
   ⟨hc.size,rfl,zqn,(fun _ h=>by cases h),fun k hk=>(hCrC k hk).2.1,Keep.refl _ _,hc.sub,mq _,fun _ _ _=>rfl,fun y hy=>⟨(hc.boxes y hy).1,(hc.boxes y hy).2.1,.inr (.inl ⟨y,by rw[hOp];exact hy,rfl⟩)⟩,hc.apart,fun t k hk=>by
    have hs:=hc.slot t k hk
    cases k with
    | is _=>exact hs
    | sat _=>exact hs
    | own r=>exact⟨hs.1,fun k hf=>by
      obtain⟨g1,g2,g3,g4⟩:=hs.2 k hf;exact⟨g1,g2,.inr (.inr ⟨t,r,hk,hf⟩),g4⟩⟩,hc.owns,hc.mono⟩
  have hBc:B.Le Hc:=hc.base;have hr1:=hr0.putP (params.toList.zip x) (fun p hp=>hpn p.1 (List.of_mem_zip hp).1)
  have hfold:(params.zip x.toArray).foldl (fun tmps (t,a)=>tmps.setIfInBounds t a) a.tmps=(params.toList.zip x).foldl (fun t p=>t.setIfInBounds p.1 p.2) a.tmps:=by
   rw[←zrv,Array.toList_zip]
  rw[hfold]
  --how a round ends
  have fin:∀ (e:Option Code) (a1:Act) (u1:World),(match e with | none=>stop (pre++[x])=false | some c=>stop (pre++[x])=true∧jc (pre++[x])=c)→
    Has Fr' Hc ((u.heap.size+1,.loop { rec0 with state:=.busy })::(u.heap.size,.deferred (some []))::O) n (ofL (gK' (ztf (pre++[x])))) a1 u1→
    ∃ z w',(Instr.endRound (u.heap.size+1) e).run P u1=.ok z w'∧Ending.returned z=.returned (.bool (!stop (pre++[x])))∧∃ C',(ztc (pre++[x])).P Hit w' C'∧Keep C v w'∧∀ k,C' k→(C k∨v.heap.size≤k)∧k<w'.heap.size:=by
   rintro e a1 u1 he ⟨Hd,fpd,hd⟩;have hl1:=(hd.boxes _ (mb ..)).1;have hrun:=run_endRound (P:=P) e hl1
   have hrecE:({ ({ rec0 with state:=.busy }:Loop) with state:=if e.isNone then .ready else .done,pending:=e }:Loop)=recS (pre++[x]):=by
    cases e with
    | none=>
     have:recS (pre++[x])=rec0:=nc (by rw[he];simp);rw[this];obtain⟨g1,g2,_⟩:=hrec0;cases hq:rec0;rw[hq] at g1 g2;dsimp only at g1 g2 ⊢;rw[g1,g2];rfl
    | some c=>
     have:recS (pre++[x])={ rec0 with state:=.done,pending:=some (jc (pre++[x])) }:=na he.1;rw[this,he.2];rfl
   rw[hrecE] at hrun
   have hv:(e.isNone)=!stop (pre++[x]):=by
    cases e with
    | none=>rw[he];rfl
    | some c=>rw[he.1];rfl
   refine⟨_,_,hrun,by rw[hv],?_⟩;have hd2:=hd.boxSet (O1:=[]) (ds:=[]) (a':=a1) (Chg.putObj (o:=.loop (recS (pre++[x]))) (xh hl1)) (List.Sublist.refl _) (by simp) rfl hd.defers;generalize u1.putObj (u.heap.size+1) (.loop (recS (pre++[x])))=u2 at hd2 ⊢;have hd2':HasH Fr' Hc (O' (pre++[x])) n (ofL (gK' (ztf (pre++[x])))) a1 u2 Hd fpd:=hd2
   have hOg:∀ y∈O' (pre++[x]),(w0.heap.size≤y.1∨Lf y.1)∧y.1<w1.heap.size:=fun y hy=>by
    obtain⟨y',hy',hyy⟩:=hO'mem pre _ y hy;rw[←hyy];exact⟨(hc.boxes y' (by rw[←hOp];exact hy')).2.2,c3 y' hy'⟩
   have hfull:HasH F1 B (O' (pre++[x])) n (KK fx (ztf (pre++[x]))) a0 u2 Hd fpd:=by
    refine⟨hh.size,rfl,zqn,(fun _ h=>by cases h),hc.lent,hc.keep.trans hd2'.keep fun i hi hci=>?_,hd2'.sub,hBc.trans hd2'.base,fun k hk hlk=>?_,fun y hy=>⟨(hd2'.boxes y hy).1,(hd2'.boxes y hy).2.1,(hOg y hy).1⟩,hd2'.apart,fun t k hk=>?_,fun s t r r' hst h1 h2=>?_,fun t k hk=>?_⟩
    ·rcases(hCrC i hci).2.2 with h | h
     ·exact ni hi (by show ¬ (i<w0.heap.size);omega)
     ·exact h
    ·refine(hd2'.fresh k (zqg hk hc.keep.size) fun hcr=>?_).trans (hc.fresh k hk hlk);rcases(hCrC k hcr).2.2 with h | h
     ·exact ni hk (by show ¬ (k<w0.heap.size);omega)
     ·exact hlk h
    ·rcases B4 (hG _) hk with ⟨hnt,hgk,r,rfl⟩ | ⟨hfk,_,z,rfl⟩
     ·have hs:=hd2'.slot t _ hgk;have e1:a0.eval (.tmp t)=a1.eval (.tmp t):=(Hv (a:=a0) (n:=n) hh.size hnt).trans (Hv hd2'.size hnt).symm;rw[e1];refine⟨hs.1,fun k hf=>?_⟩;obtain⟨g1,g2,g3,g4⟩:=hs.2 k hf;refine⟨g1,g2,?_,g4⟩;rcases g3 with g3 | g3
      ·exact .inl (mp hc.keep.size g3)
      ·exact(hCrC k g3).2.2
     ·exact hfix t _ hfk z Z
    ·exact hd2'.owns s t r r' hst (Ba (hG _) h1) (Ba (hG _) h2)
    ·rcases B4 (hG _) hk with ⟨_,_,r,rfl⟩ | ⟨_,_,z,rfl⟩<;>trivial
   have hHd:Hc.Le Hd:=hd2'.base
   refine⟨fun k=>(k<w1.heap.size∧H k=none∧¬ fp gi k)∨(w1.heap.size≤k∧((Hd k).isSome=true∨∃ t r,KK fx (ztf (pre++[x])) t=some (.own r)∧fpd t k)),
    ⟨Hd,fpd,hfull,c1.trans hHd,c2,fun y hy=>(hOg y hy).2,mp c4 hd2'.keep.size,c5,fun k hk=>⟨(x1 k hk).1,(x1 k hk).2.1,(hd2'.fresh k (zqg (x1 k hk).1 c4) fun hcr=>hCrg k hcr hk).trans (x1 k hk).2.2⟩,hOg0 _,fun t r k ht hf hg=>by
     rcases((hd2'.slot t _ (Ba (hG _) ht)).2 k hf).2.2.1 with g | g
     ·have h7:=hCg1 k hg;have h8:v.heap.size≤k:=g;omega
     ·exact hCrg k g hg,fun _=>Iff.rfl⟩,hd2'.keep.weak fun k _ hk=>(hCrC k hk).1,fun k hk=>?_⟩
   rcases hk with ⟨h1,h2,h2g⟩ | ⟨h1,h2 | ⟨t,r,ht,hf⟩⟩
   ·exact⟨.inl ((c6 k).2 (.inl ⟨h1,h2,h2g⟩)),zqg h1 (mp c4 hd2'.keep.size)⟩
   ·obtain⟨o,ho⟩:=zqd.1 h2;refine⟨?_,hd2'.sub.size ho⟩;rcases m8 k v.heap.size with hlt | hge
    ·by_cases hcr:Cr k
     ·exact .inl (hCrC k hcr).1
     ·refine .inl ((c6 k).2 (.inr ⟨h1,.inl ?_⟩));rw[←hd2'.fresh k hlt hcr,ho];rfl
    ·exact .inr hge
   ·have hs:=(hd2'.slot t _ (Ba (hG _) ht)).2 k hf;refine⟨?_,hs.1⟩;rcases hs.2.2.1 with g | g
    ·exact .inr g
    ·exact .inl (hCrC k g).1
  refine Go.wpIn_mono (hassign v Cr Hc (u.heap.size+1) u.heap.size (.loop rec0) pre x hpre hstp hBc _ v ⟨Hc,fpc,hr1⟩) fun e1 a1 u1 he1=>?_
  cases e1 with
  | normal=>
   obtain⟨Ha,fpa,ha⟩:=he1;have hl1:=(ha.boxes _ (mb ..)).1;refine⟨_,run_beginRound (P:=P) hl1 hrec0.1,?_⟩;have ha2:=ha.boxSet (O1:=[]) (ds:=[]) (a':=a1) (Chg.putObj (o:=.loop { rec0 with state:=.busy }) (xh hl1)) (List.Sublist.refl _) (by simp) rfl ha.defers;refine Go.wpIn_mono (hbody v Cr Hc (u.heap.size+1) u.heap.size (.loop { rec0 with state:=.busy }) pre x hpre hstp hBc a1 _ ⟨Ha,fpa,ha2⟩) fun e2 a2 u2 he2=>?_
   cases e2 with
   | normal=>exact fin none a2 u2 he2.1 he2.2
   | ret=>exact fin (some .ret) a2 u2 ⟨he2.1,he2.2.1⟩ he2.2.2
   | exit id=>exact fin (some (.exit id)) a2 u2 ⟨he2.1,he2.2.1⟩ he2.2.2
   | goto l=>exact he2.elim
   | panic c=>exact he2.elim
   | outgrown=>exact he2.elim
  | exit id=>exact he1.elim
  | goto l=>exact he1.elim
  | ret=>exact he1.elim
  | panic c=>exact he1.elim
  | outgrown=>exact he1.elim
 --the call
 have hB1:B.Le H:=hh.base
 have hcall:=hit w1 H hstart.sub hB1 (u.heap.size+1) ztc stop C0 (fp gi) hst0 hY hJ0 hC0 (hh1.slot gi _ hgi).1 (fun k hk=>⟨hCg1 k hk,(hCg k hk).2.1⟩) (fun k hk hg=>by
  rcases hk with h | ⟨h1,_⟩
  ·exact h.2.2 hg
  ·have:=hCg1 k hg;omega)
 have hel:=run_enterLoop_outer (P:=P) (w:=u) fn a.tmps params assign body;rw[hrec,hw1] at hel;refine⟨u.heap.size+1,[zft (.m u.heap.size)],w1,⟨.fn (.func gf) caps.toArray,#[]++#[.func (.yield (u.heap.size+1)) #[] #[]]⟩,w1,gf,(.func (.yield (u.heap.size+1)) #[] #[]::caps).toArray,w1,hel,?_,fun _ _=>trivial,?_,fun h=>(by cases h),?_⟩
 ·have hcv:a.eval (.const (.func (.yield (u.heap.size+1)) #[] #[]))=.func (.yield (u.heap.size+1)) #[] #[]:=rfl;simp [resolve,rangeCall,hfe,Deferred.ofValue,hcv]
 ·simp only[invoke];rw[pd L hfn];simp
 ·refine FW.call none _ (Calls.mono hcall fun e3 u3 hp=>?_);obtain⟨z,rfl,H3,g3,C3,⟨Hc,fpc,hc,c1,c2,c3,c4,c5,x1,x2,x3,c6⟩,_⟩:=hp;generalize htk:jn stop [] xs=tk at hc c3 hdone hstop c6;have hl3:u3.heap[u.heap.size+1]?=some (.loop (recS tk)):=(hc.boxes _ (mb ..)).1
  have hnb:(recS tk).state≠.busy:=by
   show(if stop tk=true then ({ rec0 with state:=.done,pending:=some (jc tk) }:Loop) else rec0).state≠.busy;split
   ·simp
   ·rw[hrec0.1];simp
  have hpend:(recS tk).pending=if stop tk=true then some (jc tk) else none:=by
   show(if stop tk=true then ({ rec0 with state:=.done,pending:=some (jc tk) }:Loop) else rec0).pending=_;split
   ·rfl
   ·exact hrec0.2.1
  refine⟨_,_,run_endLoop hl3 hnb,?_⟩;have hc2:=hc.boxSet (O1:=[]) (ds:=[]) (a':=a0) (Chg.putObj (o:=.loop { recS tk with state:=.exhausted }) (xh hl3)) (List.Sublist.refl _) (by simp) rfl rfl
  have hDn:DM.m u.heap.size∉ds:=fun hm=>by
   have:=xh (hh.boxes _ (hh.marks _ hm)).1;exact ni this (Nat.lt_irrefl _)
  have hfin:HasH ⟨w0,none,.m u.heap.size::ds,Lf⟩ B ((u.heap.size+1,.loop { recS tk with state:=.exhausted })::(u.heap.size,.deferred (some []))::O) n (KK fx (ztf tk)) { a with defers:=[zft (.m u.heap.size)]++a.defers } (u3.putObj (u.heap.size+1) (.loop { recS tk with state:=.exhausted })) Hc fpc:=
   ⟨hc2.size,by have:=hh.defers;dsimp only at this ⊢;rw[this];rfl,List.nodup_cons.2 ⟨hDn,hh.nodup⟩,fun D hD=>by
    rcases ma.1 hD with e | hD
    ·cases e;exact me _ (mb ..)
    ·exact me _ (me _ (hh.marks D hD)),hc2.lent,hc2.keep,hc2.sub,hc2.base,hc2.fresh,hc2.boxes,hc2.apart,hc2.slot,hc2.owns,hc2.mono⟩
  generalize (Obj.loop { recS tk with state:=.exhausted })=rx at hfin ⊢;rw[hpend]
  cases hs:stop tk with
  | false=>
   simp only[zqo,if_false];exact hdone _ _ _ hs _ _ ⟨Hc,fpc,hfin⟩
  | true=>
   simp only[if_true];exact hstop _ _ _ hs _ _ ⟨Hc,fpc,hfin⟩
end
end Go.V
namespace Go.V
section
variable  [Inhabited α] {enc:α->List Value} 
end
section
end
end Go.V
namespace Go.V
def zog(w:World)(C:Nat->Prop)(r:Res)(v:Value)(H:Heap)(u:World):Prop:=∃ C':Nat->Prop,r.P v H u C'/\∀ k,C' k->(C k\/w.heap.size<=k)/\k<u.heap.size/\H k=none
def RetT(P:Program)(f:FuncId)(args:List Value)(w:World)(B:Heap)(C:Nat->Prop)(r:Res):Prop:=RetL P f args w B C (zog w C r)
section
variable             {a:Act}    
def c9(L:Tabs P){q f:Nat}{r r':Res}{fo:Operand}
  (hn:Nat.blt d n=true) (hg:gK ops κ ⟨some d,.call { callee:=.value fo,args:=args,argTypes:=at_ },ty,pos,aft,g⟩=some true)
  (hf:evK (upd κ q (.is undef)) fo=some (.func (.func f) #[] cap.toArray)) (hfn:L.fn f=some ()) (hq:κ q=some (.own r))
  (h:∀ u H C x,zth H u->B.Le H->r.P x H u C->(ZCB C u H)->Args (upd κ q (.is x)) H args.toList [] (fun vs=>RetT P f (vs++cap) u H C r')):
  ww P F B n ops O κ ⟨some d,.call { callee:=.value fo,args:=args,argTypes:=at_ },ty,pos,aft,g⟩ q pg d (.own r'):=by
 rintro κ' a u hlk hks ⟨H,fp,hh⟩;unfold After;rw[na (xj hh hlk hg)];have hk':κ' q=some (.own r):=hks.trans hq;obtain⟨hown,hM⟩:=hh.slot q _ hk';have hh2:=hh.name q
 have e2:Env F B O (upd κ q (.is (a.eval (.tmp q)))) ⟨some d,.call { callee:=.value fo,args:=args,argTypes:=at_ },ty,pos,aft,g⟩ a u H fp:=hh2.env (ops:=ops) fun t ht=>by
  by_cases htq:t=q
  ·subst htq;rw[xn,xn]
  ·rw[xi _ _ htq,xi _ _ htq];exact hlk t ht
 have hfe:a.eval fo=.func (.func f) #[] cap.toArray:=by
  refine e2.is_ fo _ (by simp [Op.operands,Call.operands]) ?_
  cases fo with
  | tmp t=>
   simp only[evK] at hf |-;by_cases htq:t=q
   ·subst htq;rw[xn] at hf;cases hf
   ·rw[xi _ _ htq] at hf |-;exact hf
  | _=>exact hf
 have hc:=Args.use e2 args.toList [] (fun x hx=>by simp [Op.operands,Call.operands] at hx |-;exact .inr hx) (h u H (fp q) _ hh.sub hh.base hown fun k hk=>⟨(hM k hk).1,(hM k hk).2.1⟩);simp only[zp9,mi] at hc;rw[uw L rfl hfe hfn];simp only[Upon];refine Calls.mono hc fun e' u' hp=>?_;obtain⟨v,rfl,H',g',C',hv,hC'⟩:=hp;exact⟨v,rfl,H',_,hh.usePut (d:=d) (a':=a.put (some d) v) hk' g' (by simp [Act.put]) Z (fun t ht=>xr ht) (by rw[xz (by rw[hh.size];exact zm hn)];exact hv) hC'⟩
def F4{fn:Func}{t:Nat}{r:Res}(hrs:fn.results=#[.tmp t])(hQ:∀ a u,bodyPostM Fence.wide 0 P fn (li F.w0 B0 F.L (zog F.w0 F.L r)) .ret a u->ztg .ret a u)(hs:Since F B0 B)(hk:κ t=some (.own r))(hm:zbt F.ds=true:=by rfl):V P F B n O κ .ret ztg:=
 Sl hQ hs (hm:=hm) fun O' a u H fp _ hh=>by
  obtain⟨hown,hM⟩:=hh.slot t _ hk;refine⟨a.eval (.tmp t),?_,fp t,hown,fun k hk=>?_⟩
  ·simp [results,hrs,Act.eval]
  ·obtain⟨h1,h2,h3,_⟩:=hM k hk;exact⟨h3.symm,h1,h2⟩
def Ar(t q:Nat){s:Nat}{c:Code}(hk:κ t=some (.own (SlR e s m xs)))
  (h0:m=0->xs=[]->V P F B n O (upd κ t (.is (.slice none 0 0))) c ztg)
  (h:∀ b cap rest,xs.length=m*s->m<=cap->cap<=maxLen->(xs++rest).length=cap*s->V P F B n O (upd (upd (upd κ t pg) q (.own (xp b (xs++rest) e))) t (.is (.slice (some ⟨b,0,none⟩) m cap))) c ztg):V P F B n O κ c ztg:=fun a u hh=>by
 obtain⟨H,fp,hh⟩:=hh;obtain⟨⟨hl,hv⟩,hM⟩:=hh.slot t _ hk;rcases hv with ⟨hm,hv,_⟩ | ⟨b,cap,rest,hv,hb,h3,h4,h5,hC⟩
 ·have h3:=hh.name t;rw[hv] at h3;subst hm;exact h0 Z (m7 (by simpa using hl)) a u ⟨H,_,h3⟩
 ·have h2:=hh.usePut (d:=q) (a':=a) (r':=xp b (xs++rest) e) (C:=fp t) hk ⟨Keep.refl _ _,hh.sub,mq _,fun _ _ _=>rfl⟩ rfl rfl (fun _ _=>rfl) ⟨hb,hC⟩ fun k hk=>⟨.inl hk,(hM k hk).1,(hM k hk).2.1⟩
  have h3':=h2.name t;rw[hv] at h3';exact h b cap rest hl h3 h4 h5 a u ⟨H,_,h3'⟩
def fz(t q:Nat){b cap:Nat}{s:Nat}{c:Code}(hcs:cs=xs++rest)(hk:κ q=some (.own (xp b cs e)))(ht:κ t=some (.is (.slice (some ⟨b,0,none⟩) m cap)))(hl:xs.length=m*s)(hm:m<=cap)(hc:cap<=maxLen)(hcl:cs.length=cap*s)
  (h:V P F B n O (upd (upd κ q pg) t (.own (SlR e s m xs))) c ztg):V P F B n O κ c ztg:=fun a u hh=>by
 subst hcs;obtain⟨H,fp,hh⟩:=hh;obtain⟨⟨hb,hC⟩,hM⟩:=hh.slot q _ hk;have hx:a.eval (.tmp t)=.slice (some ⟨b,0,none⟩) m cap:=hh.slot t _ ht;exact h a u ⟨H,_,hh.usePut (d:=t) (a':=a) (r':=SlR e s m xs) (C:=fp q) hk ⟨Keep.refl _ _,hh.sub,mq _,fun _ _ _=>rfl⟩ Z Z (fun _ _=>rfl) ⟨hl,.inr ⟨b,cap,rest,hx,hb,hm,hc,hcl,hC⟩⟩ fun k hk=>⟨.inl hk,(hM k hk).1,(hM k hk).2.1⟩⟩
def zfo{k k2:IntKind}{q r:Int}(hn:Nat.blt d n=true)(hg:gK ops κ ⟨some d,.binOp .shr t x y t',ty,pos,aft,g⟩=some true)(hx:evK κ x=some (.int k p))(hy:evK κ y=some (.int k2 q))(h0:0<=q)(hb:p.fdiv (2^min q.toNat k.bits)=r):
  StepOK P F B n ops O κ ⟨some d,.binOp .shr t x y t',ty,pos,aft,g⟩ d (.is (.int k r)):=ve hn hg hx hy fun u=>by subst hb;simp [eqGuard_shr,binOp_shr,Op.shift,Int.not_lt.2 h0]
def gv(L:Tabs P){s b cap:Nat}{lo hi:Option Operand}{kl kh:IntKind}(i j:Nat){pl ph:Int}(hn:Nat.blt d n=true)(hg:gK ops κ ⟨some d,.slice tt x lo hi none,ty,pos,aft,g⟩=some true)
  (hx:evK κ x=some (.slice (some ⟨b,off,none⟩) m cap)) (ht:L.sl tt=some e) (hl:L.ld e=some (ag,s))
  (hlo:match lo with | some y=>evK κ y=some (.int kl pl)/\pl=i | none=>i=0) (hhi:match hi with | some y=>evK κ y=some (.int kh ph)/\ph=j | none=>j=m)
  (hij:i<=j) (hjc:j<=cap):
  StepOK P F B n ops O κ ⟨some d,.slice tt x lo hi none,ty,pos,aft,g⟩ d (.is (.slice (some (if cap=i then ⟨b,off,none⟩ else ⟨b,off+i*s,none⟩)) (j-i) (cap-i))):=
 kf rfl (zm hn) hg trivial fun a u H fp en=>⟨_,by
  have hu:=Tabs.sl_spec ht;have h1:=en.is_ x _ (by simp [Op.operands]) hx
  have hrun:(Instr.sliceBounds true m cap (lo.map a.eval) (hi.map a.eval) none).run P u=.ok (i,j,cap) u:=by
   cases hi with
   | none=>
    simp only at hhi;subst hhi
    cases lo with
    | none=>simp only at hlo;subst hlo;simp [Instr.sliceBounds]
    | some z=>
     obtain⟨hz,rfl⟩:=hlo;have h3:=en.is_ z _ (by simp [Op.operands]) hz;simp [h3,Instr.sliceBounds,ji i kl _ _ hij]
   | some y=>
    obtain⟨hy,rfl⟩:=hhi;have h2:=en.is_ y _ (by simp [Op.operands]) hy
    cases lo with
    | none=>simp only at hlo;subst hlo;simp [h2,Instr.sliceBounds,ji j kh cap _ hjc]
    | some z=>
     obtain⟨hz,rfl⟩:=hlo;have h3:=en.is_ z _ (by simp [Op.operands]) hz;simp [h2,h3,Instr.sliceBounds,ji j kh cap _ hjc,ji i kl _ _ hij]
  simp only[execOp,h1,Instr.sliceAt,Instr.slice,nw,run_underlying hu,ny,zro,hrun,ja (Tabs.ld_spec hl),mf];congr 3;split<;>simp [Addr.add],rfl⟩
def cp(L:Tabs P){t e:TypeId}{s:Nat}{z:Value}(hn:Nat.blt d n=true)(hg:gK ops κ ⟨some d,.buildSlice t 0 #[],ty,pos,aft,g⟩=some true)(ht:L.sl t=some e)(hl:L.ld e=some (ag,s))(hz:L.zr e=some z):
  StepOK P F B n ops O κ ⟨some d,.buildSlice t 0 #[],ty,pos,aft,g⟩ d (.own (SlR e s 0 [])):=by
 rintro κ' a u hlk ⟨H,fp,hh⟩;unfold After;rw[na (xj hh hlk hg)]
 have hrun:(execOp a.eval ⟨some d,.buildSlice t 0 #[],ty,pos,aft,g⟩).run P u=.ok (.value (.slice (some ⟨u.heap.size,0,none⟩) 0 0)) (u.alloc (.cells #[] e)):=by
  have hzz:=Tabs.zr_spec hz;unfold zrI at hzz;split at hzz
  ·rename_i it hit;have hzr:(zeroValue e).run P u=.ok z u:=by simp [zeroValue,typeInfo,hit,hzz]
   simp only[execOp,nw];have e0:(Array.map (fun x:Nat×Operand=>(x.1,a.eval x.2)) #[])=(#[]:Array (Nat×Value)):=by simp
   rw[e0];have hfill:Instr.fill (fun i=>some (i*s,s)) #[] []=some #[]:=by simp [Instr.fill]
   simp only[Instr.buildSlice,nw,run_underlying (Tabs.sl_spec ht),ny,ja (Tabs.ld_spec hl)];simp only[Nat.zero_mul,if_true,mf,ny];have e1:(Array.range 0).map (fun _:Nat=>(default:Value))=#[]:=by simp
   simp [newRow,hfill,e1]
  ·cases hzz
 rw[hrun];simp only[Upon];have hg2:=hh.grow (Grow.hid hh.sub (.cells #[] e));refine⟨H,_,hg2.putR (C:=fun k=>k=u.heap.size) (by simp [Act.put]) Z (fun t ht=>xr ht) ⟨by simp,.inr ⟨u.heap.size,0,[],xz (by rw[hh.size];exact zm hn),xy _ _,nu _,by simp [maxLen],by simp,fun _=>Iff.rfl⟩⟩ (fun k hk=>?_) fun t r' _ ht k hf hk=>?_⟩
 ·subst hk;exact⟨xh (xy u _),jg hh.sub (nu _),.inl hh.keep.size,fun y hy e=>by have:=xh (hh.boxes y hy).1;omega⟩
 ·have:=((hh.slot t _ ht).2 k hf).1;omega
end
end Go.V
namespace Go.V
def xc(b:Nat)(cs:List Value)(ty:TypeId):GR where
 P _ u C:=u.heap[b]?=some (.cells cs.toArray ty)/\∀ k,C k↔k=b
 st:=fun⟨h1,h2⟩ _ _ _ hk=>⟨(hk b ((h2 b).2 rfl)).trans h1,h2⟩
def xd(b:Nat)(cs:List Value)(ty:TypeId):(xc b cs ty).res=xp b cs ty:=rfl
def kx(P:Program)(f:FuncId)(args:List Value)(w:World)(B:Heap)(C:Nat->Prop)(r:GR):Prop:=
 RetL P f args w B C fun _ H u=>∃ C',r.P H u C'/\∀ k,C' k->(C k\/w.heap.size<=k)/\k<u.heap.size/\H k=none
section
def yx(L:Tabs P)(q:Nat)(r':GR){r:GR}{fo:Operand}
  (hn:Nat.blt d n=true) (hg:gK ops κ ⟨some d,.call { callee:=.value fo,args:=args,argTypes:=at_ },ty,pos,aft,g⟩=some true)
  (hf:evK κ fo=some (.func (.func f) #[] cap.toArray)) (hfn:L.fn f=some ()) (hq:κ q=some (.own r.res))
  (h:∀ u H C,zth H u->B.Le H->r.P H u C->(ZCB C u H)->Args κ H args.toList [] (fun vs=>kx P f (vs++cap) u H C r')):
  ww P F B n ops O κ ⟨some d,.call { callee:=.value fo,args:=args,argTypes:=at_ },ty,pos,aft,g⟩ q (.own r'.res) d pg:=by
 rintro κ' a u hlk hks ⟨H,fp,hh⟩;unfold After;rw[na (xj hh hlk hg)];have hk':κ' q=some (.own r.res):=hks.trans hq;obtain⟨hown,hM⟩:=hh.slot q _ hk';have e2:=hh.env hlk;have hfe:a.eval fo=.func (.func f) #[] cap.toArray:=e2.is_ fo _ (by simp [Op.operands,Call.operands]) hf;have hc:=Args.use e2 args.toList [] (fun x hx=>by simp [Op.operands,Call.operands] at hx |-;exact .inr hx) (h u H (fp q) hh.sub hh.base hown fun k hk=>⟨(hM k hk).1,(hM k hk).2.1⟩);simp only[zp9,mi] at hc;rw[uw L rfl hfe hfn];simp only[Upon];refine Calls.mono hc fun e' u' hp=>?_;obtain⟨v,rfl,H',g',C',hv,hC'⟩:=hp;have h2:=hh.usePut (d:=q) (a':=a) (r':=r'.res) hk' g' rfl rfl (fun _ _=>rfl) hv hC';rw[j8] at h2;exact⟨v,Z,H',_,h2.put (k:=pg) (zm hn) (fun _ _ _ h _=>h) trivial⟩
def zbm(L:Tabs P){fn:Func}(hrs:fn.results=#[])(hQ:∀ a u,bodyPostM Fence.wide 0 P fn (li F.w0 B0 F.L fun _ _ _=>True) .normal a u->ztg .normal a u)(hs:Since F B0 B)(hm:zbt F.ds=true:=by rfl):N F B n O κ ztg:=
 zgb hQ hs (hm:=hm) fun O' a u H fp _ hh=>by
  obtain⟨vs,h1,_⟩:=j9 L hh (rs:=[]) hrs (K:=fun _=>True) trivial;exact⟨_,h1,nm⟩
def rj{x c y:Code}{ztb:Type}(Fk:ztb->List (Nat×Kn))(I:ztb->Prop)(Ob:ztb->Boxes)(hy:∀ t,I t->V P F B n (Ob t) (ofL (Fk t)) y ztg)
  (h:V P F B n O κ x (Exit.then (fun a u=>c.wpIn (FW F.r) 0 P (Exit.then (fun a u=>∃ t,I t/\Has F B (Ob t) n (ofL (Fk t)) a u) ztg) a u) (Exit.then (fun a u=>∃ t,I t/\Has F B (Ob t) n (ofL (Fk t)) a u) ztg))):
  V P F B n O κ x (Exit.then (fun a u=>c.wpIn (FW F.r) 0 P (Exit.then (fun a u=>y.wpIn (FW F.r) 0 P ztg a u) ztg) a u) (Exit.then (fun a u=>y.wpIn (FW F.r) 0 P ztg a u) ztg)):=fun a u hh=>by
 have key:∀ e a u,Exit.then (fun a u=>∃ t,I t/\Has F B (Ob t) n (ofL (Fk t)) a u) ztg e a u->Exit.then (fun a u=>y.wpIn (FW F.r) 0 P ztg a u) ztg e a u:=fun e a u he=>by
  cases e<;>first | exact he | (obtain⟨t,hI,hh⟩:=he;exact hy t hI a u hh)
 refine Go.wpIn_mono (h a u hh) fun e a u he=>?_;cases e<;>first | exact Go.wpIn_mono he key | exact he
def HasH.setSat{t:Nat}{a:Act}(hm:Kn.mono (.sat φ))(h:HasH F B O n κ a u H fp)(hφ:φ (a.eval (.tmp t)) H):HasH F B O n (upd κ t (.sat φ)) a u H fp:=
 ⟨h.size,h.defers,h.nodup,h.marks,h.lent,h.keep,h.sub,h.base,h.fresh,h.boxes,h.apart,fun s k hs=>by
  by_cases hst:s=t
  ·subst hst;rw[xn] at hs;cases hs;exact hφ
  ·rw[xi _ _ hst] at hs;exact h.slot s k hs,fun s r r1 r2 hsr h1 h2=>by
  have key:∀ x r,upd κ t (.sat φ) x=some (.own r)->κ x=some (.own r):=fun x r hx=>by
   by_cases hxd:x=t
   ·subst hxd;rw[xn] at hx;cases hx
   ·rw[xi _ _ hxd] at hx;exact hx
  exact h.owns s r r1 r2 hsr (key _ _ h1) (key _ _ h2),fun s k hs=>by
  by_cases hst:s=t
  ·subst hst;rw[xn] at hs;cases hs;exact hm
  ·rw[xi _ _ hst] at hs;exact h.mono s k hs⟩
def SlG(e:TypeId)(s n:Nat)(xs:List Value):Res where
 P x H u C:=(n=0/\xs=[]/\SlV e s [] 0 true x H/\∀ k,¬ C k)\/(SlR e s n xs).P x H u C
 st:=fun h hle hs ho hk=>by
  rcases h with ⟨h1,h2,h3,h4⟩ | h
  ·exact .inl ⟨h1,h2,h3.le hle,h4⟩
  ·exact .inr ((SlR e s n xs).st h hle hs ho hk)
def Has.toG{t:Nat}{s:Nat}{a:Act}(hk:κ t=some (.sat (SlV e s [] 0 true)))(h:Has F B O n κ a u):Has F B O n (upd κ t (.own (SlG e s 0 []))) a u:=by
 obtain⟨H,fp,h⟩:=h;exact⟨H,_,h.putR (C:=noL) (a':=a) Z Z (fun _ _=>rfl) (.inl ⟨rfl,rfl,h.slot t _ hk,fun _ h=>h⟩) (fun k hk=>hk.elim) (fun _ _ _ _ _ _ hk=>hk.elim)⟩
def znr(t:Nat){s:Nat}{c:Code}(hk:κ t=some (.sat (SlV e s [] 0 true)))(h:V P F B n O (upd κ t (.own (SlG e s 0 []))) c ztg):V P F B n O κ c ztg:=fun a u hh=>h a u (hh.toG hk)
def Has.pubG{t:Nat}{s:Nat}{a:Act}(hk:κ t=some (.own (SlG e s m xs)))(h:Has F B O n κ a u):Has F B O n (upd κ t (.sat (SlV e s xs m false))) a u:=by
 obtain⟨H,fp,h⟩:=h;obtain⟨hv,hM⟩:=h.slot t _ hk;rcases hv with ⟨rfl,rfl,h3,_⟩ | hv
 ·exact⟨H,fp,h.setSat ns h3.nofu⟩
 ·have h2:=h.putR (d:=t) (r:=SlR e s m xs) (C:=fp t) (a':=a) rfl rfl (fun _ _=>rfl) hv hM (fun t' r' hne hk' k hf hc=>h.owns t' t _ _ hne hk' hk k hf hc);have h3:=Has.pubR (t:=t) (xn _ _ _) ⟨H,_,h2⟩
  rwa [j8] at h3
def zl5(t:Nat){s:Nat}{c:Code}(hk:κ t=some (.own (SlG e s m xs)))(h:V P F B n O (upd κ t (.sat (SlV e s xs m false))) c ztg):V P F B n O κ c ztg:=fun a u hh=>h a u (hh.pubG hk)
def E9(L:Tabs P){s nn:Nat}(hm:0<m)(hn:Nat.blt d n=true)(hg:gK ops κ ⟨some d,.call ⟨.builtin .append,#[.tmp q,y],#[t,t]⟩,ty,pos,aft,g⟩=some true)
  (hq:κ q=some (.own (SlG e s nn xs))) (hy:Apd F B O κ y m news) (ht:L.sl t=some e) (he:elI P e=some (s,by_)) (hl:news.length=m*s) (h1:news.all u7=true) (hb:(nn+m)*by_<=140737488355328) (h63:nn+m<=9223372036854775807):
  ww P F B n ops O κ ⟨some d,.call ⟨.builtin .append,#[.tmp q,y],#[t,t]⟩,ty,pos,aft,g⟩ q pg d (.own (SlG e s (nn+m) (xs++news))):=by
 rintro κ' a u hlk hks ⟨H,fp,hh⟩;unfold After;rw[na (xj hh hlk hg)];have en:=hh.env hlk;obtain⟨i,z,hi,hz,hs1,hs2,hs3,hs4⟩:=uf he;have hk':κ' q=some (.own (SlG e s nn xs)):=hks.trans hq;obtain⟨hown,hM⟩:=hh.slot q _ hk';have hyv:=hy _ a u H fp (by simp [Op.operands,Call.operands]) en;have h1':∀ v∈news,v.oneCell'=true:=fun v hv=>dj (zph.1 h1 v hv)
 have hap:∃ x' u' C',(Builtin.append_ #[t,t] ty #[a.eval (.tmp q),a.eval y]).run P u=.ok x' u'/\(SlR e s (nn+m) (xs++news)).P x' H u' C'/\Grow (fp q) u H u' H/\∀ k,C' k->(fp q k\/u.heap.size<=k)/\k<u'.heap.size/\H k=none:=by
  rcases hown with ⟨rfl,rfl,h3,hC⟩ | hown
  ·have hxx:a.eval (.tmp q)=.slice none 0 0\/∃ a0,a.eval (.tmp q)=.slice (some a0) 0 0:=by
    obtain⟨hl3,⟨_,p0,hx⟩ | ⟨b,off,cap,cs,ty0,fr,hx,hb1,_,hcp,hfu⟩⟩:=h3
    ·cases p0 with
     | none=>exact .inl hx
     | some a0=>exact .inr ⟨a0,hx⟩
    ·obtain rfl:=hfu rfl;exact .inr ⟨_,hx⟩
   rcases hxx with hx | ⟨a0,hx⟩
   ·refine Ea u (Tabs.sl_spec ht) hi hz hs1 hs2 hs3 hs4 hh.sub ⟨by simp,.inl ⟨rfl,hx,hC⟩⟩ (fun k hk=>⟨(hM k hk).1,(hM k hk).2.1⟩) hyv hl h1' h63 hb
   ·rcases hyv with ⟨rfl,_⟩ | ⟨ad,c,hye,hnews⟩
    ·omega
    ·subst hs1 hs2;have hr:=run_append_grow (P:=P) u t ty e i z (Tabs.sl_spec ht) hi hz a0 0 0 [] (by simp) (fun j v hj=>by simp at hj) ad m c news hl hnews T T (growslice_fits T hb);rw[hx,hye];have hmx:0+m<=maxLen:=by simp only[maxLen];omega
     have hge:=grownCap_ge u (0+m) 0 e
     refine⟨_,_,fun k=>k=u.heap.size,hr,⟨by simpa using hl,.inr ⟨u.heap.size,_,(Builtin.zeroCells z.cells (grownCap u (0+m) 0 e-(0+m))).toList,rfl,?_,hge,grownCap_le_maxLen u (0+m) 0 e hmx,?_,fun _=>Iff.rfl⟩⟩,⟨⟨rfl,rfl,rfl,by simp,fun k hk _=>jw u.drew _ hk,zp5 _⟩,fun k v hv=>by
      have:=hh.sub.size hv;show(u.drew.alloc _).heap[k]?=some v;rw[jw u.drew _ this];exact hh.sub k v hv,mq _,fun _ _ _=>rfl⟩,fun k hk=>by
      subst hk;exact⟨.inr (nu _),by simp,jg hh.sub (nu _)⟩⟩
     ·rw[show u.heap.size=u.drew.heap.size from rfl,heap_alloc_new];congr 2;apply Array.ext';simp
     ·rw[mi,nr,hl,zq6,size_zeroCells,hs3,<-zp6];congr 1;omega
  ·exact Ea u (Tabs.sl_spec ht) hi hz hs1 hs2 hs3 hs4 hh.sub hown (fun k hk=>⟨(hM k hk).1,(hM k hk).2.1⟩) hyv hl h1' h63 hb
 obtain⟨x',u',C',hr,hown',hgr,hC'⟩:=hap
 have hrun:(execOp a.eval ⟨some d,.call ⟨.builtin .append,#[.tmp q,y],#[t,t]⟩,ty,pos,aft,g⟩).run P u=.ok (.value x') u':=by
  simp only[execOp,resolve,invoke,builtin,nw,mf,ny,zpp,mw,zpk,hr]
 rw[hrun];simp only[Upon];exact⟨H,_,hh.usePut hk' hgr (by simp [Act.put]) Z (fun t ht=>xr ht) (by rw[xz (by rw[hh.size];exact zm hn)];exact .inr hown') hC'⟩
end
end Go.V
namespace Go.V
def RetX(P:Program)(f:FuncId)(args:List Value)(w:World)(B:Heap)(C:Nat->Prop)(r:GR)(v:Value):Prop:=
 RetL P f args w B C fun x H u=>x=v/\∃ C',r.P H u C'/\∀ k,C' k->(C k\/w.heap.size<=k)/\k<u.heap.size/\H k=none
section
def yh(L:Tabs P)(q:Nat)(r':GR)(v:Value){r:GR}{fo:Operand}
  (hn:Nat.blt d n=true) (hg:gK ops κ ⟨some d,.call { callee:=.value fo,args:=args,argTypes:=at_ },ty,pos,aft,g⟩=some true)
  (hf:evK κ fo=some (.func (.func f) #[] cap.toArray)) (hfn:L.fn f=some ()) (hq:κ q=some (.own r.res))
  (h:∀ u H C,zth H u->B.Le H->r.P H u C->(ZCB C u H)->Args κ H args.toList [] (fun vs=>RetX P f (vs++cap) u H C r' v)):
  ww P F B n ops O κ ⟨some d,.call { callee:=.value fo,args:=args,argTypes:=at_ },ty,pos,aft,g⟩ q (.own r'.res) d (.is v):=by
 rintro κ' a u hlk hks ⟨H,fp,hh⟩;unfold After;rw[na (xj hh hlk hg)];have hk':κ' q=some (.own r.res):=hks.trans hq;obtain⟨hown,hM⟩:=hh.slot q _ hk';have e2:=hh.env hlk;have hfe:a.eval fo=.func (.func f) #[] cap.toArray:=e2.is_ fo _ (by simp [Op.operands,Call.operands]) hf;have hc:=Args.use e2 args.toList [] (fun x hx=>by simp [Op.operands,Call.operands] at hx |-;exact .inr hx) (h u H (fp q) hh.sub hh.base hown fun k hk=>⟨(hM k hk).1,(hM k hk).2.1⟩);simp only[zp9,mi] at hc;rw[uw L rfl hfe hfn];simp only[Upon];refine Calls.mono hc fun e' u' hp=>?_;obtain⟨x,rfl,H',g',hx,C',hv,hC'⟩:=hp;have h2:=hh.usePut (d:=q) (a':=a) (r':=r'.res) hk' g' rfl rfl (fun _ _=>rfl) hv hC';rw[j8] at h2;exact⟨x,Z,H',_,h2.put (k:=.is v) (zm hn) trivial hx⟩
def xv(L:Tabs P){fn:Func}(gs:Nat){r r':GR}{rs:List ResultVar}(hrs:fn.results=rs.toArray)
  (hQ:∀ a u,bodyPostM Fence.wide 0 P fn (li F.w0 B0 F.L fun x H u=>x=v/\∃ C',r'.P H u C'/\∀ k,C' k->(F.L k\/F.w0.heap.size<=k)/\k<u.heap.size/\H k=none) .ret a u->ztg .ret a u) (hs:Since F B0 B) (hk:κ gs=some (.own r.res)) (e:r=r')
  (h:∀ H,Ee L F B O κ H rs [] (fun vs=>tup vs=v)) (hd:F.ds=[]:=by rfl):V P F B n O κ .ret ztg:=fun a u hh=>by
 obtain⟨H,fp,hH⟩:=hh;refine wpIn_ret (hQ a u ?_);have h0:=hH.defers;rw[hd] at h0;show LeavesInM _ _ _ _ _ _ a.defers _ _;rw[h0];subst e;obtain⟨vs,h1,h2⟩:=j9 L hH hrs (h H);obtain⟨C',h3,h4⟩:=HasH.ghost hk hH;exact⟨_,h1,_,rfl,H,⟨hH.keep,hH.sub,hs.le.trans hH.base,fun k hk hl=>(hH.fresh k hk hl).trans (hs.fresh k hk hl)⟩,h2,C',h3,h4⟩
def Qy{k k2:IntKind}{q r:Int}(hn:Nat.blt d n=true)(hg:gK ops κ ⟨some d,.binOp .shl t x y t',ty,pos,aft,g⟩=some true)(hx:evK κ x=some (.int k p))(hy:evK κ y=some (.int k2 q))(h0:0<=q)(hb:k.wrap (p*2^min q.toNat k.bits)=r):
  StepOK P F B n ops O κ ⟨some d,.binOp .shl t x y t',ty,pos,aft,g⟩ d (.is (.int k r)):=ve hn hg hx hy fun u=>by subst hb;simp [eqGuard_shl,binOp_shl,Op.shift,Int.not_lt.2 h0]
def Xo{k:IntKind}{q r:Int}(hn:Nat.blt d n=true)(hg:gK ops κ ⟨some d,.binOp .xor t x y t',ty,pos,aft,g⟩=some true)(hx:evK κ x=some (.int k p))(hy:evK κ y=some (.int k q))(hb:bits .xor k p q=r):
  StepOK P F B n ops O κ ⟨some d,.binOp .xor t x y t',ty,pos,aft,g⟩ d (.is (.int k r)):=ve hn hg hx hy fun u=>by subst hb;simp [eqGuard_xor,binOp_xor,intBits_xor]
def tp{id:Nat}{x y:Code}{R:Exit->Act->World->Prop}(hm:zmb P F B n R y ztg)(h:V P F B n O κ x (Exit.inBlock id R)):V P F B n O κ x (Exit.inBlock id (Exit.then (fun a u=>y.wpIn (FW F.r) 0 P ztg a u) ztg)):=fun a u hh=>by
 have key:∀ e a u,R e a u->Exit.then (fun a u=>y.wpIn (FW F.r) 0 P ztg a u) ztg e a u:=fun e a u he=>by
  cases e<;>first | exact hm.1 a u he | exact hm.2 _ a u (by intro h;cases h) he
 refine Go.wpIn_mono (h a u hh) fun e a u he=>?_
 cases e with
 | exit j=>
  simp only[Exit.inBlock] at he |-;split at he
  ·rename_i h;rw[na h];exact key _ _ _ he
  ·rename_i h;rw[nc h];exact key _ _ _ he
 | _=>exact key _ _ _ he
end
def uC(d:Array Int):List Value:=d.toList.map (Value.int .u64)
def Ca(d:Array Int):(uC d).length=d.size:=by simp [uC]
def zfc{d:Array Int}(h:j<d.size):(uC d)[j]?=some (.int .u64 d[j]!):=by
 unfold uC;rw[zpr,zr4,zpy h,getElem!_pos d j h];rfl
def gk{d:Array Int}(h:j<d.size)(off:Nat)(ho:off=0+j*1):∃ r,(uC d++rest).drop off=.int .u64 d[j]! ::r:=by
 subst ho;rw[zpc,zqi];have hl:j<(uC d++rest).length:=by rw[nr,Ca];omega
 refine⟨(uC d++rest).drop (j+1),?_⟩;rw[zp3 hl];congr 1;have:=zfc h;rw[<-zqb (l₂:=rest) (by rw[Ca];exact h),zpt hl] at this;exact Option.some.inj this
def vt{d:Array Int}(z:Int)(h:j<d.size)(off:Nat)(ho:off=0+j*1):(uC d++rest).take off++([.int .u64 z]++(uC d++rest).drop (off+1))=uC (d.setIfInBounds j z)++rest:=by
 subst ho;rw[zpc,zqi]
 have h1:uC (d.setIfInBounds j z)=(uC d).set j (.int .u64 z):=by
  unfold uC;rw[zsx,List.map_set]
 rw[h1,zs2 (by rw[Ca];omega),List.drop_append_of_le_length (by rw[Ca];omega),List.set_eq_take_append_cons_drop,na (by rw[Ca];exact h)];simp
def vu{d:Array Int}(h:j<d.size)(off:Nat)(ho:off=0+j*1):Nat.ble (off+1) (uC d++rest).length=true:=zr5 (by rw[nr,Ca];omega)
def fe(d:Array Int)(i j:Nat):(d.setIfInBounds i d[j]!).setIfInBounds j d[i]! =Go.Sort.swp d i j:=rfl
def wg(d:Array Int)(i j:Nat):(Go.Sort.swp d i j).size=d.size:=by unfold Go.Sort.swp;rw[Array.size_setIfInBounds,Array.size_setIfInBounds]
end Go.V
namespace Go.V
def SlC(e:TypeId)(s n:Nat)(xs:List Value):Res where
 P x _ u C:=xs.length=n*s/\((n=0/\x=.slice none 0 0/\∀ k,¬ C k)\/∃ b rest,x=.slice (some ⟨b,0,none⟩) n n/\u.heap[b]?=some (.cells (xs++rest).toArray e)/\n<=maxLen/\∀ k,C k↔k=b)
 st:=fun⟨hl,h⟩ _ _ _ hk=>⟨hl,by
  rcases h with h | ⟨b,rest,h1,h2,h3,h4⟩
  ·exact .inl h
  ·exact .inr ⟨b,rest,h1,(hk b ((h4 b).2 rfl)).trans h2,h3,h4⟩⟩
def SlE.toC{s:Nat}{x:Value}(h:(SlE e s n xs).P x H u C):(SlC e s n xs).P x H u C:=
 ⟨h.1,h.2.imp id fun⟨b,h1,h2,h3,h4⟩=>⟨b,[],h1,by rw[mo];exact h2,h3,h4⟩⟩
def zdp{s:Nat}:zmr (SlC e s m xs) (SlV e s xs m true):=fun x H u C ⟨hl,h⟩=>⟨hl,by
 rcases h with ⟨h0,hx,_⟩ | ⟨b,rest,hx,hb,_,hC⟩
 ·exact .inl ⟨h0,none,by rw[hx]⟩
 ·exact .inr ⟨b,0,m,_,_,_,hx,(d9 ((hC b).2 rfl)).trans hb,by simp,nu _,fun _=>rfl⟩⟩
def SlR.shape2{s:Nat}:∀ v H u C,(SlR e s m xs).P v H u C->∃ p c,v=.slice p m c/\m<=c/\(p=none/\c=0\/∃ b,p=some ⟨b,0,none⟩):=fun v _ _ _ ⟨_,h⟩=>by
 rcases h with ⟨h0,h,_⟩ | ⟨b,cap,rest,h,_,h3,_⟩
 ·subst h0;exact⟨none,0,h,nu _,.inl ⟨rfl,rfl⟩⟩
 ·exact⟨_,cap,h,h3,.inr ⟨b,rfl⟩⟩
section
variable             {a:Act}  
def zc8(L:Tabs P){z:Operand}{s c:Nat}{p:Option Addr}{kh km:IntKind}(hp:p=none/\c=0\/∃ b,p=some ⟨b,0,none⟩)(hmc:m<=c)(hn:Nat.blt d n=true)(hg:gK ops κ ⟨some d,.slice tt x none (some y) (some z),ty,pos,aft,g⟩=some true)
  (hx:evK κ x=some (.slice p m c)) (ht:L.sl tt=some e) (hl:L.ld e=some (ag,s)) (hy:evK κ y=some (.int kh m)) (hz:evK κ z=some (.int km m)):
  StepOK P F B n ops O κ ⟨some d,.slice tt x none (some y) (some z),ty,pos,aft,g⟩ d (.is (.slice p m m)):=
 kf rfl (zm hn) hg trivial fun a u H fp en=>⟨_,by
  have hu:=Tabs.sl_spec ht;have h1:=en.is_ x _ (by simp [Op.operands]) hx;have h2:=en.is_ y _ (by simp [Op.operands]) hy;have h3:=en.is_ z _ (by simp [Op.operands]) hz
  have hrun:(Instr.sliceBounds true m c none (some (a.eval y)) (some (a.eval z))).run P u=.ok (0,m,m) u:=by
   simp [h2,h3,Instr.sliceBounds,ji m km c _ hmc,ji m kh m _ (nu _)]
  rcases hp with ⟨rfl,rfl⟩ | ⟨b,rfl⟩
  ·obtain rfl:m=0:=by omega
   simp only[execOp,h1,Instr.sliceAt,Instr.slice,nw,run_underlying hu,ny,zro,zqs,hrun,ja (Tabs.ld_spec hl)];rfl
  ·simp only[execOp,h1,Instr.sliceAt,Instr.slice,nw,run_underlying hu,ny,zro,zqs,hrun,ja (Tabs.ld_spec hl),mf];congr 3;split<;>simp [Addr.add],rfl⟩
def zbk(t g:Nat){s m c:Nat}{p:Option Addr}{cc:Code}(hk:κ g=some (.own (AtV (.slice p m c) (SlR e s m xs))))(ht:κ t=some (.is (.slice p m m)))(h:V P F B n O (upd (upd κ g pg) t (.own (SlC e s m xs))) cc ztg):V P F B n O κ cc ztg:=fun a u hh=>by
 obtain⟨H,fp,hh⟩:=hh;obtain⟨hown,hM⟩:=hh.slot g _ hk;have hx:a.eval (.tmp t)=.slice p m m:=hh.slot t _ ht
 have hP:(SlC e s m xs).P (a.eval (.tmp t)) H u (fp g):=by
  rw[hx];obtain⟨hl,h⟩:=hown;refine⟨hl,?_⟩;rcases h with ⟨h0,h1,h2⟩ | ⟨b,cap,rest,h1,h2,h3,h4,h5,h6⟩
  ·cases h1;exact .inl ⟨h0,rfl,h2⟩
  ·cases h1;exact .inr ⟨b,rest,rfl,h2,mp h3 h4,h6⟩
 exact h a u ⟨H,_,hh.usePut (d:=t) (a':=a) (r':=SlC e s m xs) (C:=fp g) hk ⟨Keep.refl _ _,hh.sub,mq _,fun _ _ _=>rfl⟩ Z Z (fun _ _=>rfl) hP fun k hk=>⟨.inl hk,(hM k hk).1,(hM k hk).2.1⟩⟩
def zns(t:Nat){s:Nat}{c:Code}(hk:κ t=some (.own (SlE e s m xs)))(h:V P F B n O (upd κ t (.own (SlC e s m xs))) c ztg):V P F B n O κ c ztg:=fun a u hh=>by
 obtain⟨H,fp,hh⟩:=hh;exact h a u ⟨H,fp,hh.turnR hk (SlE.toC (hh.slot t _ hk).1)⟩
end
end Go.V
namespace Go.V
section
end
end Go.V
namespace Go.V
section
def zma(B:Heap)(v:Value):Prop:=∀ b o k m c,v=.slice (some ⟨b,o,k⟩) m c->B b=none
end
end Go.V
namespace Go.V
section
def Dt{b:Nat}{L:Nat->Prop}{o:Obj}(hs:zth H u)(hL:L b)(hH:H b=none):Grow L u H (u.putObj b o) H:=
 ⟨⟨rfl,rfl,rfl,zrk World.putObj_size.symm,fun k _ hk=>zsf (fun e=>hk (e ▸ hL)),nu _⟩,fun k x hx=>by
  have:k≠b:=fun e=>by subst e;rw[hH] at hx;cases hx
  show(u.putObj b o).heap[k]?=some x;rw[zsf this];exact hs k x hx,mq _,fun _ _ _=>rfl⟩
end
section
variable  {b:Frame} {a:Act} {k:List Item} {cs:List Frame} 
end
section
end
end Go.V
namespace Go.V
section
end
section
variable {V:Type} [DecidableEq K]
def po(k:K):List (K×V)->Nat->Option (Nat×V)
 | [],_=>none
 | p::l,i=>if k=p.1 then some (i,p.2) else po k l (i+1)
def um(k:K)(l:List (K×V)):Option V:=(po k l 0).map (·.2)
def Pa(k:K)(v:V):List (K×V)->List (K×V)
 | []=>[(k,v)]
 | p::l=>if k=p.1 then (p.1,v)::l else p::Pa k v l
def o7(k:K):∀ (l:List (K×V)) (i:Nat),po k l (i+1)=(po k l i).map fun p=>(p.1+1,p.2)
 | [],_=>rfl
 | p::l,i=>by
  unfold po;split
  ·rfl
  ·exact o7 k l (i+1)
def vn(k:K)(p:K×V)(l:List (K×V)):um k (p::l)=if k=p.1 then some p.2 else um k l:=by
 unfold um;rw[po];split
 ·rfl
 ·rw[o7,Option.map_map];rfl
def Ra(k k':K)(v:V):∀ l:List (K×V),um k (Pa k' v l)=if k=k' then some v else um k l
 | []=>by rw[Pa,vn]
 | p::l=>by
  rw[Pa];split
  ·rename_i h;rw[vn,vn];by_cases h1:k=p.1
   ·rw[na h1,na (h1.trans h.symm)]
   ·rw[nc h1,nc (fun e=>h1 (e.trans h))];rw[nc h1]
  ·rename_i h;rw[vn,vn,Ra k k' v l];by_cases h1:k=p.1
   ·rw[na h1,nc (fun e=>h (e.symm.trans h1)),na h1]
   ·rw[nc h1,nc h1]
def Dm{k:K}:∀ {l:List (K×V)} {i j:Nat} {x:V},po k l i=some (j,x)->∃ n,j=i+n/\l[n]?=some (k,x)
 | [],_,_,_,h=>by cases h
 | p::l,i,j,x,h=>by
  unfold po at h;split at h
  ·rename_i hk;cases h;exact⟨0,rfl,by subst hk;rfl⟩
  ·obtain⟨n,hn,hx⟩:=Dm h;exact⟨n+1,by omega,hx⟩
def sj{k:K}{v:V}:∀ {l:List (K×V)} {i:Nat},po k l i=none->Pa k v l=l++[(k,v)]
 | [],_,_=>rfl
 | p::l,i,h=>by
  unfold po at h;split at h
  ·cases h
  ·rename_i hk;rw[Pa,nc hk,sj h];rfl
end
section
variable  {V:Type} [DecidableEq K] {kc:K->List Value} {vc:V->Value} {l:List (K×V)} {kt et:TypeId} {ls:List Nat}
end
section
variable             {a:Act}     
variable {Y:Type} [DecidableEq K] {kc:K->List Value} {vc:Y->Value} {l:List (K×Y)}
end
end Go.V
namespace Go.V
def vl{l:List α}{x:α}(h:l[i]?=some x):l.take (i+1)=l.take i++[x]:=by
 rw[zpj,h];rfl
section
def Has.relE{t:Nat}{b:Nat}{s:Nat}{a:Act}(hk:κ q=some (.own (xp b xs e)))(ht:κ t=some (.is (.slice (some ⟨b,0,none⟩) m m)))(hl:xs.length=m*s)(hm:m<=maxLen)(hh:Has F B O n κ a u):Has F B O n (upd (upd κ q pg) t (.own (SlE e s m xs))) a u:=by
 obtain⟨H,fp,hh⟩:=hh;obtain⟨⟨hb,hC⟩,hM⟩:=hh.slot q _ hk;have hx:a.eval (.tmp t)=.slice (some ⟨b,0,none⟩) m m:=hh.slot t _ ht;exact⟨H,_,hh.usePut (d:=t) (a':=a) (r':=SlE e s m xs) (C:=fp q) hk ⟨Keep.refl _ _,hh.sub,mq _,fun _ _ _=>rfl⟩ Z Z (fun _ _=>rfl) ⟨hl,.inr ⟨b,hx,hb,hm,hC⟩⟩ fun k hk=>⟨.inl hk,(hM k hk).1,(hM k hk).2.1⟩⟩
def zf8(t q:Nat){b:Nat}{s:Nat}{c:Code}(hk:κ q=some (.own (xp b xs e)))(ht:κ t=some (.is (.slice (some ⟨b,0,none⟩) m m)))(hl:xs.length=m*s)(hm:m<=maxLen)
  (h:V P F B n O (upd (upd κ q pg) t (.own (SlE e s m xs))) c ztg):V P F B n O κ c ztg:=fun a u hh=>h a u (hh.relE hk ht hl hm)
def StepOK.seeV{s:Nat}(h:StepOK P F B n ops O κ o d (.is v))(hv:SlV e s xs m fu v B):StepOK P F B n ops O κ o d (.sat (SlV e s xs m fu)):=fun κ' a u hl hh=>
 After.mono (fun a' u' hh'=>by
  have h2:=hh'.seen (t:=d) (SlV e s xs m fu) (xn _ _ _) ns hv
  rwa [j8] at h2) (h κ' a u hl hh)
def Has.pubH{q b:Nat}{a:Act}(hk:κ q=some (.own (xp b cs t')))(hh:Has F B O n κ a u):∃ H,Since F B H/\B b=none/\H b=some (.cells cs.toArray t')/\Has F H O n (upd κ q pg) a u:=by
 obtain⟨H,fp,hh⟩:=hh;obtain⟨⟨hb,hC⟩,hM⟩:=hh.slot q _ hk;have hbm:=hM b ((hC b).2 rfl);obtain⟨H',h'⟩:=hh.pub (φ:=fun _ H=>H b=some (.cells cs.toArray t')) hk hb ((hC b).2 rfl) (fun _ _ _ h hle=>hle _ _ h) fun H' _ hb'=>hb';have hx:H' b=some (.cells cs.toArray t'):=h'.slot q _ (xn _ _ _);refine⟨H',h'.isSince,?_,hx,H',fp,?_⟩
 ·cases hB:B b with
  | none=>rfl
  | some z=>have:=hh.base _ _ hB;rw[hbm.2.1] at this;cases this
 ·have h2:=(h'.rebase).setSat (t:=q) (φ:=fun _ _=>True) (fun _ _ _ _ _=>trivial) trivial
  rwa [j8] at h2
def wk(q:Nat){b:Nat}{c:Code}(hk:κ q=some (.own (xp b cs t')))(h:∀ H,Since F B H->B b=none->H b=some (.cells cs.toArray t')->V P F H n O (upd κ q pg) c ztg):V P F B n O κ c ztg:=fun a u hh=>
 let ⟨H,h1,h2,h3,h4⟩:=hh.pubH hk;h H h1 h2 h3 a u h4
def Ke(L:Tabs P){fn:Func}{r:Res}{rs:List ResultVar}(hrs:fn.results=rs.toArray)
  (hQ:∀ a u,bodyPostM Fence.wide 0 P fn (li F.w0 B0 F.L (zje F.w0 r)) .ret a u->ztg .ret a u) (hs:Since F B0 B)
  (h:∀ H,Ee L F B O κ H rs [] (fun vs=>tup vs=v)) (hr:∀ H u,B.Le H->r.P v H u noL) (hd:F.ds=[]:=by rfl):V P F B n O κ .ret ztg:=fun a u hh=>by
 obtain⟨H,fp,hH⟩:=hh;refine wpIn_ret (hQ a u ?_);have h0:=hH.defers;rw[hd] at h0;show LeavesInM _ _ _ _ _ _ a.defers _ _;rw[h0];obtain⟨vs,h1,h2⟩:=j9 L hH hrs (h H);exact⟨_,h1,_,rfl,H,⟨hH.keep,hH.sub,hs.le.trans hH.base,fun k hk hl=>(hH.fresh k hk hl).trans (hs.fresh k hk hl)⟩,noL,by rw[h2];exact hr H u hH.base,fun _ h=>h.elim⟩
end
section
variable             {Y:Type} [DecidableEq K] {kc:K->List Value} {vc:Y->Value} {l:List (K×Y)}
end
end Go.V
namespace Go.V
section
end
end Go.V
namespace Go.V
def SlW(e:TypeId)(s n:Nat)(xs:List Value):Value->Heap->Prop:=fun v H=>xs.length=n*s/\((n=0/\v=.slice none 0 0)\/∃ b cap rest,v=.slice (some ⟨b,0,none⟩) n cap/\H b=some (.cells (xs++rest).toArray e)/\n<=cap/\cap<=maxLen/\(xs++rest).length=cap*s)
def SlW.toV{s n:Nat}(h:SlW e s n xs v H):SlV e s xs n false v H:=⟨h.1,by
 rcases h.2 with ⟨h1,h2⟩ | ⟨b,cap,rest,h1,h2,h3,_,_⟩
 ·exact .inl ⟨h1,_,h2⟩
 ·exact .inr ⟨b,0,cap,_,_,(0,0),h1,h2,by show((xs++rest).drop 0).take xs.length=_;rw[zp7,List.take_left],h3,fun h=>by cases h⟩⟩
section
def Has.pubW{t:Nat}{s m:Nat}{a:Act}(hk:κ t=some (.own (SlR e s m xs)))(hh:Has F B O n κ a u):∃ x H,Since F B H/\zma B x/\SlW e s m xs x H/\Has F H O n (upd κ t (.is x)) a u:=by
 obtain⟨H,fp,hh⟩:=hh;obtain⟨⟨hl,hv⟩,hM⟩:=hh.slot t _ hk;rcases hv with ⟨h0,hv,hC⟩ | ⟨b,cap,rest,hv,hb,h3,h4,h5,hC⟩
 ·exact⟨_,H,hh.isSince,(fun b o k m c e=>by rw[hv] at e;cases e),⟨hl,.inl ⟨h0,hv⟩⟩,H,fp,(hh.name t).rebase⟩
 ·have hbm:=hM b ((hC b).2 rfl);obtain⟨H',h'⟩:=hh.pub (φ:=fun v H=>v=.slice (some ⟨b,0,none⟩) m cap/\H b=some (.cells (xs++rest).toArray e)) hk hb ((hC b).2 rfl) (fun _ _ _ h hle=>⟨h.1,hle _ _ h.2⟩) fun H' _ hb'=>⟨hv,hb'⟩
  have hx:=h'.slot t _ (xn _ _ _)
  have hB:B b=none:=by
   cases hB:B b with
   | none=>rfl
   | some z=>have:=hh.base _ _ hB;rw[hbm.2.1] at this;cases this
  have h2:=(h'.name t).rebase;rw[j8] at h2;exact⟨_,H',h'.isSince,(fun b' o k m c e=>by rw[hv] at e;cases e;exact hB),⟨hl,.inr ⟨b,cap,rest,hv,hx.2,h3,h4,h5⟩⟩,H',fp,h2⟩
def zbj(t:Nat){s:Nat}{c:Code}(hk:κ t=some (.own (SlR e s m xs)))(h:∀ x H,Since F B H->zma B x->SlW e s m xs x H->V P F H n O (upd κ t (.is x)) c ztg):V P F B n O κ c ztg:=fun a u hh=>
 let ⟨x,H,h1,h2,h3,h4⟩:=hh.pubW hk;h x H h1 h2 h3 a u h4
def T2(L:Tabs P){b cap:Nat}{s nn:Nat}(hn:Nat.blt d n=true)(hg:gK ops κ ⟨some d,.call ⟨.builtin .append,#[x,y],#[t,t]⟩,ty,pos,aft,g⟩=some true)
  (hx:evK κ x=some (.slice (some ⟨b,0,none⟩) nn cap)) (hq:κ q=some (.own (xp b (xs++rest) e))) (hxl:xs.length=nn*s) (hnc:nn<=cap) (hcm:cap<=maxLen) (hcl:(xs++rest).length=cap*s) (hy:Apd F B O κ y m news) (ht:L.sl t=some e) (he:elI P e=some (s,by_)) (hl:news.length=m*s) (h1:news.all u7=true) (hb:(nn+m)*by_<=140737488355328) (h63:nn+m<=9223372036854775807):
  ww P F B n ops O κ ⟨some d,.call ⟨.builtin .append,#[x,y],#[t,t]⟩,ty,pos,aft,g⟩ q pg d (.own (SlR e s (nn+m) (xs++news))):=by
 rintro κ' a u hlk hks ⟨H,fp,hh⟩;unfold After;rw[na (xj hh hlk hg)];have en:=hh.env hlk;obtain⟨i,z,hi,hz,hs1,hs2,hs3,hs4⟩:=uf he;have hxe:=en.is_ x _ (by simp [Op.operands,Call.operands]) hx;have hk':κ' q=some (.own (xp b (xs++rest) e)):=hks.trans hq;obtain⟨⟨hb',hC⟩,hM⟩:=hh.slot q _ hk';have hown:(SlR e s nn xs).P (.slice (some ⟨b,0,none⟩) nn cap) H u (fp q):=⟨hxl,.inr ⟨b,cap,rest,rfl,hb',hnc,hcm,hcl,hC⟩⟩
 obtain⟨x',u',C',hr,hown',hgr,hC'⟩:=Ea u (aty:=ty) (Tabs.sl_spec ht) hi hz hs1 hs2 hs3 hs4 hh.sub hown (fun k hk=>⟨(hM k hk).1,(hM k hk).2.1⟩) (hy _ a u H fp (by simp [Op.operands,Call.operands]) en) hl (fun v hv=>dj (zph.1 h1 v hv)) h63 hb
 have hrun:(execOp a.eval ⟨some d,.call ⟨.builtin .append,#[x,y],#[t,t]⟩,ty,pos,aft,g⟩).run P u=.ok (.value x') u':=by
  simp only[execOp,resolve,invoke,builtin,nw,mf,ny,zpp,mw,zpk,hxe,hr]
 rw[hrun];simp only[Upon];exact⟨H,_,hh.usePut hk' hgr (by simp [Act.put]) Z (fun t ht=>xr ht) (by rw[xz (by rw[hh.size];exact zm hn)];exact hown') hC'⟩
end
def Has.nilAt(g:Nat)(e:TypeId)(s:Nat){a:Act}(hh:Has F B O n κ a u):Has F B O n (upd κ g (.own (AtV (.slice none 0 0) (SlR e s 0 [])))) a u:=by
 obtain⟨H,fp,hh⟩:=hh;exact⟨H,_,hh.putR (C:=noL) (a':=a) Z Z (fun _ _=>rfl) ⟨by simp,.inl ⟨rfl,rfl,fun _ h=>h⟩⟩ (fun _ h=>h.elim) fun _ _ _ _ _ _ h=>h⟩
def Ec(g:Nat)(e:TypeId)(s:Nat){c:Code}(h:V P F B n O (upd κ g (.own (AtV (.slice none 0 0) (SlR e s 0 [])))) c ztg):V P F B n O κ c ztg:=fun a u hh=>h a u (hh.nilAt g e s)
end Go.V
namespace Go.V
def iq(r1 r2:Res):Res where
 P v H u C:=∃ C1 C2:Nat->Prop,r1.P v H u C1/\r2.P v H u C2/\(∀ k,C k↔C1 k\/C2 k)/\∀ k,C1 k->¬ C2 k
 st:=fun⟨C1,C2,h1,h2,h3,h4⟩ hle hs ho hk=>⟨C1,C2,r1.st h1 hle hs ho fun k hc=>hk k ((h3 k).2 (.inl hc)),r2.st h2 hle hs ho fun k hc=>hk k ((h3 k).2 (.inr hc)),h3,h4⟩
def gj(r1 r2:GR):GR where
 P H u C:=∃ C1 C2:Nat->Prop,r1.P H u C1/\r2.P H u C2/\(∀ k,C k↔C1 k\/C2 k)/\∀ k,C1 k->¬ C2 k
 st:=fun⟨C1,C2,h1,h2,h3,h4⟩ hle hs ho hk=>⟨C1,C2,r1.st h1 hle hs ho fun k hc=>hk k ((h3 k).2 (.inl hc)),r2.st h2 hle hs ho fun k hc=>hk k ((h3 k).2 (.inr hc)),h3,h4⟩
def w8(r1 r2:GR):(gj r1 r2).res=iq r1.res r2.res:=rfl
def GEx{X:Type}(r:X->GR)(φ:X->Heap->Prop)(hφ:oj φ):GR where
 P H u C:=∃ x,φ x H/\(r x).P H u C
 st:=fun⟨x,h1,h2⟩ hle hs hon hk=>⟨x,hφ _ _ _ h1 hle,(r x).st h2 hle hs hon hk⟩
section
variable              {a:Act}  
def Has.part{g1:Nat}(hne:q≠g1)(hg1:∀ v v' H u C,r2.P v H u C->r2.P v' H u C)(hk:κ q=some (.own (iq r1 r2)))(h:Has F B O n κ a u):Has F B O n (upd (upd κ q (.own r1)) g1 (.own r2)) a u:=by
 obtain⟨H,fp,hh⟩:=h;obtain⟨⟨C1,C2,h1,h2,h3,h4⟩,hM⟩:=hh.slot q _ hk;have e2:=hh.putR (d:=q) (r:=r1) (C:=C1) (a':=a) rfl rfl (fun _ _=>rfl) h1 (fun k hk'=>hM k ((h3 k).2 (.inl hk'))) (fun t r' hne' hk' k hf hc=>hh.owns t q _ _ hne' hk' hk k hf ((h3 k).2 (.inl hc)))
 have e3:=e2.putR (d:=g1) (r:=r2) (C:=C2) (a':=a) rfl rfl (fun _ _=>rfl) (hg1 _ _ _ _ _ h2) (fun k hk'=>hM k ((h3 k).2 (.inr hk'))) (fun t r' hne' hk' k hf hc=>by
  by_cases e:t=q
  ·subst e;rw[s6] at hf;exact h4 k hf hc
  ·rw[bm _ _ e] at hf;rw[xi _ _ e] at hk';exact hh.owns t q _ _ e hk' hk k hf ((h3 k).2 (.inr hc)))
 exact⟨H,_,e3⟩
def Has.join2{q g1:Nat}{r1 r2:Res}(hne:q≠g1)(hg1:∀ v v' H u C,r2.P v H u C->r2.P v' H u C)(hk:κ q=some (.own r1))(hk1:κ g1=some (.own r2))(h:Has F B O n κ a u):Has F B O n (upd (upd κ g1 pg) q (.own (iq r1 r2))) a u:=by
 obtain⟨H,fp,hh⟩:=h;obtain⟨h1,hM⟩:=hh.slot q _ hk;obtain⟨h2,hM1⟩:=hh.slot g1 _ hk1;have e1:=hh.drop1 g1;have hkq:upd κ g1 pg q=some (.own r1):=by rw[xi _ _ hne];exact hk
 have e2:=e1.putR (d:=q) (r:=iq r1 r2) (C:=fun k=>fp q k\/fp g1 k) (a':=a) rfl rfl (fun _ _=>rfl) ⟨fp q,fp g1,h1,hg1 _ _ _ _ _ h2,fun _=>Iff.rfl,hh.owns q g1 _ _ hne hk hk1⟩
  (fun k hk'=>hk'.elim (hM k) (hM1 k)) (fun t r' hne' hk' k hf hc=>by
   by_cases e:t=g1
   ·subst e;rw[xn] at hk';cases hk'
   ·rw[xi _ _ e] at hk';rcases hc with hc | hc
    ·exact hh.owns t q _ _ hne' hk' hk k hf hc
    ·exact hh.owns t g1 _ _ e hk' hk1 k hf hc)
 exact⟨H,_,e2⟩
def v8(q g1:Nat){c:Code}(hk:κ q=some (.own (iq r1 r2)))(hg1:∀ v v' H u C,r2.P v H u C->r2.P v' H u C)(h:V P F B n O (upd (upd κ q (.own r1)) g1 (.own r2)) c ztg)(hne:q≠g1:=by decide):V P F B n O κ c ztg:=fun a u hh=>h a u (hh.part hne hg1 hk)
def wa(q g1:Nat){c:Code}(hk:κ q=some (.own r1))(hk1:κ g1=some (.own r2))(hg1:∀ v v' H u C,r2.P v H u C->r2.P v' H u C)(h:V P F B n O (upd (upd κ g1 pg) q (.own (iq r1 r2))) c ztg)(hne:q≠g1:=by decide):V P F B n O κ c ztg:=fun a u hh=>h a u (hh.join2 hne hg1 hk hk1)
def rm(q g1:Nat)(hk:κ q=some (.own r1))(hk1:κ g1=some (.own r2))(hg1:∀ v v' H u C,r2.P v H u C->r2.P v' H u C)(h:N F B n O (upd (upd κ g1 pg) q (.own (iq r1 r2))) ztg)(hne:q≠g1:=by decide):N F B n O κ ztg:=fun a u hh=>h a u (hh.join2 hne hg1 hk hk1)
def Nl(q g1:Nat)(hk:κ q=some (.own (iq r1 r2)))(hg1:∀ v v' H u C,r2.P v H u C->r2.P v' H u C)(h:VO P F B n O ops (upd (upd κ q (.own r1)) g1 (.own r2)) os ztg)(hne:q≠g1:=by decide):VO P F B n O ops κ os ztg:=fun a u hh=>h a u (hh.part hne hg1 hk)
def jo(q g1:Nat)(hk:κ q=some (.own r1))(hk1:κ g1=some (.own r2))(hg1:∀ v v' H u C,r2.P v H u C->r2.P v' H u C)(h:VO P F B n O ops (upd (upd κ g1 pg) q (.own (iq r1 r2))) os ztg)(hne:q≠g1:=by decide):VO P F B n O ops κ os ztg:=fun a u hh=>h a u (hh.join2 hne hg1 hk hk1)
def xf(r:GR):∀ (v v':Value) H u C,r.res.P v H u C->r.res.P v' H u C:=fun _ _ _ _ _ h=>h
def cd(b:Nat)(cs:List Value)(ty:TypeId):∀ (v v':Value) H u C,(xp b cs ty).P v H u C->(xp b cs ty).P v' H u C:=fun _ _ _ _ _ h=>h
def Pw(x:Value)(r:Res):∀ (v v':Value) H u C,(AtV x r).P v H u C->(AtV x r).P v' H u C:=fun _ _ _ _ _ h=>h
def Has.turnO{t:Nat}{r r':Res}(hk:κ t=some (.own r))(hr:∀ v H u C,B.Le H->r.P v H u C->r'.P v H u C)(h:Has F B O n κ a u):Has F B O n (upd κ t (.own r')) a u:=by
 obtain⟨H,fp,h⟩:=h;exact⟨H,fp,h.turnR hk (hr _ _ _ _ h.base (h.slot t _ hk).1)⟩
def vr(t:Nat){r:Res}(r':Res){c:Code}(hk:κ t=some (.own r))(hr:∀ v H u C,B.Le H->r.P v H u C->r'.P v H u C)(h:V P F B n O (upd κ t (.own r')) c ztg):V P F B n O κ c ztg:=fun a u hh=>h a u (hh.turnO hk hr)
def zjf(t:Nat){r:Res}(r':Res)(hk:κ t=some (.own r))(hr:∀ v H u C,B.Le H->r.P v H u C->r'.P v H u C)(h:N F B n O (upd κ t (.own r')) ztg):N F B n O κ ztg:=fun a u hh=>h a u (hh.turnO hk hr)
def RetY(P:Program)(f:FuncId)(args:List Value)(w:World)(B:Heap)(C:Nat->Prop)(r:GR)(φ:Value->Heap->Prop):Prop:=
 RetL P f args w B C fun x H u=>φ x H/\∃ C',r.P H u C'/\∀ k,C' k->(C k\/w.heap.size<=k)/\k<u.heap.size/\H k=none
def RetY.mono{f:FuncId}{args:List Value}{w:World}{C:Nat->Prop}{r:GR}{φ ψ:Value->Heap->Prop}(h:RetY P f args w B C r φ)(hi:∀ v H,B.Le H->φ v H->ψ v H):RetY P f args w B C r ψ:=RetL.mono h fun v H u hg hp=>⟨hi v H hg.le hp.1,hp.2⟩
def RetX.toY{f:FuncId}{args:List Value}{r:GR}(h:RetX P f args w B C r v):RetY P f args w B C r (fun x _=>x=v):=RetL.mono h fun _ _ _ _ hp=>hp
def ey(L:Tabs P)(q:Nat)(r':GR)(φ:Value->Heap->Prop){r:GR}{fo:Operand}
  (hn:Nat.blt d n=true) (hg:gK ops κ ⟨some d,.call { callee:=.value fo,args:=args,argTypes:=at_ },ty,pos,aft,g⟩=some true)
  (hf:evK κ fo=some (.func (.func f) #[] cap.toArray)) (hfn:L.fn f=some ()) (hq:κ q=some (.own r.res)) (hm:Kn.mono (.sat φ))
  (h:∀ u H C,zth H u->B.Le H->r.P H u C->(ZCB C u H)->Args κ H args.toList [] (fun vs=>RetY P f (vs++cap) u H C r' φ)):
  ww P F B n ops O κ ⟨some d,.call { callee:=.value fo,args:=args,argTypes:=at_ },ty,pos,aft,g⟩ q (.own r'.res) d (.sat φ):=by
 rintro κ' a u hlk hks ⟨H,fp,hh⟩;unfold After;rw[na (xj hh hlk hg)];have hk':κ' q=some (.own r.res):=hks.trans hq;obtain⟨hown,hM⟩:=hh.slot q _ hk';have e2:=hh.env hlk;have hfe:a.eval fo=.func (.func f) #[] cap.toArray:=e2.is_ fo _ (by simp [Op.operands,Call.operands]) hf;have hc:=Args.use e2 args.toList [] (fun x hx=>by simp [Op.operands,Call.operands] at hx |-;exact .inr hx) (h u H (fp q) hh.sub hh.base hown fun k hk=>⟨(hM k hk).1,(hM k hk).2.1⟩);simp only[zp9,mi] at hc;rw[uw L rfl hfe hfn];simp only[Upon];refine Calls.mono hc fun e' u' hp=>?_;obtain⟨x,rfl,H',g',hx,C',hv,hC'⟩:=hp;have h2:=hh.usePut (d:=q) (a':=a) (r':=r'.res) hk' g' rfl rfl (fun _ _=>rfl) hv hC';rw[j8] at h2;exact⟨x,rfl,H',_,h2.put (k:=.sat φ) (zm hn) hm hx⟩
def uh(L:Tabs P){fn:Func}(gs:Nat){r r':GR}{rs:List ResultVar}(hrs:fn.results=rs.toArray)
  (hQ:∀ a u,bodyPostM Fence.wide 0 P fn (li F.w0 B0 F.L fun x H u=>φ x H/\∃ C',r'.P H u C'/\∀ k,C' k->(F.L k\/F.w0.heap.size<=k)/\k<u.heap.size/\H k=none) .ret a u->ztg .ret a u) (hs:Since F B0 B) (hk:κ gs=some (.own r.res)) (e:r=r')
  (h:∀ H,B.Le H->Ee L F B O κ H rs [] (fun vs=>φ (tup vs) H)) (hd:F.ds=[]:=by rfl):V P F B n O κ .ret ztg:=fun a u hh=>by
 obtain⟨H,fp,hH⟩:=hh;refine wpIn_ret (hQ a u ?_);have h0:=hH.defers;rw[hd] at h0;show LeavesInM _ _ _ _ _ _ a.defers _ _;rw[h0];subst e;obtain⟨vs,h1,h2⟩:=j9 L hH hrs (h H hH.base);obtain⟨C',h3,h4⟩:=HasH.ghost hk hH;exact⟨_,h1,_,rfl,H,⟨hH.keep,hH.sub,hs.le.trans hH.base,fun k hk hl=>(hH.fresh k hk hl).trans (hs.fresh k hk hl)⟩,h2,C',h3,h4⟩
end
end Go.V
namespace Go.V
section
variable             {a:Act}    
def zd5(cs:List Value)(i s:Nat):cs.toArray.extract i (i+s)=((cs.drop i).take s).toArray:=by
 apply Array.ext';simp [List.extract]
def wn(L:Tabs P){s len:Nat}{k:IntKind}{ys:List Value}(j:Nat)(hn:Nat.blt d n=true)(hg:gK ops κ ⟨some d,.index tt x y,ty,pos,aft,g⟩=some true)
  (hx:evK κ x=some (.agg cs.toArray)) (hy:evK κ y=some (.int k p)) (ht:arI P tt=some (len,e)) (hl:L.ld e=some (true,s)) (hj:p=j) (hi:j<len) (hys:(cs.drop (j*s)).take s=ys):
  StepOK P F B n ops O κ ⟨some d,.index tt x y,ty,pos,aft,g⟩ d (.is (.agg ys.toArray)):=
 kf rfl (by simpa using hn) hg trivial fun a u H fp en=>⟨_,by
  have h1:=en.is_ x _ (by simp [Op.operands]) hx;have h2:=en.is_ y _ (by simp [Op.operands]) hy;subst hj hys;have hu:=Kb ht;have hg:=er (Tabs.ld_spec hl) u;simp only[execOp,h1,h2,Instr.index,nw,asIntOf,mf,ny,run_underlying hu];rw[na T];simp only[zpu,part,nw,ja (Tabs.ld_spec hl),ny,hg,if_true,mf,zd5],rfl⟩
end
end Go.V
namespace Go.V
section
def X8{k:IntKind}{q r:Int}(hn:Nat.blt d n=true)(hg:gK ops κ ⟨some d,.binOp .and t x y t',ty,pos,aft,g⟩=some true)(hx:evK κ x=some (.int k p))(hy:evK κ y=some (.int k q))(hb:bits .and k p q=r):
  StepOK P F B n ops O κ ⟨some d,.binOp .and t x y t',ty,pos,aft,g⟩ d (.is (.int k r)):=ve hn hg hx hy fun u=>by subst hb;simp [eqGuard_and,binOp_and,intBits_and]
end
end Go.V
namespace Go.V
section
def znd{k:IntKind}{q r:Int}(hn:Nat.blt d n=true)(hg:gK ops κ ⟨some d,.binOp .or t x y t',ty,pos,aft,g⟩=some true)(hx:evK κ x=some (.int k p))(hy:evK κ y=some (.int k q))(hb:bits .or k p q=r):
  StepOK P F B n ops O κ ⟨some d,.binOp .or t x y t',ty,pos,aft,g⟩ d (.is (.int k r)):=ve hn hg hx hy fun u=>by subst hb;simp [eqGuard_or,binOp_or,intBits_or]
end
def zi9(h:m<=255):bits .and .u8 m 127=((m%128:Nat):Int):=by
 have:∀ x:Fin 256,bits .and .u8 (x.val:Int) 127=((x.val%128:Nat):Int):=by decide+kernel
 exact this ⟨m,by omega⟩
def zfm{a b:Nat}(ha:a<2^i):a ||| (b*2^i)=a+b*2^i:=by
 rw[Nat.or_comm,<-zsl,<-Nat.shiftLeft_add_eq_or_of_lt ha];omega
end Go.V
namespace Go.V
section
variable  [DecidableEq α]
def dd:List α->List α
 | []=>[]
 | [x]=>[x]
 | x::y::l=>if x=y then dd (y::l) else x::dd (y::l)
variable {c:α->α->Int}
end
def ln{l:List α}{a:α}(h:l[i]?=some a):l[i]'(get_lt h)=a:=by
 have h1:=h;rw[zpt (get_lt h)] at h1;exact Option.some.inj h1
section
variable  {c:α->α->Int}
def dt(c:α->α->Int)(t:α)(l:List α):Nat:=(l.takeWhile fun x=>decide (c x t<0)).length
def o4(t:α):∀ (l:List α),dt c t l<=l.length
 | []=>nu _
 | x::l=>by
  have:=o4 t l;unfold dt at this |-;rw[zqj];split
  ·simp only[nz];omega
  ·simp
def Oi(h:Ord3 c){t:α}:∀ {l:List α} {i:Nat},Sst c l->(∀ (j:Nat) (x:α),j<i->l[j]?=some x->c x t<0)->(∀ (j:Nat) (x:α),i<=j->l[j]?=some x->¬ c x t<0)->i<=l.length->dt c t l=i
 | [],i,_,_,_,hi=>by simp at hi;subst hi;rfl
 | x::l,0,_,_,h2,_=>by
  unfold dt;rw[zqj,nc (by simpa using h2 0 x (nu _) rfl)];rfl
 | x::l,i+1,hs,h1,h2,hi=>by
  have ih:=Oi h (t:=t) (l:=l) (i:=i) (mj.1 hs).2 (fun j y hj hy=>h1 (j+1) y T (by simpa using hy)) (fun j y hj hy=>h2 (j+1) y T (by simpa using hy)) (by simpa using hi);unfold dt at ih |-;rw[zqj,na (by simpa using h1 0 x (Nat.succ_pos _) rfl),nz,ih]
def iw(h:Ord3 c){l:List α}(hs:Sst c l){i j:Nat}{x y t:α}(hi:l[i]?=some x)(hj:l[j]?=some y)(hij:j<=i)(hx:c x t<0):c y t<0:=by
 rcases m8 j i with hlt | hge
 ·have h1:=zqz.1 hs j i (get_lt hj) (get_lt hi) hlt;rw[ln hj,ln hi] at h1;exact h.tr h1 hx
 ·have:i=j:=T;subst this;rw[hi] at hj;cases hj;exact hx
def zfs(h:Ord3 c){t:α}{l:List α}(hs:Sst c l)(h1:∀ (j:Nat) (x:α),j<i->l[j]?=some x->c x t<0){x:α}(hx:l[i]?=some x)(h2:∀ (j:Nat) (y:α),i<=j->l[j]?=some y->¬ c y t<0):t∈l↔c x t=0:=by
 constructor
 ·intro ht;obtain⟨j,hj⟩:=zp1 ht;rcases zsm j i with hlt | he | hgt
  ·exact ni (h1 j t hlt hj) (h.irr t)
  ·subst he;rw[hx] at hj;cases hj;exact h.refl t
  ·have h3:=zqz.1 hs i j (get_lt hx) (get_lt hj) hgt;rw[ln hj,ln hx] at h3;exact ni h3 (h2 i x (nu _) hx)
 ·intro e;have:=h.eq _ _ e;subst this;exact zpa hx
def Dj(h:Ord3 c){t:α}{l:List α}(h1:∀ (j:Nat) (x:α),j<l.length->l[j]?=some x->c x t<0):t∉l:=fun ht=>by
 obtain⟨j,hj⟩:=zp1 ht;exact ni (h1 j t (get_lt hj) hj) (h.irr t)
end
end Go.V
namespace Go.V.L10
open Go.V
def cP(a b:Int):Int:=if a<b then -1 else if b<a then 1 else 0
def lm:Ord3 cP:=⟨fun a=>by unfold cP;simp,fun a b h=>by unfold cP at h;split at h<;>(try split at h)<;>omega,fun a b=>by unfold cP;split<;>(try split)<;>(try split)<;>omega,fun a b d h1 h2=>by
 unfold cP at h1 h2 |-;split at h1<;>(try split at h1)<;>split at h2<;>(try split at h2)<;>split<;>(try split)<;>omega⟩
def za7{a b:Int}:cP a b<0↔a<b:=by unfold cP;split<;>(try split)<;>omega
def kz(L:List Int):List Int:=g8 cP [] L
def jr{L:List Int}{z:Int}:z∈kz L↔z∈L:=by unfold kz;rw[gz];simp
def ul(L:List Int):Sst cP (kz L):=gm lm Sst.nil
def pw(L:List Int):(kz L).length<=L.length:=by have:=eo (c:=cP) L [];simpa [kz] using this
def xe(L:List Int):List (Int×Int):=(kz L).map fun r=>(r,(L.count r:Int))
def vh(L:List Int):(xe L).length=(kz L).length:=by unfold xe;simp
def C4{L:List Int}{r:Int}(h:(kz L)[i]?=some r):(xe L)[i]?=some (r,(L.count r:Int)):=by unfold xe;rw[List.getElem?_map,h];rfl
section
variable  {c:α->α->Int}
def Mu(h:Ord3 c){t:α}:∀ {l:List α},t∉l->om c t l=l.take (dt c t l)++t::l.drop (dt c t l)
 | [],_=>rfl
 | y::l,hn=>by
  have hne:y≠t:=fun e=>hn (e ▸ mb ..);have ih:=Mu h (l:=l) (t:=t) fun hm=>hn (me _ hm);unfold om dt;rw[zqj];by_cases hc:c y t<0
  ·rw[nc (h.asym hc),na (by simpa using hc),nz,zq8,List.drop_succ_cons,ih];rfl
  ·rw[na (h.tri hc hne),nc (by simpa using hc)];rfl
def Oh(h:Ord3 c){t:α}:∀ {l:List α},Sst c l->t∈l->l[dt c t l]?=some t
 | [],_,hm=>(by cases hm)
 | y::l,hs,hm=>by
  unfold dt;rw[zqj];have h1:=mj.1 hs;by_cases hc:c y t<0
  ·rcases ma.1 hm with e | hm
   ·subst e;exact ni hc (h.irr _)
   ·rw[na (by simpa using hc),nz,zqm];exact Oh h h1.2 hm
  ·rw[nc (by simpa using hc)];rcases ma.1 hm with e | hm
   ·subst e;rfl
   ·exact ni (h1.1 t hm) hc
def zgw(h:Ord3 c){l:List α}(hs:Sst c l){x:α}(hi:l[i]?=some x)(hj:l[j]?=some x):i=j:=by
 have key:∀ {i j:Nat},i<j->l[i]?=some x->l[j]?=some x->False:=fun {i j} hlt hi hj=>by
  have h1:=zqz.1 hs i j (get_lt hi) (get_lt hj) hlt;rw[ln hi,ln hj] at h1;exact h.irr _ h1
 rcases zsm i j with hlt | he | hlt
 ·exact(key hlt hi hj).elim
 ·exact he
 ·exact(key hlt hj hi).elim
def map_erase{β:Type}(f:α->β)(l:List α)(i:Nat):(l.map f).eraseIdx i=(l.eraseIdx i).map f:=by
 rw[List.eraseIdx_eq_take_drop_succ,List.eraseIdx_eq_take_drop_succ,zpo,zqk,zq0]
end
def Em{L:List Int}{r:Int}(h:r∈L):kz (L++[r])=kz L:=lf lm (ul _) (ul _) fun z=>by
 rw[jr,jr,mh,m4];exact⟨fun h1=>h1.elim id fun e=>e ▸ h,.inl⟩
def Fq{L:List Int}{r:Int}(h:r∉L):kz (L++[r])=(kz L).take (dt cP r (kz L))++r::(kz L).drop (dt cP r (kz L)):=by
 have hn:r∉kz L:=fun hm=>h (jr.1 hm);rw[<-Mu lm hn]
 exact lf lm (ul _) (dw lm (ul _) hn) fun z=>by
  rw[jr,ud,jr,mh,m4,or_comm]
def Cx{L:List Int}{r:Int}(h:r∈L):xe (L++[r])=(xe L).set (dt cP r (kz L)) (r,(L.count r:Int)+1):=by
 have hp:=Oh lm (ul L) (jr.2 h);apply zsn;intro i;unfold xe;rw[Em h,List.getElem?_set,zpr,zpr,my];by_cases e:dt cP r (kz L)=i
 ·subst e;rw[na rfl,na (get_lt hp),hp];simp [zra]
 ·rw[nc e]
  cases hi:(kz L)[i]? with
  | none=>rfl
  | some x=>
   have hxr:x≠r:=fun hx=>e (by subst hx;exact zgw lm (ul L) hp hi);simp [zra,List.count_cons,hxr.symm]
def Oj{L:List Int}{r:Int}(h:r∉L):xe (L++[r])=(xe L).take (dt cP r (kz L))++(r,1)::(xe L).drop (dt cP r (kz L)):=by
 have key:∀ l:List Int,(∀ x∈l,x∈L)->l.map (fun x=>(x,((L++[r]).count x:Int)))=l.map fun x=>(x,(L.count x:Int)):=fun l hl=>zso fun x hx=>by
  have hxr:x≠r:=fun e=>h (e ▸ hl x hx);simp [zra,List.count_cons,hxr.symm]
 unfold xe;rw[Fq h,zpo,mw,zqk,zq0,<-zqk,<-zq0,key _ fun x hx=>jr.1 (zr6 hx),key _ fun x hx=>jr.1 (zs4 hx),zqk,zq0];congr 2;simp [zra,zsp.2 h]
def Ks(L:List Int)(r:Int):List Int×Nat:=if L.count r=0 then ([],8) else (L.erase r,0)
def a9(L revs:List Int)(keep:Nat):List Int:=(revs.take (revs.length-keep)).filter fun r=>decide (L.count r=0)
end Go.V.L10
namespace Go.V.L4
structure Rd where
 at_:Nat
 bad:Nat
 err:Int
def Rd.fail(R:Rd)(a:Nat)(e:Int):Rd:=if R.err=0 then ⟨R.at_,a,e⟩ else R
def Ux(bs:List Nat):Nat->Nat->Nat->Rd->Nat×Rd
 | 0,_,acc,R=>(acc,R)
 | f+1,i,acc,R=>match bs[R.at_]? with
  | none=>(0,R.fail bs.length 17)
  | some b=>if i=9/\b≠1\/0<i/\b=0 then (0,R.fail R.at_ 5) else
   if b<128 then (acc+b%128*128^i,⟨R.at_+1,R.bad,R.err⟩) else Ux bs f (i+1) (acc+b%128*128^i) ⟨R.at_+1,R.bad,R.err⟩
def Mg(bs:List Nat)(R:Rd):Nat×Rd:=Ux bs 10 0 0 R
def az(bs:List Nat)(lim:Nat)(e:Int)(R:Rd):Nat×Rd:=if lim<(Mg bs R).1 then ((Mg bs R).1,(Mg bs R).2.fail R.at_ e) else Mg bs R
def dq{α:Type}(f:Rd->α×Rd)(z:α)(R:Rd):α×Rd:=if R.err≠0 then (z,R) else if (f R).2.err≠0 then (z,⟨R.at_,(f R).2.bad,(f R).2.err⟩) else f R
def sg(bs:List Nat):Rd->Nat×Rd:=dq (Mg bs) 0
def zfv(bs:List Nat)(lim:Nat)(R:Rd):Int×Rd:=(IntKind.i64.wrap ((az bs lim 3 R).1:Nat),(az bs lim 3 R).2)
def wj(bs:List Nat)(lim:Nat):Rd->Int×Rd:=dq (zfv bs lim) 0
def io(bs:List Nat):Rd->Bool×Rd:=dq (fun R=>(decide ((az bs 1 5 R).1=1),(az bs 1 5 R).2)) false
def Hu(R:Rd)(a:Nat)(e:Int):(R.fail a e).at_=R.at_:=by unfold Rd.fail;split<;>rfl
def Yd{bs:List Nat}:∀ (f i acc:Nat) (R:Rd),R.at_<=bs.length->(Ux bs f i acc R).2.at_<=bs.length/\R.at_<=(Ux bs f i acc R).2.at_
 | 0,_,_,R,h=>⟨h,nu _⟩
 | f+1,i,acc,R,h=>by
  unfold Ux
  cases hb:bs[R.at_]? with
  | none=>dsimp only;rw[Hu];exact⟨h,Nat.le_refl _⟩
  | some b=>
   have hlt:=get_lt hb;dsimp only;split
   ·dsimp only;rw[Hu];exact⟨h,Nat.le_refl _⟩
   ·split
    ·exact⟨hlt,zp5 _⟩
    ·have:=Yd f (i+1) (acc+b%128*128^i) ⟨R.at_+1,R.bad,R.err⟩ hlt;exact⟨this.1,mp (zp5 _) this.2⟩
def Og(i:Nat):128^i=2^(7*i):=by rw[Nat.pow_mul]
def Sk{acc b:Nat}(h:acc<128^i):acc+b%128*128^i<128^(i+1):=by
 rw[Nat.pow_succ];have h1:b%128<=127:=T;have h2:b%128*128^i<=127*128^i:=zq7 _ h1;omega
end Go.V.L4
namespace Go.V
section
variable             {a:Act}      
def M5{b:Nat}(hb:u.heap[b]?=some (.cells cs.toArray t))(off j:Nat):u.cell? ((⟨b,off,none⟩:Addr).add j)=cs[off+j]?:=by
 rw[vj,kq hb];simp
def M2{cs news:List Value}{off k j:Nat}(hn:news=(cs.drop off).take k)(hj:news[j]?=some v):cs[off+j]?=some v:=by
 subst hn;rw[zsh] at hj;split at hj
 ·rwa [zqa] at hj
 ·cases hj
def Cs{i:TypeInfo}{b c:Nat}{ty0:TypeId}{ad:Addr}{m' c':Nat}{news:List Value}(ht:P.underlying t=some (.slice e))(hi:P.info? e=some i)(hb:u.heap[b]?=some (.cells cur.toArray ty0))(hl:news.length=k*i.size)(hk:Nat.min m' m=k)(hcl:off+news.length<=cur.length)
  (h1:∀ v∈news,v.oneCell'=true) (hy:∀ j v,news[j]?=some v->u.cell? (ad.add j)=some v):
  (Builtin.copy_ #[t,ti] ty #[.slice (some ⟨b,off,none⟩) m c,.slice (some ad) m' c']).run P u=.ok (goInt k) (u.setRow b (cur.take off++(news++cur.drop (off+news.length))).toArray):=by
 have hf:=run_firstCells_some (P:=P) u i.size k ad m' c' news hl hy;have hst:=fj (P:=P) b ty0 off news 0 cur.toArray u hb (by simpa using hcl) h1;simp only[Nat.add_zero,mn] at hst;simp [Builtin.copy_,run_underlying ht,Builtin.lenOf,sizeOf,typeInfo,hi,hk,hf,hst]
def G7(L:Tabs P){q b off m c m':Nat}{x y:Operand}{t e ti t':TypeId}{s by_:Nat}{cur all news cur':List Value}(k:Nat)(hn:Nat.blt d n=true)(hg:gK ops κ ⟨some d,.call ⟨.builtin .copy,#[x,y],#[t,ti]⟩,ty,pos,aft,g⟩=some true)
  (hx:evK κ x=some (.slice (some ⟨b,off,none⟩) m c)) (hq:κ q=some (.own (xp b cur t'))) (hy:Apd F B O κ y m' all) (ht:L.sl t=some e) (he:elI P e=some (s,by_)) (hm:0<m') (hk:Nat.min m' m=k) (hal:k*s<=all.length) (hnews:all.take (k*s)=news) (hcl:off+k*s<=cur.length) (h1:news.all u7=true)
  (hr:cur.take off++(news++cur.drop (off+k*s))=cur'):
  ww P F B n ops O κ ⟨some d,.call ⟨.builtin .copy,#[x,y],#[t,ti]⟩,ty,pos,aft,g⟩ q (.own (xp b cur' t')) d (.is (.int .i64 k)):=by
 rintro κ' a u hlk hks ⟨H,fp,hh⟩;unfold After;rw[na (xj hh hlk hg)];have en:=hh.env hlk;have hk':κ' q=some (.own (xp b cur t')):=hks.trans hq;have hxe:=en.is_ x _ (by simp [Op.operands,Call.operands]) hx;obtain⟨⟨hb,hC⟩,hM⟩:=hh.slot q _ hk';obtain⟨i,z,hi,hz,hs1,hs2,hs3,hs4⟩:=uf he;subst hs1;have hnl:news.length=k*i.size:=by rw[<-hnews,mg,zqq hal]
 rcases hy _ a u H fp (by simp [Op.operands,Call.operands]) en with ⟨h0,_⟩ | ⟨ad,c',hye,hcy⟩
 ·omega
 have hrun0:=Cs (P:=P) (ty:=ty) (ti:=ti) (c:=c) (c':=c') (Tabs.sl_spec ht) hi hb hnl hk (by rw[hnl];exact hcl) (fun v hv=>dj (zph.1 h1 v hv)) (ad:=ad) (fun j v hj=>hcy j v (by
  rw[<-hnews,zsh] at hj;split at hj
  ·exact hj
  ·cases hj))
 rw[hnl,hr] at hrun0
 have hrun:(execOp a.eval ⟨some d,.call ⟨.builtin .copy,#[x,y],#[t,ti]⟩,ty,pos,aft,g⟩).run P u=.ok (.value (goInt k)) (u.setRow b cur'.toArray):=by
  simp only[execOp,resolve,invoke,builtin,nw,mf,ny,zpp,mw,zpk,hxe,hye,hrun0]
 rw[hrun];simp only[Upon];have hbm:=hM b ((hC b).2 rfl)
 have h2:=hh.usePut (d:=q) (a':=a) (r':=xp b cur' t') (C:=fun k=>k=b) hk' (v6 hh.sub hb ((hC b).2 rfl) hbm.2.1 _) rfl rfl (fun _ _=>rfl) ⟨setRow_heap u b cur.toArray cur'.toArray t' (0,0) hb,fun _=>Iff.rfl⟩ (fun k hk=>by
  subst hk;exact⟨.inl ((hC k).2 rfl),by rw[setRow_size];exact hbm.1,hbm.2.1⟩)
 rw[j8] at h2;exact⟨H,_,h2.put (k:=.is (.int .i64 k)) (zm hn) trivial Z⟩
def X5(L:Tabs P){b c off2 m' c':Nat}{s:Nat}(k:Nat)(hn:Nat.blt d n=true)(hg:gK ops κ ⟨some d,.call ⟨.builtin .copy,#[x,y],#[t,ti]⟩,ty,pos,aft,g⟩=some true)
  (hx:evK κ x=some (.slice (some ⟨b,off,none⟩) m c)) (hq:κ q=some (.own (xp b cur t'))) (hy:evK κ y=some (.slice (some ⟨b,off2,none⟩) m' c')) (ht:L.sl t=some e) (he:elI P e=some (s,by_)) (hk:Nat.min m' m=k) (hnews:(cur.drop off2).take (k*s)=news) (hnl:news.length=k*s) (hcl:off+k*s<=cur.length) (h1:news.all u7=true)
  (hr:cur.take off++(news++cur.drop (off+k*s))=cur'):
  ww P F B n ops O κ ⟨some d,.call ⟨.builtin .copy,#[x,y],#[t,ti]⟩,ty,pos,aft,g⟩ q (.own (xp b cur' t')) d (.is (.int .i64 k)):=by
 rintro κ' a u hlk hks ⟨H,fp,hh⟩;unfold After;rw[na (xj hh hlk hg)];have en:=hh.env hlk;have hk':κ' q=some (.own (xp b cur t')):=hks.trans hq;have hxe:=en.is_ x _ (by simp [Op.operands,Call.operands]) hx;have hye:=en.is_ y _ (by simp [Op.operands,Call.operands]) hy;obtain⟨⟨hb,hC⟩,hM⟩:=hh.slot q _ hk';obtain⟨i,z,hi,hz,hs1,hs2,hs3,hs4⟩:=uf he;subst hs1;have hrun0:=Cs (P:=P) (ty:=ty) (ti:=ti) (c:=c) (c':=c') (Tabs.sl_spec ht) hi hb hnl hk (by rw[hnl];exact hcl) (fun v hv=>dj (zph.1 h1 v hv)) (ad:=⟨b,off2,none⟩) (fun j v hj=>(M5 hb off2 j).trans (M2 hnews.symm hj));rw[hnl,hr] at hrun0
 have hrun:(execOp a.eval ⟨some d,.call ⟨.builtin .copy,#[x,y],#[t,ti]⟩,ty,pos,aft,g⟩).run P u=.ok (.value (goInt k)) (u.setRow b cur'.toArray):=by
  simp only[execOp,resolve,invoke,builtin,nw,mf,ny,zpp,mw,zpk,hxe,hye,hrun0]
 rw[hrun];simp only[Upon];have hbm:=hM b ((hC b).2 rfl)
 have h2:=hh.usePut (d:=q) (a':=a) (r':=xp b cur' t') (C:=fun k=>k=b) hk' (v6 hh.sub hb ((hC b).2 rfl) hbm.2.1 _) rfl rfl (fun _ _=>rfl) ⟨setRow_heap u b cur.toArray cur'.toArray t' (0,0) hb,fun _=>Iff.rfl⟩ (fun k hk=>by
  subst hk;exact⟨.inl ((hC k).2 rfl),by rw[setRow_size];exact hbm.1,hbm.2.1⟩)
 rw[j8] at h2;exact⟨H,_,h2.put (k:=.is (.int .i64 k)) (zm hn) trivial Z⟩
def T1(L:Tabs P){q b nn cap k:Nat}{x y:Operand}{t ti e t':TypeId}{s by_:Nat}{kn:IntKind}{cur xs zs:List Value}{z:Value}(hn:Nat.blt d n=true)(hg:gK ops κ ⟨some d,.call ⟨.builtin .append,#[x,y],#[t,ti]⟩,ty,pos,aft,g⟩=some true)
  (hx:evK κ x=some (.slice (some ⟨b,0,none⟩) nn cap)) (hq:κ q=some (.own (xp b cur t'))) (hy:evK κ y=some (.int .i64 k)) (ht:L.sl t=some e) (hti:P.underlying ti=some (.int kn)) (he:elI P e=some (s,by_)) (hz:L.zr e=some z) (h0:0<k) (hg2:cap<nn+k) (hxs:cur.take (nn*s)=xs) (hxl:nn*s<=cur.length) (hzs:(Builtin.zeroCells z.cells k).toList=zs)
  (hb:(nn+k)*by_<=140737488355328) (h63:nn+k<=4611686018427387904):
  StepOKR P F B n ops O κ ⟨some d,.call ⟨.builtin .append,#[x,y],#[t,ti]⟩,ty,pos,aft,g⟩ q d (.own (SlR e s (nn+k) (xs++zs))):=by
 rintro κ' a u hlk hks ⟨H,fp,hh⟩;unfold After;rw[na (xj hh hlk hg)];have en:=hh.env hlk;have hk':κ' q=some (.own (xp b cur t')):=hks.trans hq;have hxe:=en.is_ x _ (by simp [Op.operands,Call.operands]) hx;have hye:=en.is_ y _ (by simp [Op.operands,Call.operands]) hy;obtain⟨⟨hbb,hC⟩,hM⟩:=hh.slot q _ hk';obtain⟨i,z',hi,hz',hs1,hs2,hs3,hs4⟩:=uf he
 have hzz:i.zero=some z:=by
  have:=Tabs.zr_spec hz;unfold zrI at this;rw[hi] at this;exact this
 rw[hz'] at hzz;obtain rfl:=Option.some.inj hzz;subst hs1;subst hs2
 have hold:(Builtin.firstCells i.size nn (.slice (some ⟨b,0,none⟩) nn cap)).run P u.drew=.ok xs.toArray u.drew:=run_firstCells_some (P:=P) u.drew i.size nn ⟨b,0,none⟩ nn cap xs (by rw[<-hxs,mg,zqq hxl]) fun j v hj=>by
  have hb2:u.drew.heap[b]?=some (.cells cur.toArray t'):=hbb;rw[M5 hb2 0 j,zpc];rw[<-hxs,zsh] at hj;split at hj
  ·exact hj
  ·cases hj
 have hkb:k*i.bytes<=(nn+k)*i.bytes:=zq7 _ T;have hns:=growslice_fits hg2 hb;have hr:=Lib.run_append_grow_zeros (P:=P) u t ti ty e i z' .i64 kn (Tabs.sl_spec ht) hti hi hz' (some ⟨b,0,none⟩) nn cap xs hold k h0 hs4 hg2 T T hns
 have hrun:(execOp a.eval ⟨some d,.call ⟨.builtin .append,#[x,y],#[t,ti]⟩,ty,pos,aft,g⟩).run P u=.ok (.value (.slice (some ⟨u.heap.size,0,none⟩) (nn+k) (grownCap u (nn+k) cap e))) (u.drew.alloc (.cells (xs.toArray++Builtin.zeroCells z'.cells k++Builtin.zeroCells z'.cells (grownCap u (nn+k) cap e-(nn+k))) e)):=by
  simp only[execOp,resolve,invoke,builtin,nw,mf,ny,zpp,mw,zpk,hxe,hye,hr]
 rw[hrun];simp only[Upon];have hge:=grownCap_ge u (nn+k) cap e;have hmx:nn+k<=maxLen:=by simp only[maxLen];omega
 have hxl2:xs.length=nn*i.size:=by rw[<-hxs,mg,zqq hxl]
 have hzl:zs.length=k*i.size:=by rw[<-hzs,zq6,size_zeroCells,hs3]
 have hg3:=hh.grow (u':=u.drew.alloc (.cells (xs.toArray++Builtin.zeroCells z'.cells k++Builtin.zeroCells z'.cells (grownCap u (nn+k) cap e-(nn+k))) e)) (H':=H) ⟨⟨rfl,rfl,rfl,by simp,fun k hk _=>jw u.drew _ hk,zp5 _⟩,fun k v hv=>by
  have:=hh.sub.size hv;show(u.drew.alloc _).heap[k]?=some v;rw[jw u.drew _ this];exact hh.sub k v hv,mq _,fun _ _ _=>rfl⟩
 refine⟨H,_,hg3.putR (C:=fun k=>k=u.heap.size) (by simp [Act.put]) Z (fun t ht=>xr ht) ⟨by rw[nr,hxl2,hzl,zp6],.inr ⟨u.heap.size,_,(Builtin.zeroCells z'.cells (grownCap u (nn+k) cap e-(nn+k))).toList,xz (by rw[hh.size];exact zm hn),?_,hge,grownCap_le_maxLen u (nn+k) cap e hmx,?_,fun _=>Iff.rfl⟩⟩ (fun k hk=>?_) fun t r' htd ht k hf hk=>?_⟩
 ·rw[show u.heap.size=u.drew.heap.size from rfl,heap_alloc_new];congr 2;apply Array.ext';simp [<-hzs]
 ·have hz2:(Builtin.zeroCells z'.cells (grownCap u (nn+k) cap e-(nn+k))).toList.length=(grownCap u (nn+k) cap e-(nn+k))*i.size:=(zq6).trans (by rw[size_zeroCells,hs3]);rw[nr,nr,hz2,hxl2,hzl,<-zp6,<-zp6];congr 1;omega
 ·subst hk;exact⟨by simp,jg hh.sub (nu _),.inl hh.keep.size,fun y hy e=>by have:=xh (hh.boxes y hy).1;omega⟩
 ·have:=((hh.slot t _ ht).2 k hf).1;omega
def Ow(L:Tabs P){q w b off m f len cap:Nat}{y:Operand}{t e t':TypeId}{s:Nat}{cur cs:List Value}{te:TypeId}{fo:Operand}{tR:TypeId}(hn:Nat.blt d n=true)(hg:gK ops κ ⟨some d,.call { callee:=.value fo,args:=#[.tmp w,y],argTypes:=at_ },ty,pos,aft,g⟩=some true)
  (hfo:evK κ fo=some (.func (.func f) #[] #[])) (hext:∀ args u,(callFunc f args).run P u=((Extern.SlicesOverlaps.overlaps #[t,t] #[tR] args).run P u).andThen fun v w'=>.ok (.value v) w')
  (hx:κ w=some (.sat (SlB cs te len))) (hy:evK κ y=some (.slice (some ⟨b,off,none⟩) m cap)) (hq:κ q=some (.own (xp b cur t'))) (ht:L.sl t=some e) (hl:L.ld e=some (ag,s)) (hc:0<cur.length):
  StepOKR P F B n ops O κ ⟨some d,.call { callee:=.value fo,args:=#[.tmp w,y],argTypes:=at_ },ty,pos,aft,g⟩ q d (.is (.bool false)):=by
 rintro κ' a u hlk hks ⟨H,fp,hh⟩;unfold After;rw[na (xj hh hlk hg)];have en:=hh.env hlk;have hk':κ' q=some (.own (xp b cur t')):=hks.trans hq;have hfe:a.eval fo=.func (.func f) #[] #[]:=en.is_ fo _ (by simp [Op.operands,Call.operands]) hfo;have hye:=en.is_ y _ (by simp [Op.operands,Call.operands]) hy;obtain⟨b2,hxe,hb2⟩:=en.sat_ w _ (by simp [Op.operands,Call.operands]) hx;obtain⟨⟨hbb,hC⟩,hM⟩:=hh.slot q _ hk';have hbm:=hM b ((hC b).2 rfl);have hne:b2≠b:=fun e=>by subst e;rw[hbm.2.1] at hb2;cases hb2
 have hb2':=en.sub _ _ hb2;have hsz:∀ w,(Go.sizeOf e).run P w=.ok s w:=ja (Tabs.ld_spec hl)
 have hr:=Lib.run_overlaps_apart (P:=P) u t tR e (Tabs.sl_spec ht) s hsz ⟨b2,0,none⟩ ⟨b,off,none⟩ len len m cap hne te t' cs.length cur.length
  (by simp [World.shape?,hp] at hb2' |-;simp [hb2']) (by simp [World.shape?,hbb]) T (by simp [World.frozen?,hp] at hb2' |-;simp [hb2']) (by simp [World.frozen?,hp] at hb2' |-;simp [hb2'])
 have hrun:(execOp a.eval ⟨some d,.call { callee:=.value fo,args:=#[.tmp w,y],argTypes:=at_ },ty,pos,aft,g⟩).run P u=.ok (.value (.bool false)) u:=by
  simp only[execOp,resolve,hfe,Deferred.ofValue,nw,mf,ny,invoke];simp [hext,hxe,hye,hr]
 rw[hrun];simp only[Upon];exact⟨H,fp,hh.put (k:=.is (.bool false)) (zm hn) trivial Z⟩
def To(L:Tabs P){s:Nat}{k:IntKind}(hn:Nat.blt d n=true)(hg:gK ops κ ⟨some d,.slice tt x (some y) none none,ty,pos,aft,g⟩=some true)
  (hx:evK κ x=some (.slice none 0 0)) (ht:L.sl tt=some e) (hl:L.ld e=some (ag,s))  (hy:evK κ y=some (.int k p)) (hp:p=(0:Nat)):
  StepOK P F B n ops O κ ⟨some d,.slice tt x (some y) none none,ty,pos,aft,g⟩ d (.is (.slice none 0 0)):=
 kf rfl (zm hn) hg trivial fun a u H fp en=>⟨_,by
  have hu:=Tabs.sl_spec ht;have h1:=en.is_ x _ (by simp [Op.operands]) hx;have h2:=en.is_ y _ (by simp [Op.operands]) hy;subst hp
  have hrun:(Instr.sliceBounds true 0 0 (some (a.eval y)) none none).run P u=.ok (0,0,0) u:=by
   have h4:=fun c w=>ji (P:=P) 0 k 0 c (nu _) w;simp only[h2,Instr.sliceBounds,nw,h4,ny,mf]
  simp only[execOp,h1,Instr.sliceAt,Instr.slice,nw,run_underlying hu,ny,zro,zqs,hrun,ja (Tabs.ld_spec hl)];rfl,rfl⟩
end
end Go.V
end
