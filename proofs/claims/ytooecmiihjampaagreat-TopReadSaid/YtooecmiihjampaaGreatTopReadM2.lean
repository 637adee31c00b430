/- Texts, part 2. -/
import Derived.Test.YtooecmiihjampaaGreatTopReadM1
import Derived.Test.YtooecmiihjampaaGreatProg
import Derived.Shelf.Small.Strs
import Derived.Shelf.Small.Wraps
import Derived.Shelf.Utf8.RuneCount
import Derived.Shelf.Strings.Shaped
import Derived.Shelf.Strings.Split
import Derived.Shelf.Strings.RuneCount
import Derived.Shelf.SlSortCmp.NoneTotal
import Derived.Lib.AppendZerosOnto
import Derived.Lib.Overlaps
set_option linter.unusedVariables false
set_option linter.unusedSimpArgs false
set_option maxRecDepth 20000
set_option maxHeartbeats 8000000
set_option linter.defProp false
open Go.Proofs Go.RowKit
noncomputable abbrev _root_.zs5:=Go.Proofs.Tryz.prog
section
variable{u w:Go.World}{B B0 H:Go.V.Heap}{e t t' ti tt ty:Go.TypeId}{ag fu:Bool}{v:Go.Value}{a b c r:ByteArray}{x y:Go.Operand}{by_ d f i j k len m n off q s:Nat}{K α:Type}{p:Int}{P:Go.Program}{F:Go.V.Fr}{O:Go.V.Boxes}{ops:Array Go.Oper}{κ:Go.V.Kap}{pos:String}{aft:Array Go.Edge}{g:Option (Nat×Bool)}{fp:Nat->Nat->Prop}{os:List Go.Oper}{zs3:Go.Exit->Go.Act->Go.World->Prop}{ex:Go.V.Exs}{kh kl:Go.IntKind}{cap cs cur cur' news rest xs:List Go.Value}{o:Go.Oper}{args:Array Go.Operand}{at_:Array Go.TypeId}{C:Nat->Prop}{φ:Go.Value->Go.V.Heap->Prop}{ls ys:List ByteArray}{hi lo:Option Go.Operand}{r1 r2:Go.V.Res}{A Y:Prop}
namespace Go.V
set_option maxRecDepth 100000
def gp{X:Type}(v:X):List Nat->List (Nat×X)->List (Nat×X)
 | [],r=>r
 | t::l,r=>(t,v)::gp v l r
def gq(k o:Nat):List Nat->List ((Nat×Nat)×Nat)->List ((Nat×Nat)×Nat)
 | [],r=>r
 | t::l,r=>((t,k),o)::gq k o l r
def ko:zs5.follows .mixedOrders=true:=J
def ldL:List (Nat×(Bool×Nat)):=gp (false,1) [1,2,3,4,5,6,9,10,11,12,15,16,17,20,21,22,25,30,31,38,40,41,42,43,44,47,48,49,50,58,59,60,61,62,64,65,66,68,70,72,73,74,75,79,80,83,86,87,91,93,95,96,97,98,99,100,101,102,103,104,105,106,107,109,110,112,113,115,116,117,118,121,122,123,124,125,127,128,130,132,133,134,136,137,138,139,140,141,142,143,144,145,146,147,148,150,151,152,153,155,157,159,160,161,162,163,165,167,170,171,172,173,174,175,176,177,178,179,180,181,182,183,184,187,188,189,190,191,192,193,195,196,197,198,199,202,205,206,208,209,210,211,212,214,217,218,220,221,222,228,229,230,231,232,233,234,235,236,237,238,239,242,243,244,246,247,249,250,251,252,253,257,258,259,260,261,262,263,264,265,266,267,268,269,270,271,272,273,274,275,276,277,278,279,280,281,282,283,284,285,286,287,290,294,295,296,297,298,299,300,301,302,303,304,306,307,308,309,310,311,313,314,315,316,317,318,319,320,321,322,323,324,325,326,327,328,329,330,331,332,333,334,335,336,337,338,339,341,343,344,345,346,347,348,349,350,351,352,354,355,356,357,358,359,360,366,367,368,369,370] (gp (true,2) [13,14,26,27,32,33,34,35,51,52,88,168,203,204,215,223,224,240,241,288,289,291,292] (gp (true,4) [7,8,36,37,119,120,225,226,361,362] (gp (true,1) [18,19,23,24,28,29,45,46] (gp (true,3) [53,54,55,89,90,111] (gp (true,6) [56,57,169,185,186,216] (gp (true,7) [76,77,81,82,84,85] (gp (true,0) [114,363,364,365] (gp (true,10) [200,201] (gp (true,9) [255,256] (gp (true,11) [371,372] (gp (true,14) [166] [])))))))))))
def slL:List (Nat×Nat):=gp 88 [22] (gp 111 [25] (gp 57 [41] (gp 5 [43] (gp 77 [74] (gp 54 [101] (gp 82 [151] (gp 48 [153] (gp 186 [183] (gp 289 [222] (gp 37 [243] (gp 9 [259] (gp 3 [262] (gp 215 [333] [])))))))))))))
def stL:List (Nat×Unit):=gp () [9,10,11] []
def foL:List ((Nat×Nat)×Nat):=gq 0 0 [7,8,13,14,18,19,23,24,26,27,28,29,32,33,34,35,36,37,45,46,51,52,53,54,55,56,57,76,77,81,82,84,85,89,90,119,120,168,185,186,200,201,203,204,223,224,225,226,240,241,255,256,288,289,291,292,361,362,371,372] (gq 1 1 [7,8,13,14,26,27,32,33,51,52,84,85,119,120,168,203,204,223,224,225,226,240,241,255,256,288,289,291,292,361,362,371,372] (gq 2 2 [7,8,84,85,119,120,225,226,361,362,371,372] (gq 3 3 [7,8,84,85,119,120,361,362,371,372] (gq 1 2 [36,37,53,54,55,89,90] (gq 1 6 [76,77,81,82,200,201] (gq 1 3 [56,57] (gq 4 6 [84,85] (gq 2 7 [200,201] (gq 3 8 [200,201] (gq 4 9 [200,201] (gq 2 8 [255,256] (gq 4 4 [371,372] (gq 5 5 [371,372] (gq 6 6 [371,372] (gq 7 7 [371,372] (gq 8 8 [371,372] (gq 9 9 [371,372] (gq 10 10 [371,372] []))))))))))))))))))
def zrL:List (Nat×Value):=gp (.nilFunc) [1,30,40,42,44,47,49,50,59,60,61,62,64,65,66,68,70,72,73,75,79,80,83,86,87,91,93,95,96,97,98,99,100,102,103,104,105,106,107,109,110,115,116,117,118,121,122,123,124,125,127,128,130,132,133,134,136,137,138,139,140,141,142,143,144,145,146,148,150,152,155,157,159,160,161,162,163,165,170,171,172,173,174,175,176,177,178,179,180,181,182,184,187,188,189,190,191,192,193,195,196,197,198,199,208,209,210,211,212,214,217,218,220,228,229,230,231,232,233,234,235,236,237,238,242,244,246,247,249,250,251,252,253,257,258,260,261,263,264,265,266,267,268,269,270,271,272,273,274,275,277,278,279,280,281,282,283,284,285,286,287,290,294,295,296,297,298,299,300,301,302,303,306,307,308,309,310,313,314,315,316,317,318,320,321,322,323,324,325,326,327,328,329,330,331,332,335,336,338,339,341,343,344,345,346,347,348,349,350,351,354,355,356,357,358,359,360,368] (gp (.slice none 0 0) [22,25,41,43,74,101,151,153,183,222,243,259,262,333] (gp (.pointer none) [15,16,17,31,58,112,147,167,202,239,276,337,352] (gp (.agg #[.slice none 0 0]) [23,24,28,29,45,46] (gp (.agg #[.string ⟨#[]⟩,.string ⟨#[]⟩,.string ⟨#[]⟩,.string ⟨#[]⟩,.string ⟨#[]⟩,.string ⟨#[]⟩,.bool false]) [76,77,81,82,84,85] (gp (.agg #[.string ⟨#[]⟩,.string ⟨#[]⟩,.string ⟨#[]⟩,.string ⟨#[]⟩,.string ⟨#[]⟩,.string ⟨#[]⟩]) [56,57,185,186,216] (gp (.int .i64 0) [2,3,38,304] (gp (.int .u8 0) [5,6,366,367] (gp (.int .u64 0) [12,48,113,334] (gp (.agg #[.nilFunc,.pointer none]) [32,33,34,35] (gp (.agg #[]) [114,363,364,365] (gp (.string ⟨#[]⟩) [9,10,11] (gp (.nilIface) [20,205,206] (gp (.int .i32 0) [21,369,370] (gp (.agg #[.string ⟨#[]⟩,.string ⟨#[]⟩]) [51,52,215] (gp (.agg #[.string ⟨#[]⟩,.string ⟨#[]⟩,.string ⟨#[]⟩]) [53,54,55] (gp (.agg #[.int .u8 0,.int .u8 0,.int .u8 0]) [89,90,111] (gp (.agg #[.int .i64 0,.int .i64 0,.bool false,.int .u8 0]) [7,8] (gp (.agg #[.string ⟨#[]⟩,.int .u64 0]) [13,14] (gp (.agg #[.pointer none]) [18,19] (gp (.agg #[.slice none 0 0,.slice none 0 0]) [26,27] (gp (.agg #[.nilFunc,.pointer none,.nilFunc,.pointer none]) [36,37] (gp (.agg #[.slice none 0 0,.int .i64 0,.int .i64 0,.int .i64 0]) [119,120] (gp (.agg #[.string ⟨#[]⟩,.string ⟨#[]⟩,.string ⟨#[]⟩,.string ⟨#[]⟩,.string ⟨#[]⟩,.string ⟨#[]⟩,.pointer none,.pointer none,.int .i64 0,.int .i64 0]) [200,201] (gp (.agg #[.pointer none,.slice none 0 0]) [203,204] (gp (.agg #[.slice none 0 0,.int .i64 0]) [223,224] (gp (.agg #[.int .u64 0,.map none,.slice none 0 0,.int .i64 0]) [225,226] (gp (.agg #[.pointer none,.int .i64 0]) [240,241] (gp (.agg #[.slice none 0 0,.string ⟨#[]⟩,.string ⟨#[]⟩,.string ⟨#[]⟩,.string ⟨#[]⟩,.string ⟨#[]⟩,.string ⟨#[]⟩,.bool false,.int .i64 0]) [255,256] (gp (.agg #[.int .u64 0,.int .i64 0]) [288,289] (gp (.agg #[.int .i64 0,.int .i64 0]) [291,292] (gp (.agg #[.pointer none,.pointer none,.pointer none,.string ⟨#[]⟩]) [361,362] (gp (.agg #[.int .u64 0,.int .u64 0,.int .u32 0,.int .u8 0,.int .u8 0,.int .u8 0,.int .u8 0,.nilFunc,.pointer none,.int .i32 0,.int .i32 0]) [371,372] (gp (.bool false) [4] (gp (.agg #[.int .u8 0,.int .u8 0]) [88] (gp (.agg #[.string ⟨#[]⟩,.string ⟨#[]⟩,.string ⟨#[]⟩,.string ⟨#[]⟩,.string ⟨#[]⟩,.string ⟨#[]⟩,.bool false,.string ⟨#[]⟩,.string ⟨#[]⟩,.string ⟨#[]⟩,.string ⟨#[]⟩,.string ⟨#[]⟩,.string ⟨#[]⟩,.bool false]) [166] (gp (.agg #[.pointer none,.string ⟨#[]⟩]) [168] (gp (.agg #[.pointer none,.string ⟨#[]⟩,.pointer none,.string ⟨#[]⟩,.pointer none,.string ⟨#[]⟩]) [169] (gp (.map none) [221] (gp (.int .u32 0) [311] [])))))))))))))))))))))))))))))))))))))))
def fnL:List (Nat×Unit):=gp () [3,4,5,6,7,8,9,10,11,12,13,14,15,16,17,18,19,20,21,22,23,24,25,26,27,28,29,30,31,32,33,34,35,36,37,38,39,40,41,42,43,44,45,46,47,48,49,50,51,52,53,54,55,56,57,58,59,60,61,62,63,64,65,66,67,68,69,70,71,72,73,74,75,76,77,78,79,80,81,82,83,84,85,86,87,88,89,90,91,92,93,94,95,96,97,98,99,100,101,102,103,104,105,106,107,108,109,110,111,112,113,114,115,116,117,118,119,120,122,123,124,125,126,127,128,129,130,131,132,133,134,135,136,137,138,139,140,141,142,143,144,145,146,147,148,149,150,151,152,153,154,155,156,157,158,159,160,161,162,163,164,165,166,167,168,169,171,172,173,174,175,176,177,178,179,180,181,182,183,184,186,187,188,189,190,191,193,194,195,196,197,198,199,200,201,202,203,204,205,206,207,208,209,210,211,212,213,214,215,216,217,218,219,220,221,222,223,224,225,227,228,229,230,231,232,233,238,241,242,244,245,246,247,248,249,250,251,252,253,254,256,257,258,259,260,261,262,263,264,265,266,267,268,271,272,273,274,275,276,277,278,279,280,281,282,283,284,285,286,287,288,289,290,291,292,293,294,295,296] []
def zkp:ldL.all (fun p=>ldI zs5 p.1 == some p.2)=true:=J
def zjn:slL.all (fun p=>slI zs5 p.1 == some p.2)=true:=J
def zjl:stL.all (fun p=>stI zs5 p.1 == some p.2)=true:=J
def zky:foL.all (fun p=>foI zs5 p.1 == some p.2)=true:=J
def zix:zrL.map (fun p=>zrI zs5 p.1)=zrL.map (fun p=>some p.2):=J
def zkz: fnL.all (fun p => match Tryz.prog.funcs[p.1]? with | some fn => fn.body.isSome && fn.name != "runtime.NumGoroutine" | none => false) = true := by kernel_rfl
def L:Tabs zs5:=⟨ldL,slL,stL,foL,zrL,fnL,zkp,zjn,zjl,zky,zix,zkz⟩
def el5:elI zs5 5=some (1,1):=J
def zou:elI zs5 37=some (4,32):=J
def zit:elI zs5 48=some (1,8):=J
def zhw:elI zs5 57=some (6,96):=J
def zlv:elI zs5 77=some (7,104):=J
def zk3:elI zs5 186=some (6,104):=J
def Me:elI zs5 289=some (2,16):=J
def zoi:PL zs5 33 [(0,1),(1,1)] [.nilFunc,.pointer none]:=⟨by kernel_rfl,.agg #[.nilFunc,.pointer none],by kernel_rfl,rfl⟩
def zoh:PL zs5 35 [(0,2)] [.nilFunc,.pointer none]:=⟨by kernel_rfl,.agg #[.nilFunc,.pointer none],by kernel_rfl,rfl⟩
def zmg:PL zs5 37 [(0,2),(2,2)] [.nilFunc,.pointer none,.nilFunc,.pointer none]:=⟨by kernel_rfl,.agg #[.nilFunc,.pointer none,.nilFunc,.pointer none],by kernel_rfl,rfl⟩
def zno:PL zs5 52 [(0,1),(1,1)] [.string ⟨#[]⟩,.string ⟨#[]⟩]:=⟨by kernel_rfl,.agg #[.string ⟨#[]⟩,.string ⟨#[]⟩],by kernel_rfl,rfl⟩
def znn:PL zs5 54 [(0,2),(2,1)] [.string ⟨#[]⟩,.string ⟨#[]⟩,.string ⟨#[]⟩]:=⟨by kernel_rfl,.agg #[.string ⟨#[]⟩,.string ⟨#[]⟩,.string ⟨#[]⟩],by kernel_rfl,rfl⟩
def zog:PL zs5 55 [(0,2),(2,1)] [.string ⟨#[]⟩,.string ⟨#[]⟩,.string ⟨#[]⟩]:=⟨by kernel_rfl,.agg #[.string ⟨#[]⟩,.string ⟨#[]⟩,.string ⟨#[]⟩],by kernel_rfl,rfl⟩
def znm:PL zs5 57 [(0,3),(3,3)] [.string ⟨#[]⟩,.string ⟨#[]⟩,.string ⟨#[]⟩,.string ⟨#[]⟩,.string ⟨#[]⟩,.string ⟨#[]⟩]:=⟨by kernel_rfl,.agg #[.string ⟨#[]⟩,.string ⟨#[]⟩,.string ⟨#[]⟩,.string ⟨#[]⟩,.string ⟨#[]⟩,.string ⟨#[]⟩],by kernel_rfl,rfl⟩
def znl:PL zs5 77 [(0,6),(6,1)] [.string ⟨#[]⟩,.string ⟨#[]⟩,.string ⟨#[]⟩,.string ⟨#[]⟩,.string ⟨#[]⟩,.string ⟨#[]⟩,.bool false]:=⟨by kernel_rfl,.agg #[.string ⟨#[]⟩,.string ⟨#[]⟩,.string ⟨#[]⟩,.string ⟨#[]⟩,.string ⟨#[]⟩,.string ⟨#[]⟩,.bool false],by kernel_rfl,rfl⟩
def znk:PL zs5 82 [(0,6),(6,1)] [.string ⟨#[]⟩,.string ⟨#[]⟩,.string ⟨#[]⟩,.string ⟨#[]⟩,.string ⟨#[]⟩,.string ⟨#[]⟩,.bool false]:=⟨by kernel_rfl,.agg #[.string ⟨#[]⟩,.string ⟨#[]⟩,.string ⟨#[]⟩,.string ⟨#[]⟩,.string ⟨#[]⟩,.string ⟨#[]⟩,.bool false],by kernel_rfl,rfl⟩
def zof:PL zs5 85 [(0,1),(1,1),(2,1),(3,3),(6,1)] [.string ⟨#[]⟩,.string ⟨#[]⟩,.string ⟨#[]⟩,.string ⟨#[]⟩,.string ⟨#[]⟩,.string ⟨#[]⟩,.bool false]:=⟨by kernel_rfl,.agg #[.string ⟨#[]⟩,.string ⟨#[]⟩,.string ⟨#[]⟩,.string ⟨#[]⟩,.string ⟨#[]⟩,.string ⟨#[]⟩,.bool false],by kernel_rfl,rfl⟩
def znj:PL zs5 88 [(0,1),(1,1)] [.int .u8 0,.int .u8 0]:=⟨by kernel_rfl,.agg #[.int .u8 0,.int .u8 0],by kernel_rfl,rfl⟩
def zjz:PL zs5 114 [] []:=⟨by kernel_rfl,.agg #[],by kernel_rfl,rfl⟩
def zmr:PL zs5 120 [(0,1),(1,1),(2,1),(3,1)] [.slice none 0 0,.int .i64 0,.int .i64 0,.int .i64 0]:=⟨by kernel_rfl,.agg #[.slice none 0 0,.int .i64 0,.int .i64 0,.int .i64 0],by kernel_rfl,rfl⟩
def zmq:PL zs5 166 [(0,7),(7,7)] [.string ⟨#[]⟩,.string ⟨#[]⟩,.string ⟨#[]⟩,.string ⟨#[]⟩,.string ⟨#[]⟩,.string ⟨#[]⟩,.bool false,.string ⟨#[]⟩,.string ⟨#[]⟩,.string ⟨#[]⟩,.string ⟨#[]⟩,.string ⟨#[]⟩,.string ⟨#[]⟩,.bool false]:=⟨by kernel_rfl,.agg #[.string ⟨#[]⟩,.string ⟨#[]⟩,.string ⟨#[]⟩,.string ⟨#[]⟩,.string ⟨#[]⟩,.string ⟨#[]⟩,.bool false,.string ⟨#[]⟩,.string ⟨#[]⟩,.string ⟨#[]⟩,.string ⟨#[]⟩,.string ⟨#[]⟩,.string ⟨#[]⟩,.bool false],by kernel_rfl,rfl⟩
def zmp:PL zs5 168 [(0,1),(1,1)] [.pointer none,.string ⟨#[]⟩]:=⟨by kernel_rfl,.agg #[.pointer none,.string ⟨#[]⟩],by kernel_rfl,rfl⟩
def zmo:PL zs5 169 [(0,2),(2,2),(4,2)] [.pointer none,.string ⟨#[]⟩,.pointer none,.string ⟨#[]⟩,.pointer none,.string ⟨#[]⟩]:=⟨by kernel_rfl,.agg #[.pointer none,.string ⟨#[]⟩,.pointer none,.string ⟨#[]⟩,.pointer none,.string ⟨#[]⟩],by kernel_rfl,rfl⟩
def zjy:PL zs5 186 [(0,6),(6,0)] [.string ⟨#[]⟩,.string ⟨#[]⟩,.string ⟨#[]⟩,.string ⟨#[]⟩,.string ⟨#[]⟩,.string ⟨#[]⟩]:=⟨by kernel_rfl,.agg #[.string ⟨#[]⟩,.string ⟨#[]⟩,.string ⟨#[]⟩,.string ⟨#[]⟩,.string ⟨#[]⟩,.string ⟨#[]⟩],by kernel_rfl,rfl⟩
def zmn:PL zs5 201 [(0,6),(6,1),(7,1),(8,1),(9,1)] [.string ⟨#[]⟩,.string ⟨#[]⟩,.string ⟨#[]⟩,.string ⟨#[]⟩,.string ⟨#[]⟩,.string ⟨#[]⟩,.pointer none,.pointer none,.int .i64 0,.int .i64 0]:=⟨by kernel_rfl,.agg #[.string ⟨#[]⟩,.string ⟨#[]⟩,.string ⟨#[]⟩,.string ⟨#[]⟩,.string ⟨#[]⟩,.string ⟨#[]⟩,.pointer none,.pointer none,.int .i64 0,.int .i64 0],by kernel_rfl,rfl⟩
def zmm:PL zs5 215 [(0,1),(1,1)] [.string ⟨#[]⟩,.string ⟨#[]⟩]:=⟨by kernel_rfl,.agg #[.string ⟨#[]⟩,.string ⟨#[]⟩],by kernel_rfl,rfl⟩
def zml:PL zs5 216 [(0,2),(2,2),(4,2)] [.string ⟨#[]⟩,.string ⟨#[]⟩,.string ⟨#[]⟩,.string ⟨#[]⟩,.string ⟨#[]⟩,.string ⟨#[]⟩]:=⟨by kernel_rfl,.agg #[.string ⟨#[]⟩,.string ⟨#[]⟩,.string ⟨#[]⟩,.string ⟨#[]⟩,.string ⟨#[]⟩,.string ⟨#[]⟩],by kernel_rfl,rfl⟩
def zmk:PL zs5 224 [(0,1),(1,1)] [.slice none 0 0,.int .i64 0]:=⟨by kernel_rfl,.agg #[.slice none 0 0,.int .i64 0],by kernel_rfl,rfl⟩
def zjx:PL zs5 226 [(0,1),(1,1),(2,2)] [.int .u64 0,.map none,.slice none 0 0,.int .i64 0]:=⟨by kernel_rfl,.agg #[.int .u64 0,.map none,.slice none 0 0,.int .i64 0],by kernel_rfl,rfl⟩
def zmj:PL zs5 241 [(0,1),(1,1)] [.pointer none,.int .i64 0]:=⟨by kernel_rfl,.agg #[.pointer none,.int .i64 0],by kernel_rfl,rfl⟩
def zmi:PL zs5 256 [(0,1),(1,7),(8,1)] [.slice none 0 0,.string ⟨#[]⟩,.string ⟨#[]⟩,.string ⟨#[]⟩,.string ⟨#[]⟩,.string ⟨#[]⟩,.string ⟨#[]⟩,.bool false,.int .i64 0]:=⟨by kernel_rfl,.agg #[.slice none 0 0,.string ⟨#[]⟩,.string ⟨#[]⟩,.string ⟨#[]⟩,.string ⟨#[]⟩,.string ⟨#[]⟩,.string ⟨#[]⟩,.bool false,.int .i64 0],by kernel_rfl,rfl⟩
def zjw:PL zs5 289 [(0,1),(1,1)] [.int .u64 0,.int .i64 0]:=⟨by kernel_rfl,.agg #[.int .u64 0,.int .i64 0],by kernel_rfl,rfl⟩
def zmh:PL zs5 292 [(0,1),(1,1)] [.int .i64 0,.int .i64 0]:=⟨by kernel_rfl,.agg #[.int .i64 0,.int .i64 0],by kernel_rfl,rfl⟩
def bt4:zs5.underlying 4=some .bool:=J
def zok:nkI zs5 30=some 3:=J
def zmv:nkI zs5 31=some 0:=J
def znq:nkI zs5 43=some 1:=J
def zos:EqT zs5 52 [0,0]:=⟨by kernel_rfl,by kernel_rfl,by kernel_rfl⟩
def znu:EqT zs5 54 [0,0,0]:=⟨by kernel_rfl,by kernel_rfl,by kernel_rfl⟩
def zm2:EqT zs5 55 [0,0,0]:=⟨by kernel_rfl,by kernel_rfl,by kernel_rfl⟩
def zm1:EqT zs5 57 [0,0,0,0,0,0]:=⟨by kernel_rfl,by kernel_rfl,by kernel_rfl⟩
def zoj:nkI zs5 58=some 0:=J
def znp:nkI zs5 74=some 1:=J
def zhd:nkI zs5 112=some 0:=J
def zkd:nkI zs5 147=some 0:=J
def zkc:nkI zs5 202=some 0:=J
def zkb:nkI zs5 222=some 1:=J
def zm3:EqT zs5 289 [1,1]:=⟨by kernel_rfl,by kernel_rfl,by kernel_rfl⟩
def oj:(zs5.underlying 3).isSome=true/\ikI zs5 48=some .u64:=⟨by kernel_rfl,by kernel_rfl⟩
def jo:(zs5.underlying 3).isSome=true/\ikI zs5 113=some .u64:=⟨by kernel_rfl,by kernel_rfl⟩
def Yr:(zs5.underlying 3).isSome=true/\ikI zs5 334=some .u64:=⟨by kernel_rfl,by kernel_rfl⟩
def zdg:(zs5.underlying 5).isSome=true/\ikI zs5 3=some .i64:=⟨by kernel_rfl,by kernel_rfl⟩
def oh:(zs5.underlying 5).isSome=true/\ikI zs5 48=some .u64:=⟨by kernel_rfl,by kernel_rfl⟩
def Qu:(zs5.underlying 48).isSome=true/\ikI zs5 5=some .u8:=⟨by kernel_rfl,by kernel_rfl⟩
def jp:(zs5.underlying 113).isSome=true/\ikI zs5 3=some .i64:=⟨by kernel_rfl,by kernel_rfl⟩
def znv:arI zs5 88=some (2,5):=J
def zm8:arI zs5 111=some (3,5):=J
def zd4:arI zs5 166=some (2,85):=J
def zic:arI zs5 169=some (3,168):=J
def zm7:arI zs5 215=some (2,9):=J
def Ah:arI zs5 216=some (3,215):=J
end Go.V
section
open Go.V
attribute [local irreducible] Has N Par Ret RetL Src StepOK V VO X
namespace Go.V
structure _root_.Wr(B:Prop):Prop where
 h:B
def _root_.Za(t:Wr Y->A:=by intro h;refine z7 (z9 Z Z Z) Z ?_;exact h.1)(h:Y):A:=t ⟨h⟩
def _root_.Zs(t:Wr Y->A:=by intro h;refine z7 (zi Z Z Z) Z ?_;exact h.1)(h:Y):A:=t ⟨h⟩
def _root_.Ze(t:Wr Y->A:=by intro h;refine zj ?_;exact h.1)(h:Y):A:=t ⟨h⟩
def _root_.Zbr(t:Wr Y->A:=by intro h;refine zk ?_;exact h.1)(h:Y):A:=t ⟨h⟩
def _root_.Zab(t:Wr Y->A:=by intro h;refine zh ?_;exact h.1)(h:Y):A:=t ⟨h⟩
def _root_.ZfB(t:Wr Y->A:=by intro h;refine z7 (zw Z (zm Z) Z) Z ?_;exact h.1)(h:Y):A:=t ⟨h⟩
def _root_.ZU(t:Wr Y->A:=by intro h;refine z7 (qz Z Z Z Z (nf T)) Z ?_;exact h.1)(h:Y):A:=t ⟨h⟩
def _root_.Zi(t:Wr Y->A:=by intro h;refine z7 (ql Z Z Z Z) Z ?_;exact h.1)(h:Y):A:=t ⟨h⟩
def _root_.Zfc(t:Wr Y->A:=by intro h;refine q0 Z ?_;exact h.1)(h:Y):A:=t ⟨h⟩
def _root_.Zay(t:Wr Y->A:=by intro h;refine z7 (yc Z Z Z Z (xb T T)) Z ?_;exact h.1)(h:Y):A:=t ⟨h⟩
def _root_.Zfd(t:Wr Y->A:=by intro h;refine qk Z ?_;exact h.1)(h:Y):A:=t ⟨h⟩
def _root_.ZfC(t:Wr Y->A:=by intro h;refine ze (id:=0) ?_;exact h.1)(h:Y):A:=t ⟨h⟩
def _root_.Z0(t:Wr Y->A:=by intro h;refine z7 (qz Z Z Z Z (ng T)) Z ?_;exact h.1)(h:Y):A:=t ⟨h⟩
def _root_.Zan(t:Wr Y->A:=by intro h;refine ze (id:=1) ?_;exact h.1)(h:Y):A:=t ⟨h⟩
def _root_.Zds(t:Wr Y->A:=by intro h;refine qf ?_;exact h.1)(h:Y):A:=t ⟨h⟩
def _root_.Z6(t:Wr Y->A:=by intro h;refine ze (id:=3) ?_;exact h.1)(h:Y):A:=t ⟨h⟩
def _root_.Zv(t:Wr Y->A:=by intro h;refine ze (id:=2) ?_;exact h.1)(h:Y):A:=t ⟨h⟩
def _root_.Zt(t:Wr Y->A:=by intro h;refine ze (id:=4) ?_;exact h.1)(h:Y):A:=t ⟨h⟩
def _root_.Zar(t:Wr Y->A:=by intro h;refine qo ?_;exact h.1)(h:Y):A:=t ⟨h⟩
def _root_.ZO(t:Wr Y->A:=by intro h;refine ze (id:=6) ?_;exact h.1)(h:Y):A:=t ⟨h⟩
def _root_.Z1(t:Wr Y->A:=by intro h;refine ze (id:=5) ?_;exact h.1)(h:Y):A:=t ⟨h⟩
def _root_.Zy(t:Wr Y->A:=by intro h;refine ze (id:=7) ?_;exact h.1)(h:Y):A:=t ⟨h⟩
def _root_.ZM(t:Wr Y->A:=by intro h;refine z7 (yw Z Z Z Z (ng T)) Z ?_;exact h.1)(h:Y):A:=t ⟨h⟩
def _root_.ZP(t:Wr Y->A:=by intro h;refine z7 (yw Z Z Z Z (nf T)) Z ?_;exact h.1)(h:Y):A:=t ⟨h⟩
def _root_.Ze1(t:Wr Y->A:=by intro h;refine yg ?_;exact h.1)(h:Y):A:=t ⟨h⟩
def _root_.Z2(t:Wr Y->A:=by intro h;refine ze (id:=9) ?_;exact h.1)(h:Y):A:=t ⟨h⟩
def _root_.Zu(t:Wr Y->A:=by intro h;refine ze (id:=8) ?_;exact h.1)(h:Y):A:=t ⟨h⟩
def _root_.Zaw(t:Wr Y->A:=by intro h;refine yf ?_;exact h.1)(h:Y):A:=t ⟨h⟩
def _root_.Zaf(t:Wr Y->A:=by intro h;refine z7 (zg7 L Z Z Z Z) Z ?_;exact h.1)(h:Y):A:=t ⟨h⟩
def _root_.Ze9(t:Wr Y->A:=by intro h;refine xa ?_;exact h.1)(h:Y):A:=t ⟨h⟩
def _root_.Zgf(t:Wr Y->A:=by intro h;refine x8 ?_;exact h.1)(h:Y):A:=t ⟨h⟩
def _root_.Zbs(t:Wr Y->A:=by intro h;refine z7 (Lg L Z Z Z M) Z ?_;exact h.1)(h:Y):A:=t ⟨h⟩
def _root_.Zw(t:Wr Y->A:=by exact fun h=>(Zab∘Zbr) h.1)(h:Y):A:=t ⟨h⟩
def _root_.Zg(t:Wr Y->A:=by exact fun h=>(Zw∘Ze) h.1)(h:Y):A:=t ⟨h⟩
def _root_.Zd(t:Wr Y->A:=by exact fun h=>(Zs∘Zg) h.1)(h:Y):A:=t ⟨h⟩
def _root_.Zbh(t:Wr Y->A:=by exact fun h=>(Zbr∘Ze) h.1)(h:Y):A:=t ⟨h⟩
def _root_.Zb(t:Wr Y->A:=by exact fun h=>(Za∘Za) h.1)(h:Y):A:=t ⟨h⟩
def _root_.ZaJ(t:Wr Y->A:=by exact fun h=>(Zw∘Zfc) h.1)(h:Y):A:=t ⟨h⟩
def _root_.Zao(t:Wr Y->A:=by exact fun h=>(Zds∘Zbh) h.1)(h:Y):A:=t ⟨h⟩
def _root_.Zc(t:Wr Y->A:=by exact fun h=>(Zs∘Zw) h.1)(h:Y):A:=t ⟨h⟩
def _root_.ZQ(t:Wr Y->A:=by exact fun h=>(Ze∘ZfC) h.1)(h:Y):A:=t ⟨h⟩
def _root_.Z3(t:Wr Y->A:=by exact fun h=>(Zw∘Zfd) h.1)(h:Y):A:=t ⟨h⟩
def _root_.Zk(t:Wr Y->A:=by exact fun h=>(Zd∘Ze) h.1)(h:Y):A:=t ⟨h⟩
def _root_.Zx(t:Wr Y->A:=by exact fun h=>(ZaJ∘Zao) h.1)(h:Y):A:=t ⟨h⟩
def _root_.ZF(t:Wr Y->A:=by exact fun h=>(Zar∘Ze) h.1)(h:Y):A:=t ⟨h⟩
def _root_.Zn(t:Wr Y->A:=by exact fun h=>(Z3∘Ze) h.1)(h:Y):A:=t ⟨h⟩
def _root_.Zb2(t:Wr Y->A:=by exact fun h=>(ZfB∘ZfB) h.1)(h:Y):A:=t ⟨h⟩
def _root_.ZdP(t:Wr Y->A:=by exact fun h=>(Zao∘ZF) h.1)(h:Y):A:=t ⟨h⟩
def _root_.Zd2(t:Wr Y->A:=by exact fun h=>(Ze1∘Zgf) h.1)(h:Y):A:=t ⟨h⟩
def _root_.Ze2(t:Wr Y->A:=by exact fun h=>(Ze9∘Ze1) h.1)(h:Y):A:=t ⟨h⟩
def _root_.Zb8(t:Wr Y->A:=by exact fun h=>(Zaw∘Zbr) h.1)(h:Y):A:=t ⟨h⟩
def _root_.ZaH(t:Wr Y->A:=by exact fun h=>(Ze2∘Zd2) h.1)(h:Y):A:=t ⟨h⟩
def _root_.ZH(t:Wr Y->A:=by exact fun h=>(Zk∘Zan) h.1)(h:Y):A:=t ⟨h⟩
def _root_.ZV(t:Wr Y->A:=by exact fun h=>(Zx∘Ze) h.1)(h:Y):A:=t ⟨h⟩
def _root_.ZfV(t:Wr Y->A:=by exact fun h=>(Zg∘Zfd) h.1)(h:Y):A:=t ⟨h⟩
def _root_.Zgg(t:Wr Y->A:=by exact fun h=>(ZU∘ZfV) h.1)(h:Y):A:=t ⟨h⟩
def _root_.Zat(t:Wr Y->A:=by exact fun h=>(Zgg∘ZdP) h.1)(h:Y):A:=t ⟨h⟩
def _root_.Zac(t:Wr Y->A:=by exact fun h=>(ZaJ∘Zds) h.1)(h:Y):A:=t ⟨h⟩
def _root_.Zr(t:Wr Y->A:=by exact fun h=>(Z6∘Za) h.1)(h:Y):A:=t ⟨h⟩
def _root_.ZcK(t:Wr Y->A:=by exact fun h=>(Za∘Zab) h.1)(h:Y):A:=t ⟨h⟩
def _root_.ZfD(t:Wr Y->A:=by exact fun h=>(ZaH∘Zbh) h.1)(h:Y):A:=t ⟨h⟩
def _root_.ZS(t:Wr Y->A:=by exact fun h=>(Z1∘Za) h.1)(h:Y):A:=t ⟨h⟩
def _root_.ZcL(t:Wr Y->A:=by exact fun h=>(Za∘Zb2) h.1)(h:Y):A:=t ⟨h⟩
def _root_.Z8(t:Wr Y->A:=by exact fun h=>(Zb∘Za) h.1)(h:Y):A:=t ⟨h⟩
def _root_.ZB(t:Wr Y->A:=by exact fun h=>(Zay∘ZcK) h.1)(h:Y):A:=t ⟨h⟩
def _root_.Za4(t:Wr Y->A:=by exact fun h=>(ZfB∘Zi) h.1)(h:Y):A:=t ⟨h⟩
def _root_.Zbd(t:Wr Y->A:=by exact fun h=>(ZH∘Za) h.1)(h:Y):A:=t ⟨h⟩
def _root_.ZfW(t:Wr Y->A:=by exact fun h=>(Zg∘Zfc) h.1)(h:Y):A:=t ⟨h⟩
def _root_.ZfX(t:Wr Y->A:=by exact fun h=>(Z0∘ZfW) h.1)(h:Y):A:=t ⟨h⟩
def _root_.Zbl(t:Wr Y->A:=by exact fun h=>(Zac∘Zb8) h.1)(h:Y):A:=t ⟨h⟩
def _root_.Zak(t:Wr Y->A:=by exact fun h=>(ZfX∘ZfD) h.1)(h:Y):A:=t ⟨h⟩
def _root_.Zd3(t:Wr Y->A:=by exact fun h=>(Zw∘Zar) h.1)(h:Y):A:=t ⟨h⟩
def _root_.Zau(t:Wr Y->A:=by exact fun h=>(ZcL∘Zb2) h.1)(h:Y):A:=t ⟨h⟩
def _root_.ZcV(t:Wr Y->A:=by exact fun h=>(Ze∘Zt) h.1)(h:Y):A:=t ⟨h⟩
def _root_.ZaR(t:Wr Y->A:=by exact fun h=>(Za∘Zd3) h.1)(h:Y):A:=t ⟨h⟩
def _root_.Zbe(t:Wr Y->A:=by exact fun h=>(Zi∘Zn) h.1)(h:Y):A:=t ⟨h⟩
def _root_.ZbF(t:Wr Y->A:=by exact fun h=>(ZO∘Zb) h.1)(h:Y):A:=t ⟨h⟩
def _root_.ZbU(t:Wr Y->A:=by exact fun h=>(ZcV∘Zat) h.1)(h:Y):A:=t ⟨h⟩
def _root_.Zck(t:Wr Y->A:=by exact fun h=>(ZQ∘Zbd) h.1)(h:Y):A:=t ⟨h⟩
def _root_.Zcl(t:Wr Y->A:=by exact fun h=>(ZcL∘Za4) h.1)(h:Y):A:=t ⟨h⟩
def _root_.Zcw(t:Wr Y->A:=by exact fun h=>(Zi∘Zbl) h.1)(h:Y):A:=t ⟨h⟩
def check_ret(s:ByteArray)(hs:s.size<=9223372036854775807)(hB:zs4 B w):
  Ret zs5 126 [.string s] w B (fun v _=>v=.int .i64 (chk s)):=by
 refine yr Tryz.func126 Z Tryz.ntmps126 (np Z) hB ?_;by_cases h1:1<=s.size
 ·by_cases h2:s.size<=16
  ·refine(Zck∘Zaf∘Z0∘Zb∘Zaf∘ZM∘Zi∘ZV∘Zr∘Zaf∘ZaR) ?_
   refine xp (fun k:Nat=>[(0,.is (.string s)),(13,.is (.int .i64 s.size)),(14,.is (.int .i64 k))])
    (fun k=>k<=s.size/\(s.data.toList.take k).all okB=true) (fun k=>s.size-k) 0 ⟨mb _,by simp⟩ ⟨rfl,rfl,rfl,nm⟩ ?_
   rintro k ⟨hk,hall⟩;by_cases hlt:k<s.size
   ·obtain⟨c,hc⟩:=getElem?_lt hlt;have hu:=zi1 c;by_cases a1:(c.toNat:Int)<97
    ·by_cases a2:(c.toNat:Int)<48
     ·refine(ZbU∘ZS∘Zd∘ZbF∘Zbs∘ZU∘Zau∘Zi∘Z8∘Zbs∘ZU∘Zau∘Zi∘Zbe∘Zy∘Zc) ?_;refine yj1 L [.tmp 2] fun u H hH hle=>?_;exact nh _ (E9 hc (zj7 a1 a2)).symm
     ·by_cases a3:57<(c.toNat:Int)
      ·refine(ZbU∘ZS∘Zd∘ZbF∘Zbs∘ZU∘Zau∘Zi∘Z8∘Zbs∘Z0∘Z8∘Zbs∘ZP∘Zi∘Zbe∘Zy∘Zc) ?_;refine yj1 L [.tmp 2] fun u H hH hle=>?_;exact nh _ (E9 hc (zj6 a1 a3)).symm
      ·refine(ZbU∘ZS∘Zd∘ZbF∘Zbs∘ZU∘Zau∘Zi∘Z8∘Zbs∘Z0∘Z8∘Zbs∘ZM∘Zi∘Zcw∘Zu∘ZB) ?_;refine yo (k+1) ⟨hlt,A9 hc (zj3 a2 a3) hall⟩ T ⟨Z,Z,Z,nm⟩
    ·by_cases a4:122<(c.toNat:Int)
     ·have a5:57<(c.toNat:Int):=T;refine(ZbU∘ZS∘Zd∘ZbF∘Zbs∘Z0∘Z8∘Zbs∘ZP∘Zi∘Z8∘Zbs∘Z0∘Z8∘Zbs∘ZP∘Zi∘Zbe∘Zy∘Zc) ?_;refine yj1 L [.tmp 2] fun u H hH hle=>?_;exact nh _ (E9 hc (zj5 a4)).symm
     ·refine(ZbU∘ZS∘Zd∘ZbF∘Zbs∘Z0∘Z8∘Zbs∘ZM∘Zi∘Zau∘Zb2∘Zb2∘Zb2∘Zcw∘Zu∘ZB) ?_;refine yo (k+1) ⟨hlt,A9 hc (zj4 a1 a4) hall⟩ T ⟨Z,Z,Z,nm⟩
   ·refine(ZcV∘Zak∘Z2∘Zc) ?_;refine yj1 L [.tmp 2] fun u H hH hle=>?_;exact nh _ (Y5 h1 h2 (Rf T hall)).symm
  ·refine(Zck∘Zaf∘Z0∘Zb∘Zaf∘ZP∘Zbe∘Zv∘Zc) ?_;refine yj1 L [.tmp 2] fun u H hH hle=>?_;exact nh _ (Ol T).symm
 ·refine(Zck∘Zaf∘ZU∘Zcl∘Zn∘Zv∘Zc) ?_;refine yj1 L [.tmp 2] fun u H hH hle=>?_;exact nh _ (Ol T).symm
def _root_.Zh(t:Wr Y->A:=by intro h;refine z7 (qd Z Z Z) Z ?_;exact h.1)(h:Y):A:=t ⟨h⟩
def _root_.Zdd(t:Wr Y->A:=by intro h;refine z7 (yp L Z Z Z Z) Z ?_;exact h.1)(h:Y):A:=t ⟨h⟩
def _root_.Zaz(t:Wr Y->A:=by intro h;refine z7 (yh L _ Z Z Z Z (by first | omega | decide) M) Z ?_;exact h.1)(h:Y):A:=t ⟨h⟩
def _root_.Zbf(t:Wr Y->A:=by intro h;refine z7 (yx Z Z Z Z (ng T)) Z ?_;exact h.1)(h:Y):A:=t ⟨h⟩
def _root_.Zde(t:Wr Y->A:=by intro h;refine z7 (yx Z Z Z Z (nf T)) Z ?_;exact h.1)(h:Y):A:=t ⟨h⟩
def _root_.Zdf(t:Wr Y->A:=by intro h;refine z7 (Ld L Z Z Z Z Z) Z ?_;exact h.1)(h:Y):A:=t ⟨h⟩
def _root_.Zfe(t:Wr Y->A:=by intro h;refine z71 L Z (fun u H hH _=>check_ret _ (by first | omega | decide) hH) ?_;exact h.1)(h:Y):A:=t ⟨h⟩
def _root_.Zj(t:Wr Y->A:=by exact fun h=>(Zh∘Zdd) h.1)(h:Y):A:=t ⟨h⟩
def _root_.Z5(t:Wr Y->A:=by exact fun h=>(Zt∘Za) h.1)(h:Y):A:=t ⟨h⟩
def _root_.ZL(t:Wr Y->A:=by exact fun h=>(ZO∘Za) h.1)(h:Y):A:=t ⟨h⟩
def _root_.Za0(t:Wr Y->A:=by exact fun h=>(Zde∘Zn) h.1)(h:Y):A:=t ⟨h⟩
def _root_.Zbm(t:Wr Y->A:=by exact fun h=>(Zd∘ZS) h.1)(h:Y):A:=t ⟨h⟩
def ff:List ByteArray->Int
 | []=>0
 | s::l=>if chk s=0 then ff l else chk s
def Mo:∀ (l:List ByteArray) (s:ByteArray),ff l=0->ff (l++[s])=chk s
 | [],s,_=>by simp only[mj,ff];split<;>simp_all
 | x::l,s,h=>by
  simp only[zpd,ff] at h |-;by_cases hx:chk x=0
  ·rw[na hx] at h |-;exact Mo l s h
  ·rw[nc hx] at h;exact ni h hx
def Rh:∀ (l:List ByteArray) (k:Nat) (s:ByteArray),ff (l.take k)=0->l[k]?=some s->chk s≠0->ff l=chk s
 | [],k,s,_,h,_=>by simp at h
 | x::l,0,s,_,h,hc=>by simp at h;subst h;simp [ff,hc]
 | x::l,k+1,s,ha,h,hc=>by
  simp only[zqr,ff] at ha;simp only[zqe] at h;by_cases hx:chk x=0
  ·rw[na hx] at ha;simp only[ff,na hx];exact Rh l k s ha h hc
  ·rw[nc hx] at ha;exact ni ha hx
def zak(l:List ByteArray)(hl:∀ s∈l,s.size<=9223372036854775807)(hlen:l.length<=1000){v:Value}(hB:zs4 B w)(hv:SlV e 1 (l.map Value.string) l.length fu v B):
  Ret zs5 188 [v] w B (fun v _=>v=.int .i64 (ff l)):=by
 refine yr Tryz.func188 Z Tryz.ntmps188 (np Z) hB (k7 0 (SlV e 1 (l.map Value.string) l.length fu) Z ns hv ((ZQ∘ZH∘Zj∘ZaR) ?_))
 refine xp (fun k:Nat=>[(6,.sat (SlV e 1 (l.map Value.string) l.length fu)),(7,.is (.int .i64 l.length)),(8,.is (.int .i64 k))])
  (fun k=>k<=l.length/\ff (l.take k)=0) (fun k=>l.length-k) 0 ⟨mb _,by simp [ff]⟩ ⟨rfl,rfl,rfl,nm⟩ ?_
 rintro k ⟨hk,hall⟩;by_cases hlt:k<l.length
 ·have hs:l[k]?=some l[k]:=zpe hlt;generalize l[k]=s at hs;have hsz:s.size<=9223372036854775807:=hl s (zo7 hs);have hc:=zjk hs;by_cases h0:chk s=0
  ·refine(Ze∘Zv∘Zat∘Z6∘Zaz∘Zdf∘Zd∘Z5∘Zfe∘Zbm∘Zbf∘Zbl∘Zy∘ZB) ?_;refine yo (k+1) ⟨hlt,?_⟩ T ⟨Z,Z,Z,nm⟩;rw[zpa,hs];show ff (l.take k++[s])=0;rw[Mo _ _ hall,h0]
  ·refine(Ze∘Zv∘Zat∘Z6∘Zaz∘Zdf∘Zd∘Z5∘Zfe∘Zbm∘Za0∘ZL∘Zc) ?_;refine yj1 L [.tmp 2] fun u H hH hle=>?_;exact nh _ (Rh l k s hall hs h0).symm
 ·refine(Ze∘Zv∘Zak∘Zu∘Zc) ?_;refine yj1 L [.tmp 2] fun u H hH hle=>?_;have:l.take k=l:=zo6 T;exact nh _ (this ▸ hall).symm
end Go.V
end
namespace Go.Proofs
open Go.Shelf
def Tryz.ren:Go.Shelf.Ren:=⟨fun | 104=>131 | 106=>102 | 125=>169 | 128=>224 | 129=>225 | 137=>242 | 138=>187 | 143=>122 | 144=>59 | 145=>58 | 195=>238 | 207=>243 | 211=>192 | 213=>170 | 217=>234 | 218=>239 | 219=>185 | 220=>121 | 224=>236 | 225=>235 | 265=>226 | 266=>269 | 267=>237 | 314=>270 | n=>n,fun | 24=>213 | 46=>113 | 51=>311 | 53=>48 | 59=>126 | 146=>342 | n=>n,fun | 1=>0 | n=>n⟩
def Tryz.s1_3(w:World)(h:w.ShapedOpen zs5):∃ m,w.cell? ⟨Tryz.ren.g 1,0,none⟩=some (.int .i64 m):=Go.Proofs.cell_of_shapedOpen_int (zero:=#[.int .i64 0]) (t:=3) h (of_decide_eq_true (by kernel_rfl)) (by kernel_rfl) rfl (by kernel_rfl) (by kernel_rfl) Tryz.underlying3
def Tryz.lays213:Go.Proofs.Lays.n213 zs5 Tryz.ren:=by constructor<;>intros<;>kernel_rfl
def Tryz.bytealg_CompareString(a b:ByteArray)(w:World):
  Calls zs5 170 #[.string a,.string b] w fun e w'=>e=.returned (.int .i64 (Lib.compareBytes a.data.toList b.data.toList))/\w'=w:=Any.bytealg_CompareString Tryz.lays213 a b w
def Tryz.lays106:Go.Proofs.Lays.n106 zs5 Tryz.ren:=by constructor<;>intros<;>kernel_rfl
def Tryz.strings_Compare(a b:ByteArray)(w:World):
  Calls zs5 102 #[.string a,.string b] w fun e w'=>e=.returned (.int .i64 (Lib.compareBytes a.data.toList b.data.toList))/\w'=w:=Any.strings_Compare Tryz.lays106 a b w
def Tryz.lays137:Go.Proofs.Lays.n137 zs5 Tryz.ren:=by constructor<;>intros<;>kernel_rfl
def Tryz.strings_IndexByte(s:ByteArray)(c:Int)(w:World):
  Calls zs5 242 #[.string s,.int .u8 c] w fun e w'=>e=.returned (.int .i64 (Lib.indexByte s.data.toList c.toNat.toUInt8))/\w'=w:=Any.strings_IndexByte Tryz.lays137 s c w
def Tryz.lays211:Go.Proofs.Lays.n211 zs5 Tryz.ren:=by constructor<;>intros<;>kernel_rfl
def Tryz.stringslite_CutSuffix(s p:ByteArray)(w:World)(hs:s.size<=9223372036854775807):
  Calls zs5 192 #[.string s,.string p] w fun e w'=>e=.returned (.tuple #[.string ⟨(Lib.trimSuffix s.data.toList p.data.toList).toArray⟩,.bool (Lib.hasSuffix s.data.toList p.data.toList)])/\w'=w:=Any.stringslite_CutSuffix Tryz.lays211 s p w hs
def Tryz.lays104:Go.Proofs.Lays.n104 zs5 Tryz.ren:=by constructor<;>intros<;>kernel_rfl
def Tryz.strings_CutSuffix(s p:ByteArray)(w:World)(hs:s.size<=9223372036854775807):
  Calls zs5 131 #[.string s,.string p] w fun e w'=>e=.returned (.tuple #[.string ⟨(Lib.trimSuffix s.data.toList p.data.toList).toArray⟩,.bool (Lib.hasSuffix s.data.toList p.data.toList)])/\w'=w:=Any.strings_CutSuffix Tryz.lays104 s p w hs
def Tryz.lays195:Go.Proofs.Lays.n195 zs5 Tryz.ren:=by constructor<;>intros<;>kernel_rfl
def Tryz.utf8_RuneCountInString(s:ByteArray)(w:World)(hs:s.size<9223372036854775807):
  Calls zs5 238 #[.string s] w fun e w'=>e=.returned (.int .i64 (Lib.runeCount s))/\∃ pos,w'=w.iter s pos:=Any.utf8_RuneCountInString Tryz.lays195 s w hs
def Tryz.lays129:Go.Proofs.Lays.n129 zs5 Tryz.ren:=by constructor<;>intros<;>kernel_rfl
def Tryz.bits_Len64(x:Int)(w:World)(h0:0<=x)(h1:x<=18446744073709551615):
  Calls zs5 225 #[.int .u64 x] w fun e w'=>e=.returned (.int .i64 (Lib.bitLen x.toNat))/\w'=w:=Any.bits_Len64 Tryz.lays129 x w h0 h1
def Tryz.lays217:Go.Proofs.Lays.n217 zs5 Tryz.ren:=by constructor<;>intros<;>kernel_rfl
open Go.RowKit Go.Lib in
def Tryz.stringslite_IndexByte(s:ByteArray)(c:Int)(w:World):
  Calls zs5 234 #[.string s,.int .u8 c] w fun e w'=>e=.returned (.int .i64 (Lib.indexByte s.data.toList c.toNat.toUInt8))/\w'=w:=Any.stringslite_IndexByte Tryz.lays217 s c w
def Tryz.lays224:Go.Proofs.Lays.n224 zs5 Tryz.ren:=by constructor<;>intros<;>kernel_rfl
open Go.RowKit Go.Lib in
def Tryz.bytealg_Cutover(n:Int)(h0:0<=n)(h1:n<4611686018427387904)(w:World):
  Calls zs5 236 #[.int .i64 n] w fun e w'=>e=.returned (.int .i64 ((n+16)/8))/\w'=w:=Any.bytealg_Cutover Tryz.lays224 n h0 h1 w
def Tryz.lays314:Go.Proofs.Lays.n314 zs5 Tryz.ren:=by constructor<;>intros<;>kernel_rfl
open Go.RowKit Go.Lib in
def Tryz.bytealg_hashStr(sep:ByteArray)(hs:sep.size<4294967281)(w:World):
  Calls zs5 270 #[.string sep] w fun e w'=>e=.returned (.tuple #[.int .u32 (RK.H sep.data.toList%4294967296),.int .u32 (16777619^sep.size%4294967296)])/\w'=w:=Any.bytealg_hashStr Tryz.lays314 sep hs w
def Tryz.lays267:Go.Proofs.Lays.n267 zs5 Tryz.ren:=by constructor<;>intros<;>kernel_rfl
open Go.RowKit Go.Lib in
def Tryz.bytealg_IndexRabinKarp(s sep:ByteArray)(h1:1<=sep.size)(h2:sep.size<=s.size)(hs:s.size<4294967281)(w:World):
  Calls zs5 237 #[.string s,.string sep] w fun e w'=>e=.returned (.int .i64 (Lib.index s.data.toList sep.data.toList))/\w'=w:=Any.bytealg_IndexRabinKarp Tryz.lays267 s sep h1 h2 hs w
def Tryz.lays219:Go.Proofs.Lays.n219 zs5 Tryz.ren:=by constructor<;>intros<;>kernel_rfl
open Go.RowKit Go.Lib in
def Tryz.stringslite_Index_one(s:ByteArray)(c:UInt8)(w:World):
  Calls zs5 185 #[.string s,.string ⟨#[c]⟩] w fun e w'=>e=.returned (.int .i64 (Lib.indexByte s.data.toList c))/\w'=w:=Any.stringslite_Index_one Tryz.lays219 s c w
open Go.RowKit Go.Lib in
def Tryz.stringslite_Index(s sub:ByteArray)(m:Int)(w:World)(hs:s.size<4294967281)(hm:w.cell? ⟨0,0,none⟩=some (.int .i64 m)):
  Calls zs5 185 #[.string s,.string sub] w fun e w'=>e=.returned (.int .i64 (Lib.index s.data.toList sub.data.toList))/\w'=w:=Any.stringslite_Index Tryz.lays219 s sub m w hs hm
def Tryz.lays143:Go.Proofs.Lays.n143 zs5 Tryz.ren:=by constructor<;>intros<;>kernel_rfl
open Go.RowKit Go.Lib in
def Tryz.strings_Index_one(s:ByteArray)(c:UInt8)(w:World):
  Calls zs5 122 #[.string s,.string ⟨#[c]⟩] w fun e w'=>e=.returned (.int .i64 (Lib.indexByte s.data.toList c))/\w'=w:=Any.strings_Index_one Tryz.lays143 s c w
open Go.RowKit Go.Lib in
def Tryz.strings_Index(s sub:ByteArray)(m:Int)(w:World)(hs:s.size<4294967281)(hm:w.cell? ⟨0,0,none⟩=some (.int .i64 m)):
  Calls zs5 122 #[.string s,.string sub] w fun e w'=>e=.returned (.int .i64 (Lib.index s.data.toList sub.data.toList))/\w'=w:=Any.strings_Index Tryz.lays143 s sub m w hs hm
def Tryz.lays144:Go.Proofs.Lays.n144 zs5 Tryz.ren:=by constructor<;>intros<;>kernel_rfl
open Go.RowKit Go.Lib in
def Tryz.strings_Contains_one(s:ByteArray)(c:UInt8)(w:World):
  Calls zs5 59 #[.string s,.string ⟨#[c]⟩] w fun e w'=>e=.returned (.bool (decide (0<=Lib.indexByte s.data.toList c)))/\w'=w:=Any.strings_Contains_one Tryz.lays144 s c w
open Go.RowKit Go.Lib in
def Tryz.strings_Contains(s sub:ByteArray)(m:Int)(w:World)(hs:s.size<4294967281)(hm:w.cell? ⟨0,0,none⟩=some (.int .i64 m)):
  Calls zs5 59 #[.string s,.string sub] w fun e w'=>e=.returned (.bool (Lib.contains s.data.toList sub.data.toList))/\w'=w:=Any.strings_Contains Tryz.lays144 s sub m w hs hm
def Tryz.lays220:Go.Proofs.Lays.n220 zs5 Tryz.ren:=by constructor<;>intros<;>kernel_rfl
open Go.RowKit Go.Lib in
def Tryz.stringslite_Cut(s sep:ByteArray)(m:Int)(w:World)(hs:s.size<4294967281)(hm:w.cell? ⟨0,0,none⟩=some (.int .i64 m)):
  Calls zs5 121 #[.string s,.string sep] w fun e w'=>e=.returned (.tuple #[.string ⟨(Lib.cut s.data.toList sep.data.toList).1.toArray⟩,.string ⟨(Lib.cut s.data.toList sep.data.toList).2.1.toArray⟩,.bool (Lib.cut s.data.toList sep.data.toList).2.2])/\∃ n,w'=w.drewN n:=Any.stringslite_Cut Tryz.lays220 s sep m w hs hm
def Tryz.lays145:Go.Proofs.Lays.n145 zs5 Tryz.ren:=by constructor<;>intros<;>kernel_rfl
open Go.RowKit Go.Lib in
def Tryz.strings_Cut(s sep:ByteArray)(m:Int)(w:World)(hs:s.size<4294967281)(hm:w.cell? ⟨0,0,none⟩=some (.int .i64 m)):
  Calls zs5 58 #[.string s,.string sep] w fun e w'=>e=.returned (.tuple #[.string ⟨(Lib.cut s.data.toList sep.data.toList).1.toArray⟩,.string ⟨(Lib.cut s.data.toList sep.data.toList).2.1.toArray⟩,.bool (Lib.cut s.data.toList sep.data.toList).2.2])/\∃ n,w'=w.drewN n:=Any.strings_Cut Tryz.lays145 s sep m w hs hm
def Tryz.lays138:Go.Proofs.Lays.n138 zs5 Tryz.ren:=by constructor<;>intros<;>kernel_rfl
open Go.RowKit Go.Lib in
def Tryz.strings_Count_one(s:ByteArray)(c:UInt8)(w:World):
  Calls zs5 187 #[.string s,.string ⟨#[c]⟩] w fun e w'=>e=.returned (.int .i64 (Lib.countByte s.data.toList c))/\w'=w:=Any.strings_Count_one Tryz.lays138 s c w
open Go.RowKit Go.Lib in
def Tryz.strings_Count(s sub:ByteArray)(m:Int)(w:World)(hs:s.size<4294967281)(hm:w.cell? ⟨0,0,none⟩=some (.int .i64 m))(h2:2<=sub.size):
  Calls zs5 187 #[.string s,.string sub] w fun e w'=>e=.returned (.int .i64 (Lib.countB s sub))/\w'=w:=Any.strings_Count Tryz.lays138 s sub m w hs hm h2
def Tryz.laysM219:Go.Proofs.LaysM.n219 zs5 Tryz.ren:=by constructor<;>first | exact Tryz.lays219 | exact Tryz.s1_3 | (intros;kernel_rfl)
open Go.RowKit Go.Lib in
def Tryz.stringslite_Index_shaped(s sub:ByteArray)(w:World)(h:w.ShapedOpen zs5)(hs:s.size<4294967281):
  Calls zs5 185 #[.string s,.string sub] w fun e w'=>e=.returned (.int .i64 (Lib.index s.data.toList sub.data.toList))/\w'=w:=Any.stringslite_Index_shaped Tryz.laysM219 s sub w h hs
def Tryz.laysM143:Go.Proofs.LaysM.n143 zs5 Tryz.ren:=by constructor<;>first | exact Tryz.lays143 | exact Tryz.s1_3 | (intros;kernel_rfl)
open Go.RowKit Go.Lib in
def Tryz.strings_Index_shaped(s sub:ByteArray)(w:World)(h:w.ShapedOpen zs5)(hs:s.size<4294967281):
  Calls zs5 122 #[.string s,.string sub] w fun e w'=>e=.returned (.int .i64 (Lib.index s.data.toList sub.data.toList))/\w'=w:=Any.strings_Index_shaped Tryz.laysM143 s sub w h hs
def Tryz.laysM144:Go.Proofs.LaysM.n144 zs5 Tryz.ren:=by constructor<;>first | exact Tryz.lays144 | exact Tryz.s1_3 | (intros;kernel_rfl)
open Go.RowKit Go.Lib in
def Tryz.strings_Contains_shaped(s sub:ByteArray)(w:World)(h:w.ShapedOpen zs5)(hs:s.size<4294967281):
  Calls zs5 59 #[.string s,.string sub] w fun e w'=>e=.returned (.bool (Lib.contains s.data.toList sub.data.toList))/\w'=w:=Any.strings_Contains_shaped Tryz.laysM144 s sub w h hs
def Tryz.laysM220:Go.Proofs.LaysM.n220 zs5 Tryz.ren:=by constructor<;>first | exact Tryz.lays220 | exact Tryz.s1_3 | (intros;kernel_rfl)
open Go.RowKit Go.Lib in
def Tryz.stringslite_Cut_shaped(s sep:ByteArray)(w:World)(h:w.ShapedOpen zs5)(hs:s.size<4294967281):
  Calls zs5 121 #[.string s,.string sep] w fun e w'=>e=.returned (.tuple #[.string ⟨(Lib.cut s.data.toList sep.data.toList).1.toArray⟩,.string ⟨(Lib.cut s.data.toList sep.data.toList).2.1.toArray⟩,.bool (Lib.cut s.data.toList sep.data.toList).2.2])/\∃ n,w'=w.drewN n:=Any.stringslite_Cut_shaped Tryz.laysM220 s sep w h hs
def Tryz.laysM145:Go.Proofs.LaysM.n145 zs5 Tryz.ren:=by constructor<;>first | exact Tryz.lays145 | exact Tryz.s1_3 | (intros;kernel_rfl)
open Go.RowKit Go.Lib in
def Tryz.strings_Cut_shaped(s sep:ByteArray)(w:World)(h:w.ShapedOpen zs5)(hs:s.size<4294967281):
  Calls zs5 58 #[.string s,.string sep] w fun e w'=>e=.returned (.tuple #[.string ⟨(Lib.cut s.data.toList sep.data.toList).1.toArray⟩,.string ⟨(Lib.cut s.data.toList sep.data.toList).2.1.toArray⟩,.bool (Lib.cut s.data.toList sep.data.toList).2.2])/\∃ n,w'=w.drewN n:=Any.strings_Cut_shaped Tryz.laysM145 s sep w h hs
def Tryz.laysM138:Go.Proofs.LaysM.n138 zs5 Tryz.ren:=by constructor<;>first | exact Tryz.lays138 | exact Tryz.s1_3 | (intros;kernel_rfl)
open Go.RowKit Go.Lib in
def Tryz.strings_Count_shaped(s sub:ByteArray)(w:World)(h:w.ShapedOpen zs5)(hs:s.size<4294967281)(h2:2<=sub.size):
  Calls zs5 187 #[.string s,.string sub] w fun e w'=>e=.returned (.int .i64 (Lib.countB s sub))/\w'=w:=Any.strings_Count_shaped Tryz.laysM138 s sub w h hs h2
def Tryz.lays207:Go.Proofs.Lays.n207 zs5 Tryz.ren:=by constructor<;>intros<;>kernel_rfl
open Go.RowKit Go.Lib in
def Tryz.stringslite_HasSuffix(s p:ByteArray)(w:World)(hs:s.size<=9223372036854775807):
  Calls zs5 243 #[.string s,.string p] w fun e w'=>e=.returned (.bool (Lib.hasSuffix s.data.toList p.data.toList))/\w'=w:=Any.stringslite_HasSuffix Tryz.lays207 s p w hs
open Go.RowKit Go.Lib in
def Tryz.strings_Count_any(s sep:ByteArray)(m:Int)(w:World)(hs:s.size<4294967281)(hm:w.cell? ⟨0,0,none⟩=some (.int .i64 m))(h1:1<=sep.size):
  Calls zs5 187 #[.string s,.string sep] w fun e w'=>e=.returned (.int .i64 (Lib.countB s sep))/\w'=w:=Any.strings_Count_any Tryz.lays138 s sep m w hs hm h1
open Go.RowKit Go.Lib in
def Tryz.utf8_RuneCountInString_ascii(s:ByteArray)(w:World)(hs:s.size<4294967281)(hascii:∀ (j:Nat) b,s.data.toList[j]?=some b->b.toNat<128):
  Calls zs5 238 #[.string s] w fun e w'=>e=.returned (.int .i64 s.size)/\w'=w.iter s s.size:=Any.utf8_RuneCountInString_ascii Tryz.lays195 s w hs hascii
end Go.Proofs
section
open Go.V
attribute [local irreducible] Has N Par Ret RetL Src StepOK V VO X
namespace Go.V
def _root_.Zcx(t:Wr Y->A:=by intro h;refine z7 (qe L Z Z Z Z) Z ?_;exact h.1)(h:Y):A:=t ⟨h⟩
def _root_.Zdt(t:Wr Y->A:=by intro h;refine z7 (zo L (qp Z) Z Z Z Z) Z ?_;exact h.1)(h:Y):A:=t ⟨h⟩
def _root_.Zdk(t:Wr Y->A:=by intro h;refine z7 (yq Z Z Z Z) Z ?_;exact h.1)(h:Y):A:=t ⟨h⟩
def _root_.ZbV(t:Wr Y->A:=by intro h;refine z7 (zz L (vs:=[_,_]) (qp Z) Z Z Z Z ⟨_,rfl⟩) Z ?_;exact h.1)(h:Y):A:=t ⟨h⟩
def _root_.ZdY(t:Wr Y->A:=by intro h;refine y9 ?_;exact h.1)(h:Y):A:=t ⟨h⟩
def _root_.ZaK(t:Wr Y->A:=by intro h;refine z8 (zi Z Z Z) Z ?_;exact h.1)(h:Y):A:=t ⟨h⟩
def _root_.ZaF(t:Wr Y->A:=by intro h;refine z7 (ym L Z Z Z Z Z Z) Z ?_;exact h.1)(h:Y):A:=t ⟨h⟩
def _root_.ZeM(t:Wr Y->A:=by intro h;refine z7 (zz L (vs:=[_,_,_]) (qp Z) Z Z Z Z ⟨_,rfl⟩) Z ?_;exact h.1)(h:Y):A:=t ⟨h⟩
def _root_.Zbt(t:Wr Y->A:=by intro h;refine z8 (qe L Z Z Z Z) Z ?_;exact h.1)(h:Y):A:=t ⟨h⟩
def _root_.ZdZ(t:Wr Y->A:=by intro h;refine z8 (zo L (qp Z) Z Z Z Z) Z ?_;exact h.1)(h:Y):A:=t ⟨h⟩
def _root_.Zdl(t:Wr Y->A:=by intro h;refine z8 (zz L (vs:=[_,_]) (qp Z) Z Z Z Z ⟨_,rfl⟩) Z ?_;exact h.1)(h:Y):A:=t ⟨h⟩
def _root_.ZcC(t:Wr Y->A:=by intro h;refine qn (id:=1) [] ko J ?_;exact h.1)(h:Y):A:=t ⟨h⟩
def _root_.ZcF(t:Wr Y->A:=by intro h;refine z8 (ym L Z Z Z Z Z Z) Z ?_;exact h.1)(h:Y):A:=t ⟨h⟩
def _root_.Zff(t:Wr Y->A:=by intro h;refine z7 (Vq Z Z Z Z (ng M)) Z ?_;exact h.1)(h:Y):A:=t ⟨h⟩
def _root_.Zfg(t:Wr Y->A:=by intro h;refine z7 (Vq Z Z Z Z (nf M)) Z ?_;exact h.1)(h:Y):A:=t ⟨h⟩
def _root_.Zb3(t:Wr Y->A:=by exact fun h=>(ZdY∘Zbr) h.1)(h:Y):A:=t ⟨h⟩
def _root_.Zo(t:Wr Y->A:=by exact fun h=>(Zcx∘Zdt) h.1)(h:Y):A:=t ⟨h⟩
def _root_.ZaW(t:Wr Y->A:=by exact fun h=>(Zd∘Zan) h.1)(h:Y):A:=t ⟨h⟩
def _root_.ZD(t:Wr Y->A:=by exact fun h=>(ZQ∘Zdk) h.1)(h:Y):A:=t ⟨h⟩
def _root_.ZK(t:Wr Y->A:=by exact fun h=>(ZQ∘ZaW) h.1)(h:Y):A:=t ⟨h⟩
def _root_.Zal(t:Wr Y->A:=by exact fun h=>(ZD∘Zdk) h.1)(h:Y):A:=t ⟨h⟩
def _root_.ZaI(t:Wr Y->A:=by exact fun h=>(Zu∘Za) h.1)(h:Y):A:=t ⟨h⟩
def _root_.Zdu(t:Wr Y->A:=by exact fun h=>(Ze∘Z6) h.1)(h:Y):A:=t ⟨h⟩
def _root_.ZaS(t:Wr Y->A:=by exact fun h=>(ZaK∘Zb3) h.1)(h:Y):A:=t ⟨h⟩
def _root_.Zba(t:Wr Y->A:=by exact fun h=>(Zcx∘ZbV) h.1)(h:Y):A:=t ⟨h⟩
def _root_.Zbu(t:Wr Y->A:=by exact fun h=>(Zbt∘ZdZ) h.1)(h:Y):A:=t ⟨h⟩
def _root_.ZbG(t:Wr Y->A:=by exact fun h=>(Z1∘Zb) h.1)(h:Y):A:=t ⟨h⟩
def _root_.Zcm(t:Wr Y->A:=by exact fun h=>(Zdu∘Zat) h.1)(h:Y):A:=t ⟨h⟩
def _root_.Zcy(t:Wr Y->A:=by exact fun h=>(ZD∘ZaW) h.1)(h:Y):A:=t ⟨h⟩
def zd9(ha:a.size<=9223372036854775807)(hb:b.size<=9223372036854775807)(hB:zs4 B w){t:Nat}{v:Value}(hv:SlB [.string a,.string b] t 2 v B):
  Ret zs5 188 [v] w B (fun v _=>v=.int .i64 (ff [a,b])):=by
 exact zak [a,b] (by intro s hs;simp at hs;rcases hs with rfl | rfl<;>assumption) (by simp) hB (hv.toV rfl)
def zd8(ha:a.size<=9223372036854775807)(hb:b.size<=9223372036854775807)(hc:c.size<=9223372036854775807)(hB:zs4 B w){t:Nat}{v:Value}(hv:SlB [.string a,.string b,.string c] t 3 v B):
  Ret zs5 188 [v] w B (fun v _=>v=.int .i64 (ff [a,b,c])):=by
 exact zak [a,b,c] (by intro s hs;simp at hs;rcases hs with rfl | rfl | rfl<;>assumption) (by simp) hB (hv.toV rfl)
def da(ha:a.size<=9223372036854775807)(hb:b.size<=9223372036854775807)(hB:zs4 B w):
  Ret zs5 125 [.agg #[.string a,.string b]] w B (fun v _=>v=.int .i64 (ff [a,b])):=by
 refine yr Tryz.func125 Z Tryz.ntmps125 (np Z) hB ((Zcy∘Zo∘Zo∘ZaF) ?_);refine z7 (qb L Z Z (zm Z) Z Z Z (fun u H hH _ _ v hv=>zd9 Q Q hH hv)) Z (Zc (h:=?_));exact yj2 L [.tmp 2]
def goal_ret(ha:a.size<=9223372036854775807)(hb:b.size<=9223372036854775807)(hc:c.size<=9223372036854775807)(hB:zs4 B w):
  Ret zs5 124 [.agg #[.string a,.string b,.string c]] w B (fun v _=>v=.int .i64 (ff [a,b,c])):=by
 refine yr Tryz.func124 Z Tryz.ntmps124 (np Z) hB ((Zcy∘Zcx∘Zo∘Zcx∘Zo∘Zo∘ZaF) ?_);refine z7 (qb L Z Z (zm Z) Z Z Z (fun u H hH _ _ v hv=>zd8 Q Q Q hH hv)) Z (Zc (h:=?_));exact yj2 L [.tmp 2]
def bu(a b c:ByteArray):Int:=if c=⟨#[]⟩ then ff [a,b] else ff [a,b,c]
def Cb(ha:a.size<=9223372036854775807)(hb:b.size<=9223372036854775807)(hc:c.size<=9223372036854775807)(hB:zs4 B w):
  Ret zs5 133 [.agg #[.string a,.string b,.string c]] w B (fun v _=>v=.int .i64 (bu a b c)):=by
 refine yr Tryz.func133 Z Tryz.ntmps133 (np Z) hB ?_;by_cases h:c=⟨#[]⟩
 ·refine(ZD∘ZH∘Zo∘Zfg∘Zn∘Zv∘Zba) ?_;refine z71 L Z (fun u H hH _=>da Q Q hH) ?_;refine Zc (h:=?_);refine yj1 L [.tmp 2] fun u H hH hle=>?_;exact nh (Value.int .i64) (show ff [a,b]=bu a b c from(na h).symm)
 ·refine(ZD∘ZH∘Zo∘Zff∘Zx∘Z6∘ZeM) ?_;refine z71 L Z (fun u H hH _=>goal_ret Q Q Q hH) ?_;refine Zc (h:=?_);refine yj1 L [.tmp 2] fun u H hH hle=>?_;exact nh (Value.int .i64) (show ff [a,b,c]=bu a b c from(nc h).symm)
def vm(a b:ByteArray):Int:=Lib.compareBytes a.data.toList b.data.toList
def F8(hB:zs4 B w):Ret zs5 102 [.string a,.string b] w B (fun v _=>v=.int .i64 (vm a b)):=Ret.of_same hB (Tryz.strings_Compare a b w)
def orL:List Int->Int
 | []=>0
 | x::l=>if x=0 then orL l else x
def Vm:∀ (l:List Int) (k:Nat) (s:Int),(∀ x∈l.take k,x=0)->l[k]?=some s->s≠0->orL l=s
 | [],k,s,_,h,_=>by simp at h
 | x::l,0,s,_,h,hc=>by simp at h;subst h;simp [orL,hc]
 | x::l,k+1,s,ha,h,hc=>by
  simp only[zqr] at ha;simp only[zqe] at h;have hx:=ha x (mc ..);simp only[orL,na hx];exact Vm l k s (fun y hy=>ha y (mh _ hy)) h hc
def P2:∀ (l:List Int),(∀ x∈l,x=0)->orL l=0
 | [],_=>rfl
 | x::l,h=>by simp only[orL,na (h x (mc ..))];exact P2 l fun y hy=>h y (mh _ hy)
def zj1(l:List Int)(hlen:l.length<=1000){v:Value}(hB:zs4 B w)(hv:SlV e 1 (l.map (Value.int .i64)) l.length fu v B):
  Ret zs5 100 [v] w B (fun v _=>v=.int .i64 (orL l)):=by
 refine yr Tryz.func100 Z Tryz.ntmps100 (np Z) hB (k7 0 (SlV e 1 (l.map (Value.int .i64)) l.length fu) Z ns hv ((ZK∘Zk∘Zv∘Zj∘ZaR) ?_))
 refine xp (fun k:Nat=>[(3,.is (.int .i64 0)),(6,.sat (SlV e 1 (l.map (Value.int .i64)) l.length fu)),(7,.is (.int .i64 l.length)),(8,.is (.int .i64 k))])
  (fun k=>k<=l.length/\∀ x∈l.take k,x=0) (fun k=>l.length-k) 0 ⟨mb _,by simp⟩ ⟨rfl,rfl,rfl,rfl,nm⟩ ?_
 rintro k ⟨hk,hall⟩;by_cases hlt:k<l.length
 ·have hs:l[k]?=some l[k]:=zpe hlt;generalize l[k]=s at hs;have hc:((l.map (Value.int .i64)).drop (k*1)).take 1=[.int .i64 s]:=zel (by simp [hs]);by_cases h0:s=0
  ·refine(Zcm∘Zt∘Zaz∘Zdf∘Zd∘ZbG∘Zbf∘Zbl∘Zy∘ZB) ?_;refine yo (k+1) ⟨hlt,?_⟩ T ⟨Z,Z,Z,Z,nm⟩;rw[zpa,hs];intro x hx;rcases mn.1 hx with hx | hx
   ·exact hall x hx
   ·simp at hx;rw[hx,h0]
  ·refine(Zcm∘Zt∘Zaz∘Zdf∘Zd∘ZbG∘Za0∘ZL∘Zc) ?_;refine yj1 L [.tmp 2] fun u H hH hle=>?_;exact nh _ (Vm l k s hall hs h0).symm
 ·refine(Zdu∘Zak∘ZaI∘Zc) ?_;refine yj1 L [.tmp 2] fun u H hH hle=>?_;have:l.take k=l:=zo6 T;exact nh _ (P2 l (this ▸ hall)).symm
def Gj{x y:Int}(hB:zs4 B w){t:Nat}{v:Value}(hv:SlB [.int .i64 x,.int .i64 y] t 2 v B):
  Ret zs5 100 [v] w B (fun v _=>v=.int .i64 (orL [x,y])):=by
 exact zj1 [x,y] (by simp) hB (hv.toV Z)
def zdk(a b c d:ByteArray):Int:=orL [vm a c,vm b d]
def zfd(a b r c d s:ByteArray):Int:=orL [zdk a b c d,vm r s]
def zdj{d:ByteArray}(hB:zs4 B w):
  Ret zs5 101 [.agg #[.string a,.string b],.agg #[.string c,.string d]] w B (fun v _=>v=.int .i64 (zdk a b c d)):=by
 refine yr Tryz.func101 Z Tryz.ntmps101 (np Z) hB ((Zal∘Zd∘ZcC∘Zbu∘Zbu) ?_);refine z81 L Z (fun u H hH _=>F8 hH) ?_;refine(Zbu∘Zbu) ?_;refine z81 L Z (fun u H hH _=>F8 hH) ?_;refine ZcF (h:=?_);refine z8 (qb L Z Z (zm Z) Z Z Z (fun u H hH _ _ v hv=>Gj hH hv)) Z (ZaS (h:=?_));exact yj2 L [.tmp 4]
def Hf{d s:ByteArray}(hB:zs4 B w):
  Ret zs5 38 [.agg #[.string a,.string b,.string r],.agg #[.string c,.string d,.string s]] w B (fun v _=>v=.int .i64 (zfd a b r c d s)):=by
 refine yr Tryz.func38 Z Tryz.ntmps38 (np Z) hB ((Zal∘Zd∘ZcC∘Zbt∘Zdl∘Zbt∘Zdl) ?_);refine z81 L Z (fun u H hH _=>zdj hH) ?_;refine(Zbu∘Zbu) ?_;refine z81 L Z (fun u H hH _=>F8 hH) ?_;refine ZcF (h:=?_);refine z8 (qb L Z Z (zm Z) Z Z Z (fun u H hH _ _ v hv=>Gj hH hv)) Z (ZaS (h:=?_));exact yj2 L [.tmp 4]
def cmpU_ret{d s:ByteArray}(hB:zs4 B w):
  Ret zs5 40 [.agg #[.string a,.string b,.string r],.agg #[.string c,.string d,.string s]] w B (fun v _=>v=.int .i64 (zfd a b r c d s)):=by
 refine yr Tryz.func40 Z Tryz.ntmps40 (np Z) hB ((Zal∘ZaW∘ZeM∘ZeM) ?_);refine z71 L Z (fun u H hH _=>Hf hH) ?_;refine Zc (h:=?_);exact yj2 L [.tmp 4]
def _root_.Zl(t:Wr Y->A:=by intro h;refine z8 (z9 Z Z Z) Z ?_;exact h.1)(h:Y):A:=t ⟨h⟩
def _root_.Z4(t:Wr Y->A:=by intro h;refine ze (id:=10) ?_;exact h.1)(h:Y):A:=t ⟨h⟩
def _root_.ZbH(t:Wr Y->A:=by intro h;refine z7 (Gk Z Z Z Z (nf M)) Z ?_;exact h.1)(h:Y):A:=t ⟨h⟩
def _root_.ZG(t:Wr Y->A:=by intro h;refine ze (id:=11) ?_;exact h.1)(h:Y):A:=t ⟨h⟩
def _root_.ZJ(t:Wr Y->A:=by intro h;refine ze (id:=12) ?_;exact h.1)(h:Y):A:=t ⟨h⟩
def _root_.ZcD(t:Wr Y->A:=by intro h;refine z8 (qz Z Z Z Z (nf T)) Z ?_;exact h.1)(h:Y):A:=t ⟨h⟩
def _root_.ZcZ(t:Wr Y->A:=by intro h;refine z7 (Gk Z Z Z Z (ng M)) Z ?_;exact h.1)(h:Y):A:=t ⟨h⟩
def _root_.Zdg(t:Wr Y->A:=by intro h;refine z8 (qz Z Z Z Z (ng T)) Z ?_;exact h.1)(h:Y):A:=t ⟨h⟩
def _root_.ZcG(t:Wr Y->A:=by intro h;refine qn (id:=6) [] ko J ?_;exact h.1)(h:Y):A:=t ⟨h⟩
def _root_.Zd4(t:Wr Y->A:=by intro h;refine z8 (yw Z Z Z Z (nf T)) Z ?_;exact h.1)(h:Y):A:=t ⟨h⟩
def _root_.Zda(t:Wr Y->A:=by intro h;refine qn (id:=4) [] ko J ?_;exact h.1)(h:Y):A:=t ⟨h⟩
def _root_.ZdJ(t:Wr Y->A:=by intro h;refine z8 (yw Z Z Z Z (ng T)) Z ?_;exact h.1)(h:Y):A:=t ⟨h⟩
def _root_.ZdQ(t:Wr Y->A:=by intro h;refine z8 (Lg L Z Z Z M) Z ?_;exact h.1)(h:Y):A:=t ⟨h⟩
def _root_.Zfh(t:Wr Y->A:=by intro h;refine z7 (C6 Z Z Z Z zos M Z) Z ?_;exact h.1)(h:Y):A:=t ⟨h⟩
def _root_.Zp(t:Wr Y->A:=by exact fun h=>(Zl∘Zl) h.1)(h:Y):A:=t ⟨h⟩
def _root_.Zf(t:Wr Y->A:=by exact fun h=>(Ze∘Ze) h.1)(h:Y):A:=t ⟨h⟩
def _root_.Zby(t:Wr Y->A:=by exact fun h=>(Zs∘Zab) h.1)(h:Y):A:=t ⟨h⟩
def _root_.ZaL(t:Wr Y->A:=by exact fun h=>(Zb3∘Zfc) h.1)(h:Y):A:=t ⟨h⟩
def _root_.ZbW(t:Wr Y->A:=by exact fun h=>(Zb3∘Zfd) h.1)(h:Y):A:=t ⟨h⟩
def _root_.Za5(t:Wr Y->A:=by exact fun h=>(ZaJ∘ZfD) h.1)(h:Y):A:=t ⟨h⟩
def _root_.Za9(t:Wr Y->A:=by exact fun h=>(Zv∘Zb) h.1)(h:Y):A:=t ⟨h⟩
def _root_.ZaT(t:Wr Y->A:=by exact fun h=>(Zay∘Zby) h.1)(h:Y):A:=t ⟨h⟩
def _root_.ZaX(t:Wr Y->A:=by exact fun h=>(Zc∘Zar) h.1)(h:Y):A:=t ⟨h⟩
def zdt:∀ (a b:List UInt8),Lib.compareBytes a b= -1\/Lib.compareBytes a b=0\/Lib.compareBytes a b=1
 | [],[]=>.inr (.inl rfl)
 | [],_::_=>.inl rfl
 | _::_,[]=>.inr (.inr rfl)
 | a::xs,b::bs=>by
  unfold Lib.compareBytes;split
  ·exact .inl Z
  ·split
   ·exact .inr (.inr Z)
   ·exact zdt xs bs
def Y9:∀ (a:List UInt8),Lib.compareBytes a a=0
 | []=>rfl
 | a::xs=>by
  unfold Lib.compareBytes;rw[nc (UInt8.lt_irrefl a),nc (UInt8.lt_irrefl a)];exact Y9 xs
def zk9:∀ (a b:List UInt8),Lib.compareBytes a b=0->a=b
 | [],[],_=>rfl
 | [],_::_,h=>by cases h
 | _::_,[],h=>by cases h
 | a::xs,b::bs,h=>by
  unfold Lib.compareBytes at h;split at h
  ·cases h
  ·split at h
   ·cases h
   ·rename_i h1 h2;have:a=b:=UInt8.le_antisymm (zrc.1 h2) (zrc.1 h1);rw[this,zk9 xs bs h]
def zaa:∀ (a b:List UInt8),Lib.compareBytes b a= -Lib.compareBytes a b
 | [],[]=>rfl
 | [],_::_=>rfl
 | _::_,[]=>rfl
 | a::xs,b::bs=>by
  unfold Lib.compareBytes;by_cases h1:a<b
  ·simp [h1,UInt8.lt_asymm h1]
  ·by_cases h2:b<a
   ·simp [h1,h2]
   ·simp [h1,h2];exact zaa xs bs
def Q8:∀ (a b c:List UInt8),Lib.compareBytes a b<=0->Lib.compareBytes b c<=0->Lib.compareBytes a c<=0
 | [],_,[],_,_=>zqq _
 | [],_,_::_,_,_=>by unfold Lib.compareBytes;decide
 | _::_,[],_,h,_=>by unfold Lib.compareBytes at h;exact absurd h E
 | _::_,_::_,[],_,h=>by unfold Lib.compareBytes at h;exact absurd h E
 | a::xs,b::bs,c::cs,h1,h2=>by
  unfold Lib.compareBytes at h1 h2 |-;by_cases ab:a<b
  ·by_cases bc:b<c
   ·rw[na (UInt8.lt_trans ab bc)];decide
   ·rw[nc bc] at h2;by_cases cb:c<b
    ·rw[na cb] at h2;exact ni h2 E
    ·have:b=c:=UInt8.le_antisymm (zrc.1 cb) (zrc.1 bc);subst this;rw[na ab];decide
  ·rw[nc ab] at h1;by_cases ba:b<a
   ·rw[na ba] at h1;exact ni h1 E
   ·have:a=b:=UInt8.le_antisymm (zrc.1 ba) (zrc.1 ab);subst this;rw[nc ab] at h1;by_cases ac:a<c
    ·rw[na ac];decide
    ·rw[nc ac] at h2 |-;by_cases ca:c<a
     ·rw[na ca] at h2;exact ni h2 E
     ·rw[nc ca] at h2 |-;exact Q8 xs bs cs h1 h2
structure Ord3{α:Type}(c:α->α->Int):Prop where
 refl:∀ a,c a a=0
 eq:∀ a b,c a b=0->a=b
 anti:∀ a b,c b a= -c a b
 trans:∀ a b d,c a b<=0->c b d<=0->c a d<=0
def zld(h:a.data.toList=b.data.toList):a=b:=by
 obtain⟨⟨x⟩⟩:=a;obtain⟨⟨y⟩⟩:=b;simp at h;subst h;rfl
def cmpB_ord:Ord3 vm:=⟨fun a=>Y9 _,fun a b h=>zld (zk9 _ _ h),fun a b=>zaa _ _,fun a b d h1 h2=>Q8 _ _ _ h1 h2⟩
def t7{α β:Type}(c:α->α->Int)(e:β->β->Int)(x y:α×β):Int:=orL [c x.1 y.1,e x.2 y.2]
def A0(x y:Int):orL [x,y]=if x=0 then y else x:=by
 simp only[orL];by_cases hx:x=0
 ·rw[na hx,na hx];split<;>simp_all
 ·rw[nc hx,nc hx]
def Ord3.lt_of{c:α->α->Int}(h:Ord3 c){a b d:α}(h1:c a b<=0)(h2:c b d<=0)(h3:c a d=0):c a b=0/\c b d=0:=by
 obtain rfl:=h.eq _ _ h3;have:=h.anti a b;constructor<;>omega
def Ord3.lex{β:Type}{c:α->α->Int}{e:β->β->Int}(hc:Ord3 c)(he:Ord3 e):Ord3 (t7 c e):=by
 refine⟨fun a=>?_,fun a b h=>?_,fun a b=>?_,fun a b d h1 h2=>?_⟩
 ·unfold t7;rw[A0,hc.refl,if_pos rfl,he.refl]
 ·unfold t7 at h;rw[A0] at h;by_cases h0:c a.1 b.1=0
  ·rw[na h0] at h;exact Prod.ext (hc.eq _ _ h0) (he.eq _ _ h)
  ·rw[nc h0] at h;exact ni h h0
 ·unfold t7;rw[A0,A0,hc.anti a.1 b.1,he.anti a.2 b.2];by_cases h0:c a.1 b.1=0
  ·rw[na h0,na T]
  ·rw[nc h0,nc T]
 ·unfold t7 at h1 h2 |-;rw[A0] at h1 h2 |-;have l1:c a.1 b.1<=0:=by split at h1<;>omega
  have l2:c b.1 d.1<=0:=by split at h2<;>omega
  have l3:=hc.trans _ _ _ l1 l2;by_cases h0:c a.1 d.1=0
  ·obtain⟨e1,e2⟩:=hc.lt_of l1 l2 h0;rw[na e1] at h1;rw[na e2] at h2;rw[na h0];exact he.trans _ _ _ h1 h2
  ·rw[nc h0];exact l3
abbrev Dx:=(ByteArray×ByteArray)×ByteArray
def Mv:Dx->Dx->Int:=t7 (t7 vm vm) vm
def cmp3_ord:Ord3 Mv:=(cmpB_ord.lex cmpB_ord).lex cmpB_ord
def Mh{a b c d:ByteArray}:zdk a b c d=0↔a=c/\b=d:=by
 have h:=cmpB_ord.lex cmpB_ord;constructor
 ·intro e;have:=h.eq (a,b) (c,d) e;cases this;exact⟨rfl,rfl⟩
 ·rintro⟨rfl,rfl⟩;exact h.refl (a,b)
def zk7{d:ByteArray}(h:a≠c):zdk a b c d=vm a c:=by
 unfold zdk;rw[A0,if_neg fun e=>h (cmpB_ord.eq _ _ e)]
def zk6{d:ByteArray}(h:a=c):zdk a b c d=vm b d:=by
 unfold zdk;rw[A0,if_pos (by rw[h];exact cmpB_ord.refl _)]
def zfc{d s:ByteArray}(h:¬ (a=c/\b=d)):zfd a b r c d s=zdk a b c d:=by
 unfold zfd;rw[A0,if_neg fun e=>h (Mh.1 e)]
def zfb{d s:ByteArray}(h:a=c/\b=d):zfd a b r c d s=vm r s:=by
 unfold zfd;rw[A0,if_pos (Mh.2 h)]
def ic{s:ByteArray}{c:UInt8}(h:s[k]?=some c):s.data.toList.drop k=c::s.data.toList.drop (k+1):=by
 have h':s.data.toList[k]?=some c:=by
  have:s.data[k]?=some c:=h;simpa using this
 obtain⟨hl,he⟩:=zp0.1 h';rw[zpu hl,he]
def Bm{s:ByteArray}(h:s.size<=k):s.data.toList.drop k=[]:=zo4 (by rw[ud];exact h)
def Ph(a b:ByteArray)(k:Nat):Prop:=vm a b=Lib.compareBytes (a.data.toList.drop k) (b.data.toList.drop k)
def zfp{x y:UInt8}(h:Ph a b k)(hx:a[k]?=some x)(hy:b[k]?=some y)(hl:(x.toNat:Int)<y.toNat):vm a b= -1:=by
 unfold Ph at h;rw[h,ic hx,ic hy,Lib.compareBytes,na (zrd.2 T)]
def zfq{x y:UInt8}(h:Ph a b k)(hx:a[k]?=some x)(hy:b[k]?=some y)(hl:(y.toNat:Int)<x.toNat):vm a b=1:=by
 unfold Ph at h;have hl':y<x:=zrd.2 T;rw[h,ic hx,ic hy,Lib.compareBytes,nc (UInt8.lt_asymm hl'),na hl']
def Ud{x y:UInt8}(h:Ph a b k)(hx:a[k]?=some x)(hy:b[k]?=some y)(h1:¬ (x.toNat:Int)<y.toNat)(h2:¬ (y.toNat:Int)<x.toNat):Ph a b (k+1):=by
 unfold Ph at h |-;rw[h,ic hx,ic hy,Lib.compareBytes,nc (fun e=>h1 (by have:=zrd.1 e;omega)),nc (fun e=>h2 (by have:=zrd.1 e;omega))]
def Rv(h:Ph a b k)(h1:a.size<=k)(h2:k<b.size):vm a b= -1:=by
 unfold Ph at h;obtain⟨y,hy⟩:=getElem?_lt h2;rw[h,Bm h1,ic hy,Lib.compareBytes]
def Ue(h:Ph a b k)(h1:b.size<=k)(h2:k<a.size):vm a b=1:=by
 unfold Ph at h;obtain⟨y,hy⟩:=getElem?_lt h2;rw[h,Bm h1,ic hy,Lib.compareBytes]
def Uf(h:Ph a b k)(h1:a.size<=k)(h2:b.size<=k):vm a b=0:=by
 unfold Ph at h;rw[h,Bm h1,Bm h2,Lib.compareBytes]
def iw(ha:a.size<=9223372036854775807)(hb:b.size<=9223372036854775807)(hB:zs4 B w):
  Ret zs5 230 [.string a,.string b] w B (fun v _=>v=.int .i64 (vm a b)):=by
 refine yr Tryz.func230 Z Tryz.ntmps230 (np Z) hB ((ZQ∘ZH∘ZaX) ?_)
 refine xp (fun k:Nat=>[(0,.is (.string a)),(1,.is (.string b)),(5,.is (.int .i64 k))])
  (fun k=>k<=a.size/\k<=b.size/\Ph a b k) (fun k=>a.size-k) 0 ⟨mb _,mb _,rfl⟩ ⟨rfl,rfl,rfl,nm⟩ ?_
 rintro k ⟨hk1,hk2,hall⟩;by_cases h1:k<a.size
 ·by_cases h2:k<b.size
  ·obtain⟨x,hx⟩:=getElem?_lt h1;obtain⟨y,hy⟩:=getElem?_lt h2;by_cases hxy:(x.toNat:Int)<y.toNat
   ·refine(Zf∘Za9∘Zaf∘ZU∘Z8∘Zaf∘ZU∘Zi∘Z3∘ZdP∘Ze∘Zda∘Zp∘ZdQ∘Zp∘ZdQ∘ZcD∘ZbW∘Ze∘Z1∘Zc) ?_;refine yj1 L [.tmp 4] fun u H hH hle=>?_;exact nh _ (zfp hall hx hy hxy).symm
   ·by_cases hyx:(y.toNat:Int)<x.toNat
    ·refine(Zf∘Za9∘Zaf∘ZU∘Z8∘Zaf∘ZU∘Zi∘Z3∘ZdP∘Ze∘Zda∘Zp∘ZdQ∘Zp∘ZdQ∘Zdg∘ZaL∘Zao∘ZcG∘Zp∘ZdQ∘Zp∘ZdQ∘Zd4∘ZbW∘Ze∘Zy∘Zc) ?_;refine yj1 L [.tmp 4] fun u H hH hle=>?_;exact nh _ (zfq hall hx hy hyx).symm
    ·refine(Zf∘Za9∘Zaf∘ZU∘Z8∘Zaf∘ZU∘Zi∘Z3∘ZdP∘Ze∘Zda∘Zp∘ZdQ∘Zp∘ZdQ∘Zdg∘ZaL∘Zao∘ZcG∘Zp∘ZdQ∘Zp∘ZdQ∘ZdJ∘ZaL∘Zds∘Zb8∘Zr∘ZaT) ?_;exact yo (k+1) ⟨h1,h2,Ud hall hx hy hxy hyx⟩ T ⟨Z,Z,Z,nm⟩
  ·refine(Zf∘Za9∘Zaf∘ZU∘Z8∘Zaf∘Z0∘Zi∘Za5∘Ze∘ZaI∘Zaf∘Za∘Zaf∘Z0∘ZV∘Z4∘Za∘Zaf∘Za∘Zaf∘ZP∘Zn∘ZG∘Zc) ?_;refine yj1 L [.tmp 4] fun u H hH hle=>?_;exact nh _ (Ue hall T h1).symm
 ·by_cases h2:k<b.size
  ·refine(Zf∘Za9∘Zaf∘Z0∘Zau∘Zi∘Za5∘Ze∘ZaI∘Zaf∘Za∘Zaf∘ZU∘Zn∘Z2∘Zc) ?_;refine yj1 L [.tmp 4] fun u H hH hle=>?_;exact nh _ (Rv hall T h2).symm
  ·refine(Zf∘Za9∘Zaf∘Z0∘Zau∘Zi∘Za5∘Ze∘ZaI∘Zaf∘Za∘Zaf∘Z0∘ZV∘Z4∘Za∘Zaf∘Za∘Zaf∘ZM∘Zx∘ZJ∘Zc) ?_;refine yj1 L [.tmp 4] fun u H hH hle=>?_;exact nh _ (Uf hall T T).symm
def K8{d:ByteArray}(ha:a.size<=9223372036854775807)(hb:b.size<=9223372036854775807)(hc:c.size<=9223372036854775807)(hd:d.size<=9223372036854775807)(hB:zs4 B w):
  Ret zs5 229 [.agg #[.string a,.string b],.agg #[.string c,.string d]] w B (fun v _=>v=.int .i64 (zdk a b c d)):=by
 refine yr Tryz.func229 Z Tryz.ntmps229 (np Z) hB ?_;by_cases h:a=c
 ·have h':¬ a≠c:=fun e=>e h;refine(Zal∘ZH∘Zo∘Zo∘ZcZ∘Zx∘Z6∘Zo∘Zo) ?_;refine z71 L Z (fun u H hH _=>iw Q Q hH) ?_;refine Zc (h:=?_);refine yj1 L [.tmp 4] fun u H hH hle=>?_;exact nh _ (zk6 h).symm
 ·have h':a≠c:=h;refine(Zal∘ZH∘Zo∘Zo∘ZbH∘Zn∘Zv∘Zo∘Zo) ?_;refine z71 L Z (fun u H hH _=>iw Q Q hH) ?_;refine Zc (h:=?_);refine yj1 L [.tmp 4] fun u H hH hle=>?_;exact nh _ (zk7 h).symm
def Vb{d s:ByteArray}(ha:a.size<=9223372036854775807)(hb:b.size<=9223372036854775807)(hr:r.size<=9223372036854775807)(hc:c.size<=9223372036854775807)(hd:d.size<=9223372036854775807)(hs:s.size<=9223372036854775807)(hB:zs4 B w):
  Ret zs5 174 [.agg #[.string a,.string b,.string r],.agg #[.string c,.string d,.string s]] w B (fun v _=>v=.int .i64 (zfd a b r c d s)):=by
 refine yr Tryz.func174 Z Tryz.ntmps174 (np Z) hB ?_;by_cases h:a=c/\b=d
 ·have h':=zda (nf h);refine(Zal∘ZH∘Zba∘Zba∘Zfh∘Zx∘Z6∘Zo∘Zo) ?_;refine z71 L Z (fun u H hH _=>iw Q Q hH) ?_;refine Zc (h:=?_);refine yj1 L [.tmp 4] fun u H hH hle=>?_;exact nh _ (zfb h).symm
 ·have h':=zda (ng h);refine(Zal∘ZH∘Zba∘Zba∘Zfh∘Zn∘Zv∘Zba∘Zba) ?_;refine z71 L Z (fun u H hH _=>K8 Q Q Q Q hH) ?_;refine Zc (h:=?_);refine yj1 L [.tmp 4] fun u H hH hle=>?_;exact nh _ (zfc h).symm
def Va{d s:ByteArray}(ha:a.size<=9223372036854775807)(hb:b.size<=9223372036854775807)(hr:r.size<=9223372036854775807)(hc:c.size<=9223372036854775807)(hd:d.size<=9223372036854775807)(hs:s.size<=9223372036854775807)(hB:zs4 B w):
  Ret zs5 175 [.agg #[.string a,.string b,.string r],.agg #[.string c,.string d,.string s]] w B (fun v _=>v=.int .i64 (zfd a b r c d s)):=by
 refine yr Tryz.func175 Z Tryz.ntmps175 (np Z) hB ?_;by_cases h:a=c/\b=d
 ·have h':=zda (nf h);refine(Zal∘ZH∘Zba∘Zba∘Zfh∘Zx∘Z6∘Zo∘Zo) ?_;refine z71 L Z (fun u H hH _=>iw Q Q hH) ?_;refine Zc (h:=?_);refine yj1 L [.tmp 4] fun u H hH hle=>?_;exact nh _ (zfb h).symm
 ·have h':=zda (ng h);refine(Zal∘ZH∘Zba∘Zba∘Zfh∘Zn∘Zv∘Zba∘Zba) ?_;refine z71 L Z (fun u H hH _=>K8 Q Q Q Q hH) ?_;refine Zc (h:=?_);refine yj1 L [.tmp 4] fun u H hH hle=>?_;exact nh _ (zfc h).symm
end Go.V
end
namespace Go.V
section
variable  {c:α->α->Int}
def Ord3.irr(h:Ord3 c)(a:α):¬ c a a<0:=by rw[h.refl];decide
def Ord3.asym(h:Ord3 c){a b:α}(h1:c a b<0):¬ c b a<0:=by have:=h.anti a b;omega
def Ord3.tr(h:Ord3 c){a b d:α}(h1:c a b<0)(h2:c b d<0):c a d<0:=by
 have h3:=h.trans a b d T T;by_cases h4:c a d=0
 ·have:=h.lt_of (a:=a) (b:=b) (d:=d) T T h4;omega
 ·omega
def Ord3.ne(h:Ord3 c){a b:α}(h1:c a b<0):a≠b:=fun e=>by subst e;exact h.irr a h1
def Ord3.tri(h:Ord3 c){a b:α}(h1:¬ c a b<0)(h2:a≠b):c b a<0:=by
 have:=h.anti a b;have h3:c a b≠0:=fun e=>h2 (h.eq _ _ e);omega
def Sst(c:α->α->Int)(l:List α):Prop:=l.Pairwise fun x y=>c x y<0
def Sst.nil:Sst c []:=List.Pairwise.nil
def Sst.nodup(h:Ord3 c){l:List α}(hs:Sst c l):l.Nodup:=hs.imp fun h1=>h.ne h1
def fm(h:Ord3 c):∀ {l m:List α},Sst c l->Sst c m->(∀ z,z∈l↔z∈m)->l=m
 | [],[],_,_,_=>rfl
 | [],y::m,_,_,e=>by have:=(e y).2 (mc ..);cases this
 | y::l,[],_,_,e=>by have:=(e y).1 (mc ..);cases this
 | y::l,x::m,hl,hm,e=>by
  have h1:=mo.1 hl;have h2:=mo.1 hm
  have exy:y=x:=by
   rcases ma.1 ((e y).1 (mc ..)) with e1 | e1
   ·exact e1
   ·rcases ma.1 ((e x).2 (mc ..)) with e2 | e2
    ·exact e2.symm
    ·exact ni (h1.1 x e2) (h.asym (h2.1 y e1))
  subst exy;congr 1;refine fm h h1.2 h2.2 fun z=>?_;constructor
  ·intro hz;rcases ma.1 ((e z).1 (mh _ hz)) with e1 | e1
   ·subst e1;exact ni (h1.1 _ hz) (h.irr _)
   ·exact e1
  ·intro hz;rcases ma.1 ((e z).2 (mh _ hz)) with e1 | e1
   ·subst e1;exact ni (h2.1 _ hz) (h.irr _)
   ·exact e1
def oe(c:α->α->Int)(t:α):List α->List α
 | []=>[t]
 | y::l=>if c t y<0 then t::y::l else y::oe c t l
def ub{t z:α}:∀ {l:List α},z∈oe c t l↔z=t\/z∈l
 | []=>by simp [oe]
 | y::l=>by
  simp only[oe];split
  ·simp
  ·rw[ma,ub,ma];constructor
   ·rintro(e | e | e)
    ·exact .inr (.inl e)
    ·exact .inl e
    ·exact .inr (.inr e)
   ·rintro(e | e | e)
    ·exact .inr (.inl e)
    ·exact .inl e
    ·exact .inr (.inr e)
def ww(t:α):∀ (l:List α),(oe c t l).length=l.length+1
 | []=>rfl
 | y::l=>by
  simp only[oe];split
  ·rfl
  ·simp only[nz,ww t l]
def d7(h:Ord3 c){t:α}:∀ {l:List α},Sst c l->t∉l->Sst c (oe c t l)
 | [],_,_=>zqk ..
 | y::l,hs,ht=>by
  have h1:=mo.1 hs;simp only[oe];split
  ·rename_i hlt;refine mo.2 ⟨fun z hz=>?_,hs⟩;rcases ma.1 hz with rfl | hz
   ·exact hlt
   ·exact h.tr hlt (h1.1 z hz)
  ·rename_i hlt;refine mo.2 ⟨fun z hz=>?_,d7 h h1.2 fun e=>ht (mh _ e)⟩;rcases ub.1 hz with rfl | hz
   ·exact h.tri hlt fun e=>ht (by rw[e];exact mc ..)
   ·exact h1.1 z hz
def fh(c:α->α->Int)(f:Bool->Bool->Bool):Nat->List α->List α->List α
 | 0,_,_=>[]
 | n+1,[],[]=>[]
 | n+1,a::l,[]=>(if f true false=true then [a] else [])++fh c f n l []
 | n+1,[],b::m=>(if f false true=true then [b] else [])++fh c f n [] m
 | n+1,a::l,b::m=>
  if c a b<0 then (if f true false=true then [a] else [])++fh c f n l (b::m)
  else if c a b>0 then (if f false true=true then [b] else [])++fh c f n (a::l) m
  else (if f true true=true then [a] else [])++fh c f n l m
def Tk(f:Bool->Bool->Bool)(l m:List α)(z:α):Prop:=(z∈l/\z∉m/\f true false=true)\/(z∉l/\z∈m/\f false true=true)\/(z∈l/\z∈m/\f true true=true)
def uz(h:Ord3 c)(f:Bool->Bool->Bool){z:α}:∀ {n:Nat} {l m:List α},l.length+m.length<=n->Sst c l->Sst c m->(z∈fh c f n l m↔Tk f l m z)
 | 0,l,m,hn,_,_=>by
  have h1:l=[]:=zow T;have h2:m=[]:=zow T;subst h1 h2;simp [fh,Tk]
 | n+1,[],[],_,_,_=>by simp [fh,Tk]
 | n+1,a::l,[],hn,hl,hm=>by
  have h1:=mo.1 hl;have ih:=uz h f (z:=z) (n:=n) (l:=l) (m:=[]) (by simp only[nz,m6] at hn |-;omega) h1.2 hm;simp only[fh,mn,ih,Tk,ma,zp8,not_false_eq_true,true_and,false_and,and_false,or_false];by_cases hf:f true false=true
  ·simp [hf]
  ·simp [hf]
 | n+1,[],b::m,hn,hl,hm=>by
  have h1:=mo.1 hm;have ih:=uz h f (z:=z) (n:=n) (l:=[]) (m:=m) (by simp only[nz,m6] at hn |-;omega) hl h1.2;simp only[fh,mn,ih,Tk,ma,zp8,not_false_eq_true,true_and,false_and,and_false,or_false,false_or];by_cases hf:f false true=true
  ·simp [hf]
  ·simp [hf]
 | n+1,a::l,b::m,hn,hl,hm=>by
  have h1:=mo.1 hl;have h2:=mo.1 hm;have ha:a∉l:=fun e=>h.irr a (h1.1 a e);have hb:b∉m:=fun e=>h.irr b (h2.1 b e);simp only[nz] at hn;simp only[fh];by_cases h3:c a b<0
  ·have ih:=uz h f (z:=z) (n:=n) (l:=l) (m:=b::m) (by simp only[nz];omega) h1.2 hm
   have hab:a∉b::m:=fun e=>by
    rcases ma.1 e with e | e
    ·exact h.ne h3 e
    ·exact h.irr a (h.tr h3 (h2.1 a e))
   rw[na h3,mn,ih];unfold Tk;by_cases hz:z=a
   ·subst hz;by_cases hf:f true false=true<;>simp [hf,ha,hab]
   ·have e1:z∈a::l↔z∈l:=by rw[ma];exact or_iff_right hz
    rw[e1];by_cases hf:f true false=true<;>simp [hf,hz]
  ·rw[nc h3];by_cases h4:c a b>0
   ·have h5:c b a<0:=by have:=h.anti a b;omega
    have ih:=uz h f (z:=z) (n:=n) (l:=a::l) (m:=m) (by simp only[nz];omega) hl h2.2
    have hba:b∉a::l:=fun e=>by
     rcases ma.1 e with e | e
     ·exact h.ne h5 e
     ·exact h.irr b (h.tr h5 (h1.1 b e))
    rw[na h4,mn,ih];unfold Tk;by_cases hz:z=b
    ·subst hz;by_cases hf:f false true=true<;>simp [hf,hb,hba]
    ·have e1:z∈b::m↔z∈m:=by rw[ma];exact or_iff_right hz
     rw[e1];by_cases hf:f false true=true<;>simp [hf,hz]
   ·have e:a=b:=h.eq _ _ T;subst e;have ih:=uz h f (z:=z) (n:=n) (l:=l) (m:=m) T h1.2 h2.2;rw[nc h4,mn,ih];unfold Tk;by_cases hz:z=a
    ·subst hz;by_cases hf:f true true=true<;>simp [hf,ha,hb]
    ·have e1:z∈a::l↔z∈l:=by rw[ma];exact or_iff_right hz
     have e2:z∈a::m↔z∈m:=by rw[ma];exact or_iff_right hz
     rw[e1,e2];by_cases hf:f true true=true<;>simp [hf,hz]
def Tk.or{f:Bool->Bool->Bool}{l m:List α}{z:α}(h:Tk f l m z):z∈l\/z∈m:=by
 rcases h with ⟨h,_⟩ | ⟨_,h,_⟩ | ⟨h,_⟩
 ·exact .inl h
 ·exact .inr h
 ·exact .inl h
def zf8(p:Bool)(a:α):Sst c (if p=true then [a] else []):=by
 split
 ·exact zqk ..
 ·exact Sst.nil
def ra{p:Bool}{a:α}{r:List α}(hr:Sst c r)(hlt:∀ z∈r,c a z<0):Sst c ((if p=true then [a] else [])++r):=by
 refine zpq.2 ⟨zf8 p a,hr,fun x hx z hz=>?_⟩;split at hx
 ·rw[m7] at hx;subst hx;exact hlt z hz
 ·cases hx
def d6(h:Ord3 c)(f:Bool->Bool->Bool):∀ {n:Nat} {l m:List α},l.length+m.length<=n->Sst c l->Sst c m->Sst c (fh c f n l m)
 | 0,_,_,_,_,_=>Sst.nil
 | n+1,[],[],_,_,_=>Sst.nil
 | n+1,a::l,[],hn,hl,hm=>by
  have h1:=mo.1 hl;have hn':l.length+([]:List α).length<=n:=by simp only[nz,m6] at hn |-;omega
  refine ra (d6 h f hn' h1.2 hm) fun z hz=>?_;rcases((uz h f hn' h1.2 hm).1 hz).or with e | e
  ·exact h1.1 z e
  ·cases e
 | n+1,[],b::m,hn,hl,hm=>by
  have h1:=mo.1 hm;have hn':([]:List α).length+m.length<=n:=by simp only[nz,m6] at hn |-;omega
  refine ra (d6 h f hn' hl h1.2) fun z hz=>?_;rcases((uz h f hn' hl h1.2).1 hz).or with e | e
  ·cases e
  ·exact h1.1 z e
 | n+1,a::l,b::m,hn,hl,hm=>by
  have h1:=mo.1 hl;have h2:=mo.1 hm;simp only[nz] at hn;simp only[fh];split
  ·rename_i h3;have hn':l.length+(b::m).length<=n:=by simp only[nz];omega
   refine ra (d6 h f hn' h1.2 hm) fun z hz=>?_;rcases((uz h f hn' h1.2 hm).1 hz).or with e | e
   ·exact h1.1 z e
   ·rcases ma.1 e with e | e
    ·rw[e];exact h3
    ·exact h.tr h3 (h2.1 z e)
  ·split
   ·rename_i h4;have h5:c b a<0:=by have:=h.anti a b;omega
    have hn':(a::l).length+m.length<=n:=by simp only[nz];omega
    refine ra (d6 h f hn' hl h2.2) fun z hz=>?_;rcases((uz h f hn' hl h2.2).1 hz).or with e | e
    ·rcases ma.1 e with e | e
     ·rw[e];exact h5
     ·exact h.tr h5 (h1.1 z e)
    ·exact h2.1 z e
   ·have e0:a=b:=h.eq _ _ T;have hn':l.length+m.length<=n:=T;refine ra (d6 h f hn' h1.2 h2.2) fun z hz=>?_;rcases((uz h f hn' h1.2 h2.2).1 hz).or with e | e
    ·exact h1.1 z e
    ·rw[e0];exact h2.1 z e
variable [DecidableEq α]
def fg(c:α->α->Int):List α->List α->List α
 | out,[]=>out
 | out,t::r=>fg c (if t∈out then out else oe c t out) r
def gz(h:Ord3 c):∀ {l out:List α},Sst c out->Sst c (fg c out l)
 | [],_,hs=>hs
 | t::r,out,hs=>by
  simp only[fg];refine gz h ?_;split
  ·exact hs
  ·rename_i ht;exact d7 h hs ht
def fe{z:α}:∀ {l out:List α},z∈fg c out l↔z∈out\/z∈l
 | [],_=>by simp [fg]
 | t::r,out=>by
  simp only[fg];rw[fe];split
  ·rename_i ht;constructor
   ·rintro(e | e)
    ·exact .inl e
    ·exact .inr (mh _ e)
   ·rintro(e | e)
    ·exact .inl e
    ·rcases ma.1 e with rfl | e
     ·exact .inl ht
     ·exact .inr e
  ·rw[ub,ma];constructor
   ·rintro((e | e) | e)
    ·exact .inr (.inl e)
    ·exact .inl e
    ·exact .inr (.inr e)
   ·rintro(e | e | e)
    ·exact .inl (.inr e)
    ·exact .inl (.inl e)
    ·exact .inr e
def eo:∀ (l out:List α),(fg c out l).length<=out.length+l.length
 | [],_=>nu _
 | t::r,out=>by
  have:=eo r (if t∈out then out else oe c t out);simp only[fg];refine mp this ?_;split
  ·simp only[nz];omega
  ·rw[ww];simp only[nz];omega
def Sa(h:Ord3 c){l:List α}(hs:Sst c l):fg c [] l=l:=fm h (gz h Sst.nil) hs fun z=>by rw[fe];simp
end
end Go.V
section
open Go.V
attribute [local irreducible] Has N Par Ret RetL Src StepOK V VO X
namespace Go.V
def _root_.ZE(t:Wr Y->A:=by intro h;refine z7 (qu L Z Z Z Z) Z ?_;exact h.1)(h:Y):A:=t ⟨h⟩
def _root_.ZaU(t:Wr Y->A:=by intro h;refine z7 (qq L Z Z Z Z) Z ?_;exact h.1)(h:Y):A:=t ⟨h⟩
def _root_.Zb9(t:Wr Y->A:=by intro h;refine z7 (qm Z Z Z Z) Z ?_;exact h.1)(h:Y):A:=t ⟨h⟩
def _root_.Zm(t:Wr Y->A:=by intro h;refine z7 (yy Z Z Z Z) Z ?_;exact h.1)(h:Y):A:=t ⟨h⟩
def _root_.ZeN(t:Wr Y->A:=by intro h;refine z7 (yv (cs:=[_,_]) Z Z zno Z Z) Z ?_;exact h.1)(h:Y):A:=t ⟨h⟩
def _root_.Zdb(t:Wr Y->A:=by exact fun h=>(Zb9∘Zb9) h.1)(h:Y):A:=t ⟨h⟩
def _root_.ZA(t:Wr Y->A:=by exact fun h=>(Za∘Zdb) h.1)(h:Y):A:=t ⟨h⟩
def _root_.ZI(t:Wr Y->A:=by exact fun h=>(Zs∘Zc) h.1)(h:Y):A:=t ⟨h⟩
def _root_.ZaY(t:Wr Y->A:=by exact fun h=>(Zs∘Zd) h.1)(h:Y):A:=t ⟨h⟩
def _root_.Zah(t:Wr Y->A:=by exact fun h=>(ZQ∘ZE) h.1)(h:Y):A:=t ⟨h⟩
def _root_.ZcM(t:Wr Y->A:=by exact fun h=>(Zs∘Zk) h.1)(h:Y):A:=t ⟨h⟩
def _root_.ZbI(t:Wr Y->A:=by exact fun h=>(Zi∘Zb) h.1)(h:Y):A:=t ⟨h⟩
def _root_.ZbX(t:Wr Y->A:=by exact fun h=>(ZQ∘Zs) h.1)(h:Y):A:=t ⟨h⟩
def _root_.Zcn(t:Wr Y->A:=by exact fun h=>(Zs∘ZcM) h.1)(h:Y):A:=t ⟨h⟩
def _root_.Zcz(t:Wr Y->A:=by exact fun h=>(Zi∘Zx) h.1)(h:Y):A:=t ⟨h⟩
def GlobM(B:Heap):Prop:=∃ m cs t fr,B 0=some (.cells cs t fr)/\cs[0]?=some (.int .i64 m)
def GlobM.of_cell{m:Int}(h:w.cell? ⟨0,0,none⟩=some (.int .i64 m)):GlobM (hp w):=by
 unfold World.cell? at h;split at h
 ·rename_i cs t fr hb;exact⟨m,cs,t,fr,hb,by simpa using h⟩
 ·cases h
def GlobM.mono(h:GlobM B)(hl:B.Le H):GlobM H:=let ⟨m,cs,t,fr,hb,hc⟩:=h;⟨m,cs,t,fr,hl _ _ hb,hc⟩
def l8(s:ByteArray)(c:UInt8):ByteArray×ByteArray×Bool:=
 (⟨(Lib.cut s.data.toList [c]).1.toArray⟩,⟨(Lib.cut s.data.toList [c]).2.1.toArray⟩,(Lib.cut s.data.toList [c]).2.2)
def Yc(s:ByteArray)(c:UInt8):Bool:=decide (0<=Lib.indexByte s.data.toList c)
def zm4(s:ByteArray)(c:UInt8):Nat:=Lib.countByte s.data.toList c
def cw{s:ByteArray}{c:UInt8}{f:Bool}(hs:s.size<=1000000)(hB:zs4 B w)(hM:GlobM B)(hf:(l8 s c).2.2=f):
  Ret zs5 58 [.string s,.string ⟨#[c]⟩] w B (fun v _=>v=.tuple #[.string (l8 s c).1,.string (l8 s c).2.1,.bool f]):=by
 obtain⟨m,cs,t,fr,hb,hc⟩:=hM;subst hf;refine Ret.of_drawn hB (Tryz.strings_Cut s ⟨#[c]⟩ m w T ?_);rw[kx (hB _ _ hb)];exact hc
def wt{s:ByteArray}{c:UInt8}{f:Bool}(hB:zs4 B w)(hf:Yc s c=f):
  Ret zs5 59 [.string s,.string ⟨#[c]⟩] w B (fun v _=>v=.bool f):=by
 subst hf;exact Ret.of_same hB (Tryz.strings_Contains_one s c w)
def count_ret{s:ByteArray}{c:UInt8}(hB:zs4 B w):
  Ret zs5 187 [.string s,.string ⟨#[c]⟩] w B (fun v _=>v=.int .i64 (zm4 s c)):=Ret.of_same hB (Tryz.strings_Count_one s c w)
def sq(s:ByteArray)(c:UInt8):(l8 s c).1.size<=s.size/\(l8 s c).2.1.size<=s.size:=by
 unfold l8 Lib.cut;have hl:=ud s;have e:∀ l:List UInt8,(ByteArray.mk l.toArray).size=l.length:=fun l=>by show l.toArray.size=_;simp
 generalize s.data.toList=l at hl |-;rw[<-hl];split
 ·simp only[e,mi,m8];omega
 ·simp only[e,m6];omega
def ev(s:ByteArray):Option (ByteArray×ByteArray×ByteArray×Bool):=
 if ((l8 s 58).2.2 && !Yc (l8 s 58).1 35 && !Yc (l8 s 58).2.1 58)=true/\zm4 (l8 s 58).2.1 35<=1 then
  some ((l8 s 58).1,(l8 (l8 s 58).2.1 35).1,(l8 (l8 s 58).2.1 35).2.1,(l8 (l8 s 58).2.1 35).2.2)
 else none
def Ct{s a b c:ByteArray}{d:Bool}(h:ev s=some (a,b,c,d)):a.size<=s.size/\b.size<=s.size/\c.size<=s.size:=by
 unfold ev at h;split at h
 ·cases h;have h1:=sq s 58;have h2:=sq (l8 s 58).2.1 35;omega
 ·cases h
def He{s:ByteArray}{f:Bool}(hs:s.size<=1000000)(hB:zs4 B w)(hM:GlobM B)(hf:((l8 s 58).2.2 && !Yc (l8 s 58).1 35 && !Yc (l8 s 58).2.1 58)=f):
  Ret zs5 186 [.string s,.string ⟨#[58]⟩] w B (fun v _=>v=.tuple #[.string (l8 s 58).1,.string (l8 s 58).2.1,.bool f]):=by
 subst hf;refine yr Tryz.func186 Z Tryz.ntmps186 (np Z) hB ?_;cases h1:(l8 s 58).2.2
 ·refine(ZbX∘Zs∘ZaW∘Zb) ?_;refine z71 L Z (fun u H hH hle=>cw M hH (GlobM.mono M hle) M) ?_;refine(ZA∘Zb9∘Zs∘ZaY∘Za9∘Zb∘Zb2∘Za4∘Zcl∘Zs∘ZI) ?_;exact yj2 L [.tmp 4,.tmp 5,.tmp 6]
 ·cases h2:Yc (l8 s 58).1 35
  ·cases h3:Yc (l8 s 58).2.1 58
   ·refine(ZbX∘Zs∘ZaW∘Zb) ?_;refine z71 L Z (fun u H hH hle=>cw M hH (GlobM.mono M hle) M) ?_;refine(ZA∘Zb9∘Zs∘ZaY∘Za9∘Z8) ?_;refine z71 L Z (fun u H hH _=>wt hH M) ?_;refine(Zm∘ZbI) ?_;refine z71 L Z (fun u H hH _=>wt hH M) ?_;refine(Zm∘Zi∘Zs∘ZI) ?_;exact yj2 L [.tmp 4,.tmp 5,.tmp 6]
   ·refine(ZbX∘Zs∘ZaW∘Zb) ?_;refine z71 L Z (fun u H hH hle=>cw M hH (GlobM.mono M hle) M) ?_;refine(ZA∘Zb9∘Zs∘ZaY∘Za9∘Z8) ?_;refine z71 L Z (fun u H hH _=>wt hH M) ?_;refine(Zm∘ZbI) ?_;refine z71 L Z (fun u H hH _=>wt hH M) ?_;refine(Zm∘Zi∘Zs∘ZI) ?_;exact yj2 L [.tmp 4,.tmp 5,.tmp 6]
  ·refine(ZbX∘Zs∘ZaW∘Zb) ?_;refine z71 L Z (fun u H hH hle=>cw M hH (GlobM.mono M hle) M) ?_;refine(ZA∘Zb9∘Zs∘ZaY∘Za9∘Z8) ?_;refine z71 L Z (fun u H hH _=>wt hH M) ?_;refine(Zm∘Zi∘Zcl∘Zs∘ZI) ?_;exact yj2 L [.tmp 4,.tmp 5,.tmp 6]
def Si{s:ByteArray}(hs:s.size<=1000000)(hB:zs4 B w)(hM:GlobM B)(h:ev s=none):
  Ret zs5 123 [.string s] w B (fun v _=>v=.tuple #[.agg #[.string ⟨#[]⟩,.string ⟨#[]⟩],.string ⟨#[]⟩,.bool false,.bool false]):=by
 refine yr Tryz.func123 Z Tryz.ntmps123 (np Z) hB ?_;unfold ev at h;cases h1:((l8 s 58).2.2 && !Yc (l8 s 58).1 35 && !Yc (l8 s 58).2.1 58)
 ·refine(Zah∘Zs∘Zs∘ZaW∘Zd∘Za9) ?_;refine z71 L Z (fun u H hH hle=>He M hH (GlobM.mono M hle) M) ?_;refine(ZA∘Zb9∘Zcn∘Zr∘Zm∘Zcl∘Zn∘Zt∘ZeN∘ZaU∘Zs∘ZI) ?_;refine yj1 L [.cell 2 52,.tmp 3,.tmp 4,.tmp 5] fun u H hH hle=>?_;exact⟨_,y7 Z,rfl,rfl⟩
 ·have h2:¬ zm4 (l8 s 58).2.1 35<=1:=fun h2=>by rw[na ⟨h1,h2⟩] at h;cases h
  clear h;refine(Zah∘Zs∘Zs∘ZaW∘Zd∘Za9) ?_;refine z71 L Z (fun u H hH hle=>He M hH (GlobM.mono M hle) M) ?_;refine(ZA∘Zb9∘Zcn∘Zr∘Zm∘Zb) ?_;refine z71 L Z (fun u H hH _=>count_ret hH) ?_;refine(ZP∘Zbe∘Zt∘ZeN∘ZaU∘Zs∘ZI) ?_;refine yj1 L [.cell 2 52,.tmp 3,.tmp 4,.tmp 5] fun u H hH hle=>?_;exact⟨_,y7 Z,rfl,rfl⟩
def Sg{s a b c:ByteArray}{d:Bool}(hs:s.size<=1000000)(hB:zs4 B w)(hM:GlobM B)(h:ev s=some (a,b,c,d)):
  Ret zs5 123 [.string s] w B (fun v _=>v=.tuple #[.agg #[.string a,.string b],.string c,.bool d,.bool true]):=by
 refine yr Tryz.func123 Z Tryz.ntmps123 (np Z) hB ?_;unfold ev at h;split at h
 ·rename_i hc;obtain⟨h1,h2⟩:=hc;cases h;have hz:=sq s 58;have hz2:(l8 s 58).2.1.size<=1000000:=T;refine(Zah∘Zs∘Zs∘ZaW∘Zd∘Za9) ?_;refine z71 L Z (fun u H hH hle=>He M hH (GlobM.mono M hle) M) ?_;refine(ZA∘Zb9∘Zcn∘Zr∘Zm∘Zb) ?_;refine z71 L Z (fun u H hH _=>count_ret hH) ?_;refine(ZM∘Zcz∘ZS) ?_;refine z71 L Z (fun u H hH hle=>cw M hH (GlobM.mono M hle) Z) ?_;refine(ZA∘Zb9∘Zs∘ZaY∘ZbF∘ZeN∘Zb∘ZaU∘Zs∘ZI) ?_;refine yj1 L [.cell 2 52,.tmp 3,.tmp 4,.tmp 5] fun u H hH hle=>?_;exact⟨_,y7 Z,rfl,rfl⟩
 ·cases h
def _root_.ZT(t:Wr Y->A:=by intro h;refine z7 (yi Z Z Z Z (ng T)) Z ?_;exact h.1)(h:Y):A:=t ⟨h⟩
def _root_.ZN(t:Wr Y->A:=by intro h;refine z7 (yi Z Z Z Z (nf T)) Z ?_;exact h.1)(h:Y):A:=t ⟨h⟩
def _root_.ZcN(t:Wr Y->A:=by intro h;refine z7 (zz L (vs:=[_,_]) (y7 Z) Z Z Z Z ⟨_,rfl⟩) Z ?_;exact h.1)(h:Y):A:=t ⟨h⟩
def _root_.Zen(t:Wr Y->A:=by intro h;refine z71 L Z (fun u H hH hle=>Sg M hH (GlobM.mono M hle) M) ?_;exact h.1)(h:Y):A:=t ⟨h⟩
def _root_.Zeo(t:Wr Y->A:=by intro h;refine z7 (zz L (vs:=[_,_,_]) (y7 Z) Z Z Z Z ⟨_,rfl⟩) Z ?_;exact h.1)(h:Y):A:=t ⟨h⟩
def _root_.Zea(t:Wr Y->A:=by intro h;refine z7 (yv (cs:=[_,_,_]) Z Z zog Z Z) Z ?_;exact h.1)(h:Y):A:=t ⟨h⟩
def _root_.ZeA(t:Wr Y->A:=by intro h;refine z7 (yv (cs:=[_,_,_]) Z Z znn Z Z) Z ?_;exact h.1)(h:Y):A:=t ⟨h⟩
def _root_.Za1(t:Wr Y->A:=by exact fun h=>(ZE∘ZaU) h.1)(h:Y):A:=t ⟨h⟩
def _root_.Zz(t:Wr Y->A:=by exact fun h=>(Zv∘Za) h.1)(h:Y):A:=t ⟨h⟩
def _root_.ZaC(t:Wr Y->A:=by exact fun h=>(Zg∘Ze) h.1)(h:Y):A:=t ⟨h⟩
def _root_.Z7(t:Wr Y->A:=by exact fun h=>(Zy∘Za) h.1)(h:Y):A:=t ⟨h⟩
def _root_.Zbi(t:Wr Y->A:=by exact fun h=>(ZaU∘Zc) h.1)(h:Y):A:=t ⟨h⟩
def _root_.Zbj(t:Wr Y->A:=by exact fun h=>(Za1∘ZaC) h.1)(h:Y):A:=t ⟨h⟩
def _root_.ZbA(t:Wr Y->A:=by exact fun h=>(ZaW∘Za) h.1)(h:Y):A:=t ⟨h⟩
def _root_.Zb4(t:Wr Y->A:=by exact fun h=>(Zbf∘Zx) h.1)(h:Y):A:=t ⟨h⟩
def _root_.ZfY(t:Wr Y->A:=by intro h;refine ZbA (h:=?_);refine z71 L Z (fun u H hH hle=>Si M hH (GlobM.mono M hle) M) ?_;exact h.1)(h:Y):A:=t ⟨h⟩
abbrev Bb:ByteArray:=⟨#[]⟩
def poA(s:ByteArray):ByteArray×ByteArray×Int:=
 match ev s with
 | none=>(Bb,Bb,5)
 | some (a,b,_,d)=>if d=true then (Bb,Bb,5) else if ff [a,b]=0 then (a,b,0) else (Bb,Bb,ff [a,b])
def pgA(s:ByteArray):ByteArray×ByteArray×ByteArray×Int:=
 match ev s with
 | none=>(Bb,Bb,Bb,5)
 | some (a,b,c,d)=>if d=false then (Bb,Bb,Bb,5) else if ff [a,b,c]=0 then (a,b,c,0) else (Bb,Bb,Bb,ff [a,b,c])
def psA(s:ByteArray):ByteArray×ByteArray×ByteArray×Int:=
 match ev s with
 | none=>(Bb,Bb,Bb,5)
 | some (a,b,c,d)=>if ff [a,b]=0 then (if d=true then (if chk c=0 then (a,b,c,0) else (Bb,Bb,Bb,chk c)) else (a,b,c,0)) else (Bb,Bb,Bb,ff [a,b])
def zj0{s:ByteArray}{r:ByteArray×ByteArray×ByteArray×Int}(hr:pgA s=r)(hs:s.size<=1000000)(hB:zs4 B w)(hM:GlobM B):
  Ret zs5 60 [.string s] w B (fun v _=>v=.tuple #[.agg #[.string r.1,.string r.2.1,.string r.2.2.1],.int .i64 r.2.2.2]):=by
 refine yr Tryz.func60 Z Tryz.ntmps60 (np Z) hB ?_;unfold pgA at hr
 cases hp:ev s with
 | none=>
  rw[hp] at hr;simp only at hr;subst hr;refine(Zah∘ZfY∘ZA∘Zdb∘Za1∘Zcn∘Zz∘Zm∘ZcL∘Zbe∘Z6∘ZeA∘Zbi) ?_;refine yj1 L [.cell 2 54,.tmp 3] fun u H hH hle=>?_;exact⟨_,y7 Z,rfl,rfl⟩
 | some p=>
  obtain⟨a,b,c,d⟩:=p;rw[hp] at hr;simp only at hr;have hz:=Ct hp;have ha:a.size<=1099511627776:=T;have hb:b.size<=1099511627776:=T;have hc:c.size<=1099511627776:=T
  cases d with
  | false=>
   rw[na rfl] at hr;subst hr;refine(Zah∘ZbA∘Zen∘ZA∘Zdb∘Za1∘Zcn∘Zz∘Zm∘Zb∘Zm∘Zbe∘Z6∘ZeA∘Zbi) ?_;refine yj1 L [.cell 2 54,.tmp 3] fun u H hH hle=>?_;exact⟨_,y7 Z,rfl,rfl⟩
  | true=>
   rw[nc E] at hr;by_cases h0:ff [a,b,c]=0
   ·rw[na h0] at hr;subst hr;refine(Zah∘ZbA∘Zen∘ZA∘Zdb∘Za1∘Zcn∘Zz∘Zm∘Zb∘Zm∘Zcz∘Zt∘ZcN∘Za∘ZeA∘Zbj∘Z1∘Zeo) ?_;refine z71 L Z (fun u H hH _=>goal_ret Q Q Q hH) ?_;refine(Zd∘ZL∘Zb4∘Zu∘Zeo∘Zbi) ?_;refine yj1 L [.cell 2 54,.tmp 3] fun u H hH hle=>?_;exact⟨_,y7 Z,rfl,rfl⟩
   ·rw[nc h0] at hr;subst hr;refine(Zah∘ZbA∘Zen∘ZA∘Zdb∘Za1∘Zcn∘Zz∘Zm∘Zb∘Zm∘Zcz∘Zt∘ZcN∘Za∘ZeA∘Zbj∘Z1∘Zeo) ?_;refine z71 L Z (fun u H hH _=>goal_ret Q Q Q hH) ?_;refine(Zd∘ZL∘Za0∘Zy∘ZeA∘Za∘Zbi) ?_;refine yj1 L [.cell 2 54,.tmp 3] fun u H hH hle=>?_;exact⟨_,y7 Z,rfl,rfl⟩
def zjt{s:ByteArray}{r:ByteArray×ByteArray×ByteArray×Int}(hr:psA s=r)(hs:s.size<=1000000)(hB:zs4 B w)(hM:GlobM B):
  Ret zs5 61 [.string s] w B (fun v _=>v=.tuple #[.agg #[.string r.1,.string r.2.1,.string r.2.2.1],.int .i64 r.2.2.2]):=by
 refine yr Tryz.func61 Z Tryz.ntmps61 (np Z) hB ?_;unfold psA at hr
 cases hp:ev s with
 | none=>
  rw[hp] at hr;simp only at hr;subst hr;refine(Zah∘ZfY∘ZA∘Zdb∘Za1∘Zcn∘Zz∘Zm∘Zn∘Z6∘Zea∘Zbi) ?_;refine yj1 L [.cell 2 55,.tmp 3] fun u H hH hle=>?_;exact⟨_,y7 Z,rfl,rfl⟩
 | some p=>
  obtain⟨a,b,c,d⟩:=p;rw[hp] at hr;simp only at hr;have hz:=Ct hp;have ha:a.size<=1099511627776:=T;have hb:b.size<=1099511627776:=T;have hc:c.size<=1099511627776:=T;by_cases h0:ff [a,b]=0
  ·rw[na h0] at hr
   cases d with
   | false=>
    rw[nc E] at hr;subst hr;refine(Zah∘ZbA∘Zen∘ZA∘Zdb∘Za1∘Zcn∘Zz∘Zm∘Zx∘Zt∘ZcN) ?_;refine z71 L Z (fun u H hH _=>da Q Q hH) ?_;refine(Zk∘ZbG∘Zb2∘Zi∘ZV∘Z7∘Zb4∘Z2∘ZcN∘Za∘Zea∘Zbi) ?_;refine yj1 L [.cell 2 55,.tmp 3] fun u H hH hle=>?_;exact⟨_,y7 Z,rfl,rfl⟩
   | true=>
    rw[na rfl] at hr;by_cases h1:chk c=0
    ·rw[na h1] at hr;subst hr;refine(Zah∘ZbA∘Zen∘ZA∘Zdb∘Za1∘Zcn∘Zz∘Zm∘Zx∘Zt∘ZcN) ?_;refine z71 L Z (fun u H hH _=>da Q Q hH) ?_;refine(Zk∘Z1∘Z8∘ZN∘Zi∘Z3∘ZL∘Zfe∘Zk∘Z7∘Zb4∘Z2∘ZcN∘Za∘Zea∘Zbi) ?_;refine yj1 L [.cell 2 55,.tmp 3] fun u H hH hle=>?_;exact⟨_,y7 Z,rfl,rfl⟩
    ·rw[nc h1] at hr;subst hr;refine(Zah∘ZbA∘Zen∘ZA∘Zdb∘Za1∘Zcn∘Zz∘Zm∘Zx∘Zt∘ZcN) ?_;refine z71 L Z (fun u H hH _=>da Q Q hH) ?_;refine(Zk∘Z1∘Z8∘ZN∘Zi∘Z3∘ZL∘Zfe∘Zk∘Z7∘Za0∘Zu∘Zea∘Za∘Zbi) ?_;refine yj1 L [.cell 2 55,.tmp 3] fun u H hH hle=>?_;exact⟨_,y7 Z,rfl,rfl⟩
  ·rw[nc h0] at hr;subst hr;cases d
   ·refine(Zah∘ZbA∘Zen∘ZA∘Zdb∘Za1∘Zcn∘Zz∘Zm∘Zx∘Zt∘ZcN) ?_;refine z71 L Z (fun u H hH _=>da Q Q hH) ?_;refine(Zk∘ZbG∘Zb2∘Zi∘ZV∘Z7∘Za0∘Zu∘Zea∘Za∘Zbi) ?_;refine yj1 L [.cell 2 55,.tmp 3] fun u H hH hle=>?_;exact⟨_,y7 Z,rfl,rfl⟩
   ·refine(Zah∘ZbA∘Zen∘ZA∘Zdb∘Za1∘Zcn∘Zz∘Zm∘Zx∘Zt∘ZcN) ?_;refine z71 L Z (fun u H hH _=>da Q Q hH) ?_;refine(Zk∘Z1∘Z8∘ZT∘Zi∘ZV∘Z7∘Za0∘Zu∘Zea∘Za∘Zbi) ?_;refine yj1 L [.cell 2 55,.tmp 3] fun u H hH hle=>?_;exact⟨_,y7 Z,rfl,rfl⟩
def zgt{s:ByteArray}{e:Int}(hr:pgA s=(a,b,c,e))(hs:s.size<=1000000)(hB:zs4 B w)(hM:GlobM B):
  Ret zs5 60 [.string s] w B (fun v _=>v=.tuple #[.agg #[.string a,.string b,.string c],.int .i64 e]):=zj0 hr hs hB hM
def Ve{s:ByteArray}{e:Int}(hr:psA s=(a,b,c,e))(hs:s.size<=1000000)(hB:zs4 B w)(hM:GlobM B):
  Ret zs5 61 [.string s] w B (fun v _=>v=.tuple #[.agg #[.string a,.string b,.string c],.int .i64 e]):=zjt hr hs hB hM
end Go.V
end
namespace Go.V.L2
open Go.V
abbrev U:=Dx×Dx
def ucs(t:U):List Value:=[.string t.1.1.1,.string t.1.1.2,.string t.1.2,.string t.2.1.1,.string t.2.1.2,.string t.2.2]
def Ft(t:U):(ucs t).length=6:=rfl
def kw:U->U->Int:=t7 Mv Mv
def cmpT_ord:Ord3 kw:=cmp3_ord.lex cmp3_ord
def zn4{t v:U}:(t.1.1.1=v.1.1.1/\t.1.1.2=v.1.1.2/\t.1.2=v.1.2/\t.2.1.1=v.2.1.1/\t.2.1.2=v.2.1.2/\t.2.2=v.2.2)↔t=v:=
 ⟨fun⟨a,b,c,d,e,f⟩=>Prod.ext (Prod.ext (Prod.ext a b) c) (Prod.ext (Prod.ext d e) f),fun e=>by subst e;exact⟨rfl,rfl,rfl,rfl,rfl,rfl⟩⟩
instance memU(t:U)(l:List U):Decidable (t∈l):=decidable_of_iff (l.any (fun x=>decide (x=t))=true) (by simp)
def tE(t:U):Int:=if ff [t.1.1.1,t.1.1.2,t.1.2]=0 then bu t.2.1.1 t.2.1.2 t.2.2 else ff [t.1.1.1,t.1.1.2,t.1.2]
def TZ(t:U):Prop:=(t.1.1.1.size<=1099511627776/\t.1.1.2.size<=1099511627776/\t.1.2.size<=1099511627776)/\t.2.1.1.size<=1099511627776/\t.2.1.2.size<=1099511627776/\t.2.2.size<=1099511627776
instance (t:U):Decidable (TZ t):=inferInstanceAs (Decidable (_/\_))
def F2{α:Type}{c:α->α->Int}(h:Ord3 c):∀ {l:List α},Sst c l↔∀ (j:Nat) (a b:α),l[j]?=some a->l[j+1]?=some b->c a b<0
 | []=>⟨fun _ j a b h1 _=>by simp at h1,fun _=>Sst.nil⟩
 | [x]=>⟨fun _ j a b _ h2=>by simp at h2,fun _=>zqk ..⟩
 | x::y::l=>by
  constructor
  ·intro hs j a b h1 h2;have hp:=mo.1 hs
   cases j with
   | zero=>simp at h1 h2;subst h1 h2;exact hp.1 _ (mc ..)
   | succ j=>exact(F2 h).1 hp.2 j a b (by simpa using h1) (by simpa using h2)
  ·intro hj;have hl:Sst c (y::l):=(F2 h).2 fun j a b h1 h2=>hj (j+1) a b (by simpa using h1) (by simpa using h2);have hxy:c x y<0:=hj 0 x y rfl rfl;refine mo.2 ⟨fun z hz=>?_,hl⟩;rcases ma.1 hz with rfl | hz
   ·exact hxy
   ·exact h.tr hxy ((mo.1 hl).1 z hz)
instance {α:Type}(c:α->α->Int)(l:List α):Decidable (Sst c l):=inferInstanceAs (Decidable (l.Pairwise _))
def isB(l:List U):Bool:=decide (Sst kw l)
def zkv{l:List U}{a b:U}(h1:l[j]?=some a)(h2:l[j+1]?=some b)(h:¬ kw a b<0):isB l=false:=ng fun hs=>h ((F2 cmpT_ord).1 hs j a b h1 h2)
def zhn{l:List U}(h:∀ j a b,l[j]?=some a->l[j+1]?=some b->kw a b<0):isB l=true:=nf ((F2 cmpT_ord).2 h)
def ptA(s:ByteArray):U×Int:=
 if (l8 s 64).2.2=true/\Yc (l8 s 64).2.1 64=false then
  (if (pgA (l8 s 64).1).2.2.2=0 then
   (if (psA (l8 s 64).2.1).2.2.2=0 then
    (((((pgA (l8 s 64).1).1,(pgA (l8 s 64).1).2.1),(pgA (l8 s 64).1).2.2.1),(((psA (l8 s 64).2.1).1,(psA (l8 s 64).2.1).2.1),(psA (l8 s 64).2.1).2.2.1)),0)
   else ((((⟨#[]⟩,⟨#[]⟩),⟨#[]⟩),((⟨#[]⟩,⟨#[]⟩),⟨#[]⟩)),(psA (l8 s 64).2.1).2.2.2))
  else ((((⟨#[]⟩,⟨#[]⟩),⟨#[]⟩),((⟨#[]⟩,⟨#[]⟩),⟨#[]⟩)),(pgA (l8 s 64).1).2.2.2))
 else ((((⟨#[]⟩,⟨#[]⟩),⟨#[]⟩),((⟨#[]⟩,⟨#[]⟩),⟨#[]⟩)),5)
end Go.V.L2
namespace Go.V
def zsL(P:Program)(e:TypeId)(k:Nat):List Value:=match P.info? e with
 | some i=>match i.zero with
  | some z=>(madeCells z.cells k).toList
  | none=>[]
 | none=>[]
def D9(h:elI P e=some (s,by_)):(zsL P e k).length=k:=by
 obtain⟨i,z,hi,hz,_,_,_,_⟩:=uf h;unfold zsL;rw[hi];dsimp only;rw[hz];simp [size_madeCells]
def SlE(e:TypeId)(s n:Nat)(xs:List Value):Res where
 P x _ u C:=xs.length=n*s/\((n=0/\x=.slice none 0 0/\∀ k,¬ C k)\/∃ b,x=.slice (some ⟨b,0,none⟩) n n/\u.heap[b]?=some (.cells xs.toArray e)/\n<=maxLen/\∀ k,C k↔k=b)
 st:=fun⟨hl,h⟩ _ _ _ hk=>⟨hl,by
  rcases h with h | ⟨b,h1,h2,h3,h4⟩
  ·exact .inl h
  ·exact .inr ⟨b,h1,(hk b ((h4 b).2 rfl)).trans h2,h3,h4⟩⟩
section
variable             {a:Act}      
def Gl(L:Tabs P){kc:IntKind}(c:Nat){q:Int}(hn:Nat.blt d n=true)(hg:gK ops κ ⟨some d,.makeSlice t x y,ty,pos,aft,g⟩=some true)(ht:L.sl t=some e)(he:elI P e=some (s,by_))
  (hx:evK κ x=some (.int kl q)) (hy:evK κ y=some (.int kc p)) (hq:q=c) (hp:p=c) (hb:by_*c<=281474976710656) (hc:c<=maxLen):StepOK P F B n ops O κ ⟨some d,.makeSlice t x y,ty,pos,aft,g⟩ d (.own (SlE e s c (zsL P e (c*s)))):=by
 rintro κ' a u hl ⟨H,fp,hh⟩;unfold After;rw[na (xl hh hl hg)];have en:=hh.env hl;have hzl:=D9 (k:=c*s) he;obtain⟨i,z,hi,hz,hs1,hs2,hs3,hs4⟩:=uf he;have h1:=en.is_ x _ (by simp [Op.operands]) hx;have h2:=en.is_ y _ (by simp [Op.operands]) hy;subst hp;subst hq
 have hb':(i.bytes:Int)*(c:Int)<=281474976710656:=by
  have h:((by_*c:Nat):Int)<=281474976710656:=T;rw[hs2];rwa [Int.natCast_mul] at h
 have h63:(c:Int)<=9223372036854775807:=by simp [maxLen] at hc;omega
 have hr:=run_make (P:=P) u t e i z (Tabs.sl_spec ht) hi hz kl kc c c T T hb' h63;simp only[zpf] at hr
 have hrun:(execOp a.eval ⟨some d,.makeSlice t x y,ty,pos,aft,g⟩).run P u=.ok (.value (.slice (some ⟨u.heap.size,0,none⟩) c c)) (u.alloc (.cells (madeCells z.cells (c*i.size)) e)):=by
  simp only[execOp,h1,h2,nw,hr,ny];rfl
 rw[hrun];simp only[Upon]
 have hzs:zsL P e (c*s)=(madeCells z.cells (c*i.size)).toList:=by
  unfold zsL;rw[hi];dsimp only;rw[hz,hs1]
 have hg2:=hh.grow (Grow.hid hh.sub (.cells (madeCells z.cells (c*i.size)) e));refine⟨H,_,hg2.putR (C:=fun k=>k=u.heap.size) (by simp [Act.put]) Z (fun t ht=>xv ht) ⟨hzl,.inr ⟨u.heap.size,kg (by rw[hh.size];exact zm hn),by rw[xz,hzs],hc,fun _=>Iff.rfl⟩⟩ (fun k hk=>?_) fun t r' _ ht k hf hk=>?_⟩
 ·subst hk;exact⟨xj (xz u _),jj hh.sub (nu _),.inl hh.keep.size,fun y hy e=>by have:=xj (hh.boxes y hy).1;omega⟩
 ·have:=((hh.slot t _ ht).2 k hf).1;omega
def Has.boxE{t:Nat}(hm:0<m)(hk:κ t=some (.own (SlE e s m xs)))(h:Has F B O n κ a u):
  ∃ b,(xs.length=m*s/\m<=maxLen)/\Has F B (bx b xs e::O) n (upd κ t (.is (.slice (some ⟨b,0,none⟩) m m))) a u:=by
 obtain⟨H,fp,h⟩:=h;obtain⟨⟨hl,hv⟩,hM⟩:=h.slot t _ hk;rcases hv with ⟨h0,_,_⟩ | ⟨b,hv,hb,h4,hC⟩
 ·omega
 ·have:=h.toBox hk hb ((hC b).2 rfl);rw[hv] at this;exact⟨b,⟨hl,h4⟩,H,fp,this⟩
def Has.unboxE{t b:Nat}{O1 O2:Boxes}(hO:O=O1++bx b xs e::O2)(hd:F.ds=[])(hk:κ t=some (.is (.slice (some ⟨b,0,none⟩) m m)))(hl:xs.length=m*s)(h4:m<=maxLen)
  (h:Has F B O n κ a u):Has F B (O1++O2) n (upd κ t (.own (SlE e s m xs))) a u:=by
 obtain⟨H,fp,h⟩:=h;subst hO;have hb:=(h.boxes (bx b xs e) (by simp)).1;exact⟨H,_,h.ofBox (by rw[hd];simp) ⟨hl,.inr ⟨b,h.slot t _ hk,hb,h4,fun _=>Iff.rfl⟩⟩⟩
def zll(t:Nat){c:Code}(hm:0<m)(hk:κ t=some (.own (SlE e s m xs)))
  (h:∀ b,(xs.length=m*s/\m<=maxLen)->V P F B n (bx b xs e::O) (upd κ t (.is (.slice (some ⟨b,0,none⟩) m m))) c zs3):V P F B n O κ c zs3:=fun a u hh=>
 let ⟨b,h1,h'⟩:=hh.boxE hm hk;h b h1 a u h'
def zea(t:Nat){b:Nat}(O1:Boxes){O2:Boxes}{c:Code}(hO:O=O1++bx b xs e::O2)(hk:κ t=some (.is (.slice (some ⟨b,0,none⟩) m m)))(hl:xs.length=m*s)(h4:m<=maxLen)
  (h:V P F B n (O1++O2) (upd κ t (.own (SlE e s m xs))) c zs3) (hd:F.ds=[]:=by rfl):V P F B n O κ c zs3:=fun a u hh=>h a u (hh.unboxE hO hd hk hl h4)
def zg8(L:Tabs P){e':TypeId}(hn:Nat.blt d n=true)(hg:gK ops κ ⟨some d,.call ⟨.builtin .len,#[.tmp q],#[tt]⟩,ty,pos,aft,g⟩=some true)(hx:κ q=some (.own (SlE e' s m xs)))(ht:L.sl tt=some e):
  StepOK P F B n ops O κ ⟨some d,.call ⟨.builtin .len,#[.tmp q],#[tt]⟩,ty,pos,aft,g⟩ d (.is (.int .i64 m)):=
 kj rfl (zm hn) hg trivial fun a u H fp en=>⟨_,by
  obtain⟨⟨_,⟨rfl,h1,_⟩ | ⟨b,h1,_⟩⟩,_⟩:=en.own_ q _ (by simp [Op.operands,Call.operands]) hx
  ·simp [execOp,resolve,h1,invoke,builtin,Builtin.len_,run_underlying (Tabs.sl_spec ht),goInt]
  ·simp [execOp,resolve,h1,invoke,builtin,Builtin.len_,run_underlying (Tabs.sl_spec ht),goInt],rfl⟩
def Has.pubE{t:Nat}(hk:κ t=some (.own (SlE e s m xs)))(h:Has F B O n κ a u):Has F B O n (upd κ t (.sat (SlV e s xs m true))) a u:=by
 obtain⟨H,fp,h⟩:=h;obtain⟨⟨hl,hv⟩,hM⟩:=h.slot t _ hk;rcases hv with ⟨rfl,hv,hC⟩ | ⟨b,hv,hb,h4,hC⟩
 ·have hx:xs=[]:=zow (by simpa using hl);subst hx;have h2:=h.name t;rw[hv] at h2;have h3:Has F B O n (upd κ t (.is (.slice none 0 0))) a u:=⟨H,fp,h2⟩
  have h4:=h3.seen (t:=t) (SlV e s [] 0 true) (xr _ _ _) ns ⟨by simp,.inl ⟨rfl,_,rfl⟩⟩;rw[wg] at h4;exact h4
 ·obtain⟨H',h'⟩:=h.pub (φ:=SlV e s xs m true) hk hb ((hC b).2 rfl) ns fun H' _ hb'=>⟨hl,.inr ⟨b,0,m,_,_,(0,0),hv,hb',by simp,nu _,fun _=>rfl⟩⟩
  exact⟨H',fp,h'⟩
def Fi(t:Nat){c:Code}(hk:κ t=some (.own (SlE e s m xs)))(h:V P F B n O (upd κ t (.sat (SlV e s xs m true))) c zs3):V P F B n O κ c zs3:=fun a u hh=>h a u (hh.pubE hk)
def zjp{f:α->List Value}(hf:∀ a,(f a).length=s)(l:List α)(k m:Nat)(zs:List Value)(y:α)(hl:l.length=k)(hz:zs.length=(m-k)*s)(hk:k<m):
  (l.flatMap f++zs).take (k*s)++(f y++(l.flatMap f++zs).drop (k*s+s))=(l++[y]).flatMap f++zs.drop s:=by
 have h1:(l.flatMap f).length=k*s:=by
  subst hl;clear hz hk
  induction l with
  | nil=>simp
  | cons x l ih=>rw[zpm,nr,hf,ih,nz,zpx,Nat.one_mul];omega
 have h2:s<=zs.length:=by rw[hz];exact Nat.le_mul_of_pos_left _ T
 rw[<-h1,List.take_left',zp7]
 ·rw[zo4 T,mj,show(l.flatMap f).length+s-(l.flatMap f).length=s by omega,zpo];simp
 ·rfl
def zik(w:World)(r:Res)(v:Value)(H:Heap)(u:World):Prop:=∃ C:Nat->Prop,r.P v H u C/\∀ k,C k->w.heap.size<=k/\k<u.heap.size/\H k=none
def RetO(P:Program)(f:FuncId)(args:List Value)(w:World)(B:Heap)(r:Res):Prop:=RetL P f args w B noL (zik w r)
def wq(L:Tabs P){r:Res}{fo:Operand}
  (hop:o.op=.call { callee:=.value fo,args:=args,argTypes:=at_ }) (hd:o.dst=some d) (hn:d<n) (hg:gK ops κ o=some true)
  (hf:evK κ fo=some (.func (.func f) #[] cap.toArray)) (hfn:L.fn f=some ())
  (h:∀ u H,zs4 H u->B.Le H->Below F.w0.heap.size F.w0 F.w0->Args κ H args.toList [] (fun vs=>RetO P f (vs++cap) u H r)):
  StepOK P F B n ops O κ o d (.own r):=by
 rintro κ' a u hl ⟨H,fp,hh⟩;unfold After;rw[na (xl hh hl hg)];have e:=hh.env hl;have hfe:a.eval fo=.func (.func f) #[] cap.toArray:=e.is_ fo _ (by simp [hop,Op.operands,Call.operands]) hf;have hc:=Args.use e args.toList [] (fun x hx=>by simp [hop,Op.operands,Call.operands] at hx |-;exact .inr hx) (h u H e.sub e.base (Below.refl _ _));simp only[zpv,mj] at hc;rw[ux L hop hfe hfn];simp only[Upon];refine Calls.mono hc fun e' u' hp=>?_;obtain⟨v,rfl,H',g',C,hv,hC⟩:=hp;have h2:=hh.grow g';refine⟨v,rfl,?_⟩;simp only[hd];refine⟨H',_,h2.putR (C:=C) (by simp [Act.put]) Z (fun t ht=>xv ht) (by rw[kg (by rw[hh.size];exact hn)];exact hv) (fun k hk=>?_) fun t r' _ ht k hf hk=>?_⟩
 ·obtain⟨h3,h4,h5⟩:=hC k hk;exact⟨h4,h5,.inl (mp hh.keep.size h3),fun y hy e=>by have:=xj (hh.boxes y hy).1;omega⟩
 ·have h3:=(hC k hk).1;have:=((hh.slot t _ ht).2 k hf).1;omega
def lf{fn:Func}{t:Nat}{r:Res}(hrs:fn.results=#[.tmp t])(hQ:∀ a u,bodyPostM Fence.wide 0 P fn (li F.w0 B0 F.L (zik F.w0 r)) .ret a u->zs3 .ret a u)(hs:Since F B0 B)(hk:κ t=some (.own r))(hL:F.L=noL:=by rfl)(hm:za2 F.ds=true:=by rfl):V P F B n O κ .ret zs3:=
 Rj hQ hs (hm:=hm) fun O' a u H fp _ hh=>by
  obtain⟨hown,hM⟩:=hh.slot t _ hk;refine⟨a.eval (.tmp t),?_,fp t,hown,fun k hk=>?_⟩
  ·simp [results,hrs,Act.eval]
  ·obtain⟨h1,h2,h3,_⟩:=hM k hk;refine⟨?_,h1,h2⟩;rcases h3 with h3 | h3
   ·exact h3
   ·have h3':F.L k:=h3;rw[hL] at h3';exact h3'.elim
open Classical in
noncomputable def joinH (H:Heap) (u:World) (C:Nat->Prop):Heap:=fun k=>if C k then hp u k else H k
def cm(h:C k):joinH H u C k=hp u k:=na h
def du(h:¬ C k):joinH H u C k=H k:=nc h
def sd(h:zs4 H u):(joinH H u C).Le (hp u):=fun k v hv=>by
 by_cases hc:C k
 ·rwa [cm hc] at hv
 ·rw[du hc] at hv;exact h _ _ hv
def Gy(h:∀ k,C k->H k=none):H.Le (joinH H u C):=fun k v hv=>by
 by_cases hc:C k
 ·rw[h k hc] at hv;cases hv
 ·rwa [du hc]
def zl1(r:Res)(φ:Value->Heap->Prop):Prop:=∀ x H u C,r.P x H u C->φ x (joinH H u C)
def ci:zl1 (SlE e s m xs) (SlV e s xs m true):=fun x H u C ⟨hl,h⟩=>⟨hl,by
 rcases h with ⟨h0,hv,_⟩ | ⟨b,hv,hb,h3,hC⟩
 ·exact .inl ⟨h0,_,hv⟩
 ·exact .inr ⟨b,0,m,_,_,_,hv,(cm ((hC b).2 rfl)).trans hb,by simp,nu _,fun _=>rfl⟩⟩
def zes(q:Nat)(l:List Operand):Bool:=l.any fun x=>match x with | .tmp t=>Nat.beq t q | _=>false
def RetO.toRet{f:FuncId}{args:List Value}{r:Res}(h:RetO P f args w B r)(hl:zl1 r φ):Ret P f args w B φ:=
 Calls.mono h fun _ u ⟨v,he,H,g,C,h1,h2⟩=>⟨v,he,joinH H u C,⟨g.keep,sd g.sub,fun k x hx=>Gy (fun k hk=>(h2 k hk).2.2) _ _ (g.le _ _ hx),fun k hk hn=>(du fun hc=>by have:=(h2 k hc).1;omega).trans (g.fresh k hk hn)⟩,hl _ _ _ _ h1⟩
def wz{f:FuncId}{fn:Func}{c:Code}{args:List Value}{r:Res}(hf:P.funcs[f]?=some fn)(hb:fn.body=some c)(hn:fn.ntmps=n)
  (hs:args.length<=n) (hB:zs4 B w) (h:V P (Fr.pure w) B n [] (Ag 0 args) c (bodyPostM Fence.wide 0 P fn (li w B noL (zik w r)))):RetO P f args w B r:=
 bp hf hb (h _ w ⟨B,fun _=>noL,by subst hn;exact bm noL (fun _ h=>h.elim) hs hB _⟩)
def Has.nilE{t:Nat}(e:TypeId)(s:Nat)(hk:κ t=some (.is (.slice none 0 0)))(h:Has F B O n κ a u):Has F B O n (upd κ t (.own (SlE e s 0 []))) a u:=by
 obtain⟨H,fp,h⟩:=h;exact⟨H,_,h.putR (C:=noL) Z Z (fun _ _=>rfl) ⟨by simp,.inl ⟨rfl,h.slot t _ hk,fun _ h=>h⟩⟩ (fun _ h=>h.elim) fun _ _ _ _ _ _ h=>h⟩
def zlj(t:Nat)(e:TypeId)(s:Nat){c:Code}(hk:κ t=some (.is (.slice none 0 0)))(h:V P F B n O (upd κ t (.own (SlE e s 0 []))) c zs3):V P F B n O κ c zs3:=fun a u hh=>h a u (hh.nilE e s hk)
end
end Go.V
namespace Go.V
def xu(b:Nat)(cs:List Value)(ty:TypeId):Res where
 P _ _ u C:=u.heap[b]?=some (.cells cs.toArray ty)/\∀ k,C k↔k=b
 st:=fun⟨h1,h2⟩ _ _ _ hk=>⟨(hk b ((h2 b).2 rfl)).trans h1,h2⟩
section
variable             {a:Act}      
def Has.hold{t:Nat}(hk:κ t=some (.own (Cell cs ty)))(h:Has F B O n κ a u):∃ b,Has F B O n (upd (upd (upd κ t po) q (.own (xu b cs ty))) t (.is (.pointer (some ⟨b,0,none⟩)))) a u:=by
 obtain⟨H,fp,h⟩:=h;obtain⟨⟨b,hv,hb,hC⟩,hM⟩:=h.slot t _ hk;have h2:=h.usePut (d:=q) (a':=a) (r':=xu b cs ty) (C:=fp t) hk ⟨Keep.refl _ _,h.sub,my _,fun _ _ _=>rfl⟩ rfl rfl (fun _ _=>rfl) ⟨hb,hC⟩ fun k hk=>⟨.inl hk,(hM k hk).1,(hM k hk).2.1⟩
 have h3:=h2.name t;rw[hv] at h3;exact⟨b,H,_,h3⟩
def Has.release{t b:Nat}(hk:κ q=some (.own (xu b cs ty)))(ht:κ t=some (.is (.pointer (some ⟨b,0,none⟩))))(h:Has F B O n κ a u):Has F B O n (upd (upd κ q po) t (.own (Cell cs ty))) a u:=by
 obtain⟨H,fp,h⟩:=h;obtain⟨⟨hb,hC⟩,hM⟩:=h.slot q _ hk;have hx:a.eval (.tmp t)=.pointer (some ⟨b,0,none⟩):=h.slot t _ ht;exact⟨H,_,h.usePut (d:=t) (a':=a) (r':=Cell cs ty) (C:=fp q) hk ⟨Keep.refl _ _,h.sub,my _,fun _ _ _=>rfl⟩ Z Z (fun _ _=>rfl) ⟨b,hx,hb,hC⟩ fun k hk=>⟨.inl hk,(hM k hk).1,(hM k hk).2.1⟩⟩
def jd(t q:Nat){c:Code}(hk:κ t=some (.own (Cell cs ty)))(h:∀ b,V P F B n O (upd (upd (upd κ t po) q (.own (xu b cs ty))) t (.is (.pointer (some ⟨b,0,none⟩)))) c zs3):V P F B n O κ c zs3:=fun a u hh=>let ⟨b,h'⟩:=hh.hold (q:=q) hk;h b a u h'
def dw(t q:Nat){b:Nat}{c:Code}(hk:κ q=some (.own (xu b cs ty)))(ht:κ t=some (.is (.pointer (some ⟨b,0,none⟩))))(h:V P F B n O (upd (upd κ q po) t (.own (Cell cs ty))) c zs3):V P F B n O κ c zs3:=fun a u hh=>h a u (hh.release hk ht)
def StepOKR(P:Program)(F:Fr)(B:Heap)(n:Nat)(ops:Array Oper)(O:Boxes)(κ:Kap)(o:Oper)(q d:Nat)(k:Kn):Prop:=
 ∀ κ' a u,(∀ t∈o.looksAt ops,κ' t=κ t)->κ' q=κ q->Has F B O n κ' a u->After P ops o (fun a' u'=>Has F B O n (upd κ' d k) a' u') a u
def ye{k:Kn}(hs:StepOKR P F B n ops O κ o q d k)(h:VO P F B n O ops (upd κ d k) os zs3):VO P F B n O ops κ (o::os) zs3:=
 fun a u hh=>After.mono (fun a' u' hh'=>h a' u' hh') (hs κ a u (fun _ _=>rfl) rfl hh)
def qv{k:Kn}(hs:StepOKR P F B n ops O κ o q d k)(hd:vd o=some d)(he:(exR ex o).contains q=true)(h:Par P F B n O ops ex (upd κ d k) os zs3):Par P F B n O ops ex κ (o::os) zs3:=by
 have hm:q∈exR ex o:=by simpa using he
 refine⟨[(d,k)],fun p hp=>?_,fun κ' a u hl hh=>hs κ' a u (fun t ht=>hl t (zpk _ ht)) (hl q (zpz _ (zpz _ hm))) hh,h⟩;simp only[ma,zqp,or_false] at hp;subst hp;exact zpk _ (by simp [hd])
def Aj(P:Program)(F:Fr)(B:Heap)(n:Nat)(ops:Array Oper)(O:Boxes)(κ:Kap)(o:Oper)(q:Nat)(k:Kn):Prop:=
 ∀ κ' a u,(∀ t∈o.looksAt ops,κ' t=κ t)->κ' q=κ q->Has F B O n κ' a u->After P ops o (fun a' u'=>Has F B O n (upd κ' q k) a' u') a u
def xo{k:Kn}(hs:Aj P F B n ops O κ o q k)(h:VO P F B n O ops (upd κ q k) os zs3):VO P F B n O ops κ (o::os) zs3:=
 fun a u hh=>After.mono (fun a' u' hh'=>h a' u' hh') (hs κ a u (fun _ _=>rfl) rfl hh)
def xq{k:Kn}(hs:Aj P F B n ops O κ o q k)(he:(exO ex o).contains q=true)(h:Par P F B n O ops ex (upd κ q k) os zs3):Par P F B n O ops ex κ (o::os) zs3:=by
 have hm:q∈exO ex o:=by simpa using he
 refine⟨[(q,k)],fun p hp=>?_,fun κ' a u hl hh=>hs κ' a u (fun t ht=>hl t (zpk _ ht)) (hl q (zpz _ (zpk _ hm))) hh,h⟩;simp only[ma,zqp,or_false] at hp;subst hp;exact zpz _ hm
def xy(L:Tabs P)(q:Nat){r:Res}{Φ:Heap->Prop}{d f:Nat}{c:Value}{fo:Operand}
  (hop:o.op=.call { callee:=.value fo,args:=args,argTypes:=at_ }) (hd:o.dst=some d) (hn:d<n) (hg:gK ops κ o=some true)
  (hf:evK κ fo=some (.func (.func f) #[] cap.toArray)) (hfn:L.fn f=some ()) (hq:κ q=some (.own r)) (hm:zes q o.op.operands.toList=false) (hl:∀ v H u C,r.P v H u C->Φ (joinH H u C))
  (h:∀ u H,zs4 H u->B.Le H->Φ H->Args κ H args.toList [] (fun vs=>Ret P f (vs++cap) u H (fun v _=>v=c))):
  StepOKR P F B n ops O κ o q d (.is c):=by
 rintro κ' a u hlk hqk ⟨H,fp,hh⟩;unfold After;rw[na (xl hh hlk hg)];have e:=hh.env hlk;have hfe:a.eval fo=.func (.func f) #[] cap.toArray:=e.is_ fo _ (by simp [hop,Op.operands,Call.operands]) hf;obtain⟨hown,hM⟩:=hh.slot q _ (hqk.trans hq);have hle:H.Le (joinH H u (fp q)):=Gy fun k hk=>(hM k hk).2.1
 have hqo:∀ t,Operand.tmp t∈o.op.operands->t≠q:=fun t ht e=>by
  subst e;have:zes t o.op.operands.toList=true:=zrs.2 ⟨Operand.tmp t,by simpa using ht,Nat.beq_refl t⟩;rw[this] at hm;cases hm
 have e1:Env F B O κ o a u (joinH H u (fp q)) fp:=by
  refine⟨e.is_,fun t ψ ht hk=>?_,fun t r' ht hk=>?_,sd hh.sub,fun k v hv=>hle _ _ (hh.base _ _ hv),fun y hy=>?_,hh.keep⟩
  ·have hk':κ' t=some (.sat ψ):=(hlk t (l6 ht)).trans hk;exact hh.mono t _ hk' _ _ _ (e.sat_ t ψ ht hk) hle
  ·obtain⟨h1,h2⟩:=e.own_ t r' ht hk;have hk':κ' t=some (.own r'):=(hlk t (l6 ht)).trans hk;refine⟨r'.st h1 hle (sd hh.sub) ⟨rfl,rfl,rfl,nu _,nu _⟩ fun _ _=>rfl,fun k hk2=>?_⟩;obtain⟨g1,g2,g3,g4⟩:=h2 k hk2;exact⟨g1,(du (hh.owns t q r' _ (hqo t ht) hk' (hqk.trans hq) k hk2)).trans g2,g3,g4⟩
  ·obtain⟨h1,h2,h3⟩:=e.boxes y hy;exact⟨h1,(du fun hc=>(hM _ hc).2.2.2 y hy Z).trans h2,h3⟩
 have hc:=Args.use e1 args.toList [] (fun x hx=>by simp [hop,Op.operands,Call.operands] at hx |-;exact .inr hx) (h u (joinH H u (fp q)) e1.sub e1.base (hl _ _ _ _ hown));simp only[zpv,mj] at hc;rw[ux L hop hfe hfn];simp only[Upon];refine Calls.mono hc fun e' u' hp=>?_;obtain⟨v,rfl,H',g',hv⟩:=hp;refine⟨v,rfl,?_⟩;simp only[hd]
 have g2:Grow noL u H u' H:=⟨g'.keep,fun k x hx=>by
  have h1:=hh.sub _ _ hx;exact(g'.keep.block k (xj h1) fun h=>h).trans h1,my _,fun _ _ _=>rfl⟩
 exact⟨H,fp,(hh.grow g2).put (k:=.is c) hn trivial hv⟩
def ky(L:Tabs P){q b:Nat}{t t':TypeId}{s off:Nat}{cs vs:List Value}(eqs:(evK κ x,κ q,Nat.blt d n)=(some (.pointer (some ⟨b,off,none⟩)),some (.own (xu b cs t')),true))(hg:gK ops κ ⟨some d,.load t x,ty,pos,aft,g⟩=some true)
  (hl:L.ld t=some (true,s)) (hlen:vs.length=s) (hc:∃ r,cs.drop off=vs++r):StepOKR P F B n ops O κ ⟨some d,.load t x,ty,pos,aft,g⟩ q d (.is (.agg vs.toArray)):=by
 obtain⟨hx,hq,hn⟩:=EQ3 eqs;rintro κ' a u hlk hqk ⟨H,fp,hh⟩;unfold After;rw[na (xl hh hlk hg)];have e:=hh.env hlk;have h1:=e.is_ x _ (by simp [Op.operands]) hx;obtain⟨⟨h2,hC⟩,hM⟩:=hh.slot q _ (hqk.trans hq);obtain⟨r,hc⟩:=hc
 have hrun:(execOp a.eval ⟨some d,.load t x,ty,pos,aft,g⟩).run P u=.ok (.value (.agg vs.toArray)) u:=by
  simp only[execOp,h1,Instr.loadAt,Instr.sureAddr,nw,me,ny]
  rw[w6 (Tabs.ld_spec hl) u _ vs hlen (fun j v hj=>by
   have h3:cs[off+j]?=some v:=by
    have:=nh (·[j]?) hc;simp only[zpw] at this
    rw[this,zp5 (by
     rcases m5 j vs.length with h | h
     ·exact h
     ·rw[zo1 h] at hj;cases hj)]
    exact hj
   show u.cell? (Addr.add ⟨b,off,none⟩ j)=some v;have:Addr.add ⟨b,off,none⟩ j=⟨b,off+j,none⟩:=by simp [Addr.add]
   rw[this,kx h2];simpa using h3)]
  rfl
 rw[hrun];simp only[Upon];exact⟨H,fp,hh.put (k:=.is (.agg vs.toArray)) (zm hn) trivial Z⟩
def qh(L:Tabs P){b:Nat}{r:List Value}(eqs:(evK κ x,κ q,Nat.blt d n)=(some (.pointer (some ⟨b,off,none⟩)),some (.own (xu b cs t')),true))(hg:gK ops κ ⟨some d,.load t x,ty,pos,aft,g⟩=some true)
  (hl:L.ld t=some (false,s)) (hc:cs.drop off=v::r):StepOKR P F B n ops O κ ⟨some d,.load t x,ty,pos,aft,g⟩ q d (.is v):=by
 obtain⟨hx,hq,hn⟩:=EQ3 eqs;rintro κ' a u hlk hqk ⟨H,fp,hh⟩;unfold After;rw[na (xl hh hlk hg)];have e:=hh.env hlk;have h1:=e.is_ x _ (by simp [Op.operands]) hx;obtain⟨⟨h2,hC⟩,hM⟩:=hh.slot q _ (hqk.trans hq)
 have h3:cs[off]?=some v:=by
  have:=nh (·[0]?) hc;simpa using this
 have hrun:(execOp a.eval ⟨some d,.load t x,ty,pos,aft,g⟩).run P u=.ok (.value v) u:=by
  simp only[execOp,h1,Instr.loadAt,Instr.sureAddr,nw,me,ny];rw[g8 (Tabs.ld_spec hl) u _ v (by rw[kx h2];simpa using h3)];rfl
 rw[hrun];simp only[Upon];exact⟨H,fp,hh.put (k:=.is v) (zm hn) trivial Z⟩
def yl(L:Tabs P){z b:Nat}{p:Operand}{cs':List Value}(hg:gK ops κ ⟨none,.store t p x,ty,pos,aft,g⟩=some true)
  (eqs:(evK κ p,κ q,evK κ x,L.ld t,(ji v).length)=(some (.pointer (some ⟨b,off,none⟩)),some (.own (xu b cs t')),some v,some (ag,z),z)) (hcs:Nat.ble (off+z) cs.length=true) (hpl:(ji v).all gj=true) (hr:cs.take off++(ji v++cs.drop (off+z))=cs'):
  Aj P F B n ops O κ ⟨none,.store t p x,ty,pos,aft,g⟩ q (.own (xu b cs' t')):=by
 obtain⟨hp,hq,hx,hl,hlen⟩:=EQ5 eqs;rintro κ' a u hlk hqk ⟨H,fp,hh⟩;subst hr;unfold After;rw[na (xl hh hlk hg)];have e:=hh.env hlk;have hev:=e.is_ x v (by simp [Op.operands]) hx;have hes:=e.is_ p _ (by simp [Op.operands]) hp;have hqs:=hqk.trans hq;obtain⟨⟨hb,hC⟩,hM⟩:=hh.slot q _ hqs
 have hrun:(execOp a.eval ⟨none,.store t p x,ty,pos,aft,g⟩).run P u=.ok .skip (u.setRow b (cs.take off++(ji v++cs.drop (off+z))).toArray):=by
  simp only[execOp,hes,hev,Instr.storeAt,Instr.sureAddr,nw,me,ny];have:=g7 (P:=P) (off:=off) (Tabs.ld_spec hl) hb hlen (np hcs) hpl;rw[this];simp
 rw[hrun];simp only[Upon,Act.put];have hset:=setRow_heap u b cs.toArray (cs.take off++(ji v++cs.drop (off+z))).toArray t' (0,0) hb;have hbm:=hM b ((hC b).2 rfl)
 have:=hh.usePut (d:=q) (a':=a) (r':=xu b (cs.take off++(ji v++cs.drop (off+z))) t') (C:=fun k=>k=b) hqs (vz hh.sub hb ((hC b).2 rfl) hbm.2.1 _) rfl rfl (fun _ _=>rfl) ⟨hset,fun _=>Iff.rfl⟩ (fun k hk=>by
  subst hk;exact⟨.inl ((hC k).2 rfl),by rw[setRow_size];exact hbm.1,hbm.2.1⟩)
 rw[wg] at this;exact⟨H,_,this⟩
def zii(t q:Nat){c:Code}(hm:0<m)(hk:κ t=some (.own (SlE e s m xs)))
  (h:∀ b,xs.length=m*s->V P F B n O (upd (upd (upd κ t po) q (.own (xu b xs e))) t (.is (.slice (some ⟨b,0,none⟩) m m))) c zs3):V P F B n O κ c zs3:=fun a u hh=>by
 obtain⟨H,fp,hh⟩:=hh;obtain⟨⟨hl,hv⟩,hM⟩:=hh.slot t _ hk;rcases hv with ⟨h0,_,_⟩ | ⟨b,hv,hb,h4,hC⟩
 ·omega
 ·have h2:=hh.usePut (d:=q) (a':=a) (r':=xu b xs e) (C:=fp t) hk ⟨Keep.refl _ _,hh.sub,my _,fun _ _ _=>rfl⟩ rfl rfl (fun _ _=>rfl) ⟨hb,hC⟩ fun k hk=>⟨.inl hk,(hM k hk).1,(hM k hk).2.1⟩
  have h3:=h2.name t;rw[hv] at h3;exact h b hl a u ⟨H,_,h3⟩
def tp(L:Tabs P)(hn:Nat.blt d n=true)(hg:gK ops κ ⟨some d,.call ⟨.builtin .append,#[x,y],#[t,t]⟩,ty,pos,aft,g⟩=some true)
  (hx:evK κ x=some (.slice none 0 0)) (hy:Apd F B O κ y m news) (ht:L.sl t=some e) (he:elI P e=some (s,by_)) (hl:news.length=m*s) (h1:news.all gj=true) (hb:m*by_<=140737488355328) (h63:m<=9223372036854775807):
  StepOK P F B n ops O κ ⟨some d,.call ⟨.builtin .append,#[x,y],#[t,t]⟩,ty,pos,aft,g⟩ d (.own (SlR e s m news)):=by
 rintro κ' a u hlk ⟨H,fp,hh⟩;unfold After;rw[na (xl hh hlk hg)];have en:=hh.env hlk;obtain⟨i,z,hi,hz,hs1,hs2,hs3,hs4⟩:=uf he;have hxe:=en.is_ x _ (by simp [Op.operands,Call.operands]) hx;obtain⟨x',u',C',hr,hown',hgr,hC'⟩:=Dv (C:=noL) (xs:=[]) (nn:=0) (x:=.slice none 0 0) u (aty:=ty) (Tabs.sl_spec ht) hi hz hs1 hs2 hs3 hs4 hh.sub ⟨by simp,.inl ⟨rfl,rfl,fun _ h=>h⟩⟩ (fun k hk=>hk.elim) (hy _ a u H fp (by simp [Op.operands,Call.operands]) en) hl (fun v hv=>dt (zo9.1 h1 v hv)) T (by rw[zo2];exact hb);rw[zo2,mj] at hown'
 have hrun:(execOp a.eval ⟨some d,.call ⟨.builtin .append,#[x,y],#[t,t]⟩,ty,pos,aft,g⟩).run P u=.ok (.value x') u':=by
  simp only[execOp,resolve,invoke,builtin,nw,me,ny,zpn,mz,zph,hxe,hr]
 rw[hrun];simp only[Upon];have h2:=hh.grow hgr;refine⟨H,_,h2.putR (C:=C') (by simp [Act.put]) Z (fun t ht=>xv ht) (by rw[kg (by rw[hh.size];exact zm hn)];exact hown') (fun k hk=>?_) fun t r' _ ht k hf hk=>?_⟩
 ·obtain⟨h3,h4,h5⟩:=hC' k hk;have h3':u.heap.size<=k:=h3.resolve_left fun h=>h;exact⟨h4,h5,.inl (mp hh.keep.size h3'),fun y hy e=>by have:=xj (hh.boxes y hy).1;omega⟩
 ·have h3':u.heap.size<=k:=(hC' k hk).1.resolve_left fun h=>h;have:=((hh.slot t _ ht).2 k hf).1;omega
end
end Go.V
section
open Go.V
attribute [local irreducible] Has N Par Ret RetL Src StepOK V VO X
namespace Go.V.L2
def _root_.Zc0(t:Wr Y->A:=by intro h;refine z8 (yn L (vs:=[_,_,_,_,_,_]) Z Z Z Z Z ⟨_,rfl⟩) Z ?_;exact h.1)(h:Y):A:=t ⟨h⟩
def _root_.Zd5(t:Wr Y->A:=by intro h;refine z8 (yh L _ Z Z Z Z (by first | omega | decide) M) Z ?_;exact h.1)(h:Y):A:=t ⟨h⟩
def _root_.Zad(t:Wr Y->A:=by intro h;refine z8 (qd Z Z Z) Z ?_;exact h.1)(h:Y):A:=t ⟨h⟩
def _root_.ZdR(t:Wr Y->A:=by intro h;refine z8 (P3 Z Z Z Z M) Z ?_;exact h.1)(h:Y):A:=t ⟨h⟩
def _root_.Zc1(t:Wr Y->A:=by intro h;refine z7 (yv (cs:=[_,_,_,_,_,_]) Z Z znm Z Z) Z ?_;exact h.1)(h:Y):A:=t ⟨h⟩
def _root_.Zd6(t:Wr Y->A:=by intro h;refine z8 (zz L (vs:=[_,_,_]) (qp Z) Z Z Z Z ⟨_,rfl⟩) Z ?_;exact h.1)(h:Y):A:=t ⟨h⟩
def _root_.Ze3(t:Wr Y->A:=by intro h;refine z8 (P8 Z Z Z Z (nf T)) Z ?_;exact h.1)(h:Y):A:=t ⟨h⟩
def _root_.ZfE(t:Wr Y->A:=by intro h;refine z71 L Z (fun u H hH hle=>zgt (by first | assumption | rfl) Q hH (GlobM.mono M hle)) ?_;exact h.1)(h:Y):A:=t ⟨h⟩
def _root_.ZeO(t:Wr Y->A:=by intro h;refine z8 (P8 Z Z Z Z (ng T)) Z ?_;exact h.1)(h:Y):A:=t ⟨h⟩
def _root_.ZfZ(t:Wr Y->A:=by intro h;refine z71 L Z (fun u H hH _=>Cb Q Q Q hH) ?_;exact h.1)(h:Y):A:=t ⟨h⟩
def _root_.Zga(t:Wr Y->A:=by intro h;refine z71 L Z (fun u H hH hle=>Ve (by first | assumption | rfl) Q hH (GlobM.mono M hle)) ?_;exact h.1)(h:Y):A:=t ⟨h⟩
def _root_.ZbB(t:Wr Y->A:=by exact fun h=>(ZU∘Z3) h.1)(h:Y):A:=t ⟨h⟩
def _root_.ZeB(t:Wr Y->A:=by exact fun h=>(Zad∘Zl) h.1)(h:Y):A:=t ⟨h⟩
def _root_.ZeC(t:Wr Y->A:=by exact fun h=>(ZeB∘Zd5) h.1)(h:Y):A:=t ⟨h⟩
def _root_.ZaM(t:Wr Y->A:=by exact fun h=>(ZeC∘Zc0) h.1)(h:Y):A:=t ⟨h⟩
def _root_.ZaZ(t:Wr Y->A:=by exact fun h=>(Zd∘Zz) h.1)(h:Y):A:=t ⟨h⟩
def _root_.Zbn(t:Wr Y->A:=by exact fun h=>(Zcx∘ZeM) h.1)(h:Y):A:=t ⟨h⟩
def _root_.ZbJ(t:Wr Y->A:=by exact fun h=>(ZbB∘ZdP) h.1)(h:Y):A:=t ⟨h⟩
abbrev uv(t:U):Value:=.agg #[.string t.1.1.1,.string t.1.1.2,.string t.1.2,.string t.2.1.1,.string t.2.1.2,.string t.2.2]
abbrev tyU:TypeId:=57
abbrev US(l:List U)(fu:Bool):Value->Heap->Prop:=SlV tyU 6 (l.flatMap ucs) l.length fu
def pg{l:List U}{t:U}(h:l[i]?=some t):((l.flatMap ucs).drop (i*6)).take 6=[.string t.1.1.1,.string t.1.1.2,.string t.1.2,.string t.2.1.1,.string t.2.1.2,.string t.2.2]:=f5 Ft l i t h
def je{t:U}(hz:TZ t)(hB:zs4 B w):Ret zs5 104 [uv t] w B (fun v _=>v=.int .i64 (tE t)):=by
 obtain⟨⟨z1,z2,z3⟩,z4,z5,z6⟩:=hz;unfold tE;refine yr Tryz.func104 Z Tryz.ntmps104 (np Z) hB ?_;by_cases h:ff [t.1.1.1,t.1.1.2,t.1.2]=0
 ·rw[na h];refine(ZD∘ZH∘Zbn) ?_;refine z71 L Z (fun u H hH _=>goal_ret Q Q Q hH) ?_;refine(ZaZ∘Zb4∘Zt∘Zbn∘ZfZ∘Zc) ?_;exact yj2 L [.tmp 2]
 ·rw[nc h];refine(ZD∘ZH∘Zbn) ?_;refine z71 L Z (fun u H hH _=>goal_ret Q Q Q hH) ?_;refine(ZaZ∘Za0∘Zr∘Zc) ?_;exact yj2 L [.tmp 2]
def j8{a b:U}(hB:zs4 B w):Ret zs5 74 [uv a,uv b] w B (fun v _=>v=.int .i64 (kw a b)):=by
 refine yr Tryz.func74 Z Tryz.ntmps74 (np Z) hB ((Zal∘Zd∘ZcC∘Zbt∘Zd6∘Zbt∘Zd6) ?_);refine z81 L Z (fun u H hH _=>Hf hH) ?_;refine(Zbt∘Zd6∘Zbt∘Zd6) ?_;refine z81 L Z (fun u H hH _=>cmpU_ret hH) ?_;refine ZcF (h:=?_);refine z8 (qb L Z Z (zm Z) Z Z Z (fun u H hH _ _ v hv=>Gj hH hv)) Z (ZaS (h:=?_));exact yj2 L [.tmp 4]
def R0{s:ByteArray}{r:U×Int}(hr:ptA s=r)(hs:s.size<=1000000)(hB:zs4 B w)(hM:GlobM B):
  Ret zs5 17 [.string s] w B (fun v _=>v=.tuple #[uv r.1,.int .i64 r.2]):=by
 subst hr;have hz:=sq s 64;have hz1:(l8 s 64).1.size<=1000000:=T;have hz2:(l8 s 64).2.1.size<=1000000:=T;unfold ptA;refine yr Tryz.func17 Z Tryz.ntmps17 (np Z) hB ?_;cases h1:(l8 s 64).2.2
 ·rw[nc (fun h=>by cases h.1)];refine(Zah∘ZbA) ?_;refine z71 L Z (fun u H hH hle=>cw M hH (GlobM.mono M hle) M) ?_;refine(ZA∘Zb9∘Zcn∘Zz∘Zm∘ZcL∘Zbe∘Z6∘Zc1∘Zbi) ?_;refine yj1 L [.cell 2 57,.tmp 3] fun u H hH hle=>?_;exact⟨_,y7 Z,rfl,rfl⟩
 ·cases h2:Yc (l8 s 64).2.1 64
  ·rw[na ⟨rfl,rfl⟩];rcases hp:pgA (l8 s 64).1 with ⟨a,b,c,e⟩
   dsimp only;by_cases he:e=0
   ·rw[na he];rcases hq:psA (l8 s 64).2.1 with ⟨a',b',c',e'⟩
    dsimp only;by_cases he':e'=0
    ·rw[na he'];refine(Zah∘ZbA) ?_;refine z71 L Z (fun u H hH hle=>cw M hH (GlobM.mono M hle) M) ?_;refine(ZA∘Zb9∘Zcn∘Zz∘Zm∘Zb) ?_;refine z71 L Z (fun u H hH _=>wt hH M) ?_;refine(Zcz∘Z5∘ZfE∘ZA∘Za1∘Zk∘ZS∘Zb4∘Z7∘Zga∘ZA∘Za1∘Zk∘ZaI∘Zb4∘Z4∘Zeo∘Zeo∘Zc1∘Zbi) ?_;refine yj1 L [.cell 2 57,.tmp 3] fun u H hH hle=>?_;exact⟨_,y7 Z,rfl,rfl⟩
    ·rw[nc he'];refine(Zah∘ZbA) ?_;refine z71 L Z (fun u H hH hle=>cw M hH (GlobM.mono M hle) M) ?_;refine(ZA∘Zb9∘Zcn∘Zz∘Zm∘Zb) ?_;refine z71 L Z (fun u H hH _=>wt hH M) ?_;refine(Zcz∘Z5∘ZfE∘ZA∘Za1∘Zk∘ZS∘Zb4∘Z7∘Zga∘ZA∘Za1∘Zk∘ZaI∘Za0∘Z2∘Zc1∘Za∘Zbi) ?_;refine yj1 L [.cell 2 57,.tmp 3] fun u H hH hle=>?_;exact⟨_,y7 Z,rfl,rfl⟩
   ·rw[nc he];refine(Zah∘ZbA) ?_;refine z71 L Z (fun u H hH hle=>cw M hH (GlobM.mono M hle) M) ?_;refine(ZA∘Zb9∘Zcn∘Zz∘Zm∘Zb) ?_;refine z71 L Z (fun u H hH _=>wt hH M) ?_;refine(Zcz∘Z5∘ZfE∘ZA∘Za1∘Zk∘ZS∘Za0∘ZO∘Zc1∘Za∘Zbi) ?_;refine yj1 L [.cell 2 57,.tmp 3] fun u H hH hle=>?_;exact⟨_,y7 Z,rfl,rfl⟩
  ·rw[nc (fun h=>by cases h.2)];refine(Zah∘ZbA) ?_;refine z71 L Z (fun u H hH hle=>cw M hH (GlobM.mono M hle) M) ?_;refine(ZA∘Zb9∘Zcn∘Zz∘Zm∘Zb) ?_;refine z71 L Z (fun u H hH _=>wt hH M) ?_;refine(Zbe∘Z6∘Zc1∘Zbi) ?_;refine yj1 L [.cell 2 57,.tmp 3] fun u H hH hle=>?_;exact⟨_,y7 Z,rfl,rfl⟩
def di{l:List U}{fu:Bool}(hl:l.length<=1000000){r:Bool}(hr:isB l=r){v:Value}(hB:zs4 B w)(hv:US l fu v B):
  Ret zs5 32 [v] w B (fun v _=>v=.bool r):=by
 subst hr;refine yr Tryz.func32 Z Tryz.ntmps32 (np Z) hB (k7 0 (US l fu) Z ns hv ((ZQ∘ZH∘ZaX) ?_))
 refine xp (fun i:Nat=>[(0,.sat (US l fu)),(3,.is (.int .i64 (i+1:Nat)))])
  (fun i=>∀ j a b,j<i->l[j]?=some a->l[j+1]?=some b->kw a b<0) (fun i=>l.length-i) 0 (fun j a b h=>by omega) ⟨rfl,rfl,nm⟩ ?_
 rintro i hall;by_cases hlt:i+1<l.length
 ·obtain⟨a,ha⟩:=xm (show i<l.length by omega);obtain⟨b,hb⟩:=xm hlt;have hca:=pg ha;have hcb:=pg hb;have hsub:IntKind.i64.wrap (((i+1:Nat):Int)-1)=(i:Int):=xb T T |>.trans T;by_cases hc:kw a b<0
  ·refine(Zf∘Zz∘Zj∘ZbJ∘Zda∘ZeB∘ZdR∘Zd5∘Zc0∘ZaM) ?_;refine z81 L Z (fun u H hH _=>j8 hH) ?_;refine(ZeO∘ZaL∘Zds∘Zb8∘Zr∘ZaT) ?_
   exact yo (x:=i) (i+1) (fun j a' b' hj h1 h2=>by
    by_cases hji:j=i
    ·subst hji;rw[ha] at h1;rw[hb] at h2;cases h1;cases h2;exact hc
    ·exact hall j a' b' T h1 h2) T ⟨Z,Z,nm⟩
  ·rw[zkv ha hb hc];refine(Zf∘Zz∘Zj∘ZbJ∘Zda∘ZeB∘ZdR∘Zd5∘Zc0∘ZaM) ?_;refine z81 L Z (fun u H hH _=>j8 hH) ?_;refine(Ze3∘ZbW∘Ze∘Z1∘Zc) ?_;exact yj2 L [.tmp 2]
 ·rw[zhn fun j a b h1 h2=>hall j a b (by
   have:j+1<l.length:=by
    rcases m5 (j+1) l.length with h | h
    ·exact h
    ·rw[zo1 h] at h2;cases h2
   omega) h1 h2]
  refine(Zf∘Zz∘Zj∘Z0∘Za5∘ZO∘Zc) ?_;exact yj2 L [.tmp 2]
end Go.V.L2
namespace Go.V
def _root_.Zbz(t:Wr Y->A:=by intro h;refine z7 (P8 Z Z Z Z (nf T)) Z ?_;exact h.1)(h:Y):A:=t ⟨h⟩
def _root_.Za6(t:Wr Y->A:=by intro h;refine z7 (P8 Z Z Z Z (ng T)) Z ?_;exact h.1)(h:Y):A:=t ⟨h⟩
def _root_.ZcO(t:Wr Y->A:=by intro h;refine z7 (P7 Z Z Z Z (ng T)) Z ?_;exact h.1)(h:Y):A:=t ⟨h⟩
def _root_.ZcW(t:Wr Y->A:=by intro h;refine z7 (P7 Z Z Z Z (nf T)) Z ?_;exact h.1)(h:Y):A:=t ⟨h⟩
def _root_.ZcE(t:Wr Y->A:=by exact fun h=>(Z6∘Zb) h.1)(h:Y):A:=t ⟨h⟩
def _root_.ZbY(t:Wr Y->A:=by exact fun h=>(Zf∘ZcE) h.1)(h:Y):A:=t ⟨h⟩
def _root_.Zc2(t:Wr Y->A:=by exact fun h=>(ZK∘Za) h.1)(h:Y):A:=t ⟨h⟩
def iy{s:ByteArray}(hs:s.size<=9223372036854775807)(hB:zs4 B w):
  Ret zs5 232 [.string s] w B (fun v _=>v=.int .i64 (chk s)):=by
 refine yr Tryz.func232 Z Tryz.ntmps232 (np Z) hB ?_;by_cases h0:1<=s.size/\s.size<=16
 ·obtain⟨h1,h2⟩:=h0;refine(Zc2∘Zaf∘ZP∘Zb∘Zaf∘ZcW∘Zi∘Zk∘Zv∘ZaX) ?_
  refine xp (fun p:Nat×Bool=>[(0,.is (.string s)),(3,.is (.bool p.2)),(4,.is (.int .i64 p.1))])
   (fun p=>p.1<=s.size/\(p.2=true->(s.data.toList.take p.1).all okB=true)/\(p.2=false->chk s=6)) (fun p=>s.size-p.1) (0,true) ⟨mb _,fun _=>by simp,fun h=>by cases h⟩ ⟨rfl,rfl,rfl,nm⟩ ?_
  rintro⟨k,b⟩ ⟨hk,hall,hbad⟩;dsimp only at hk hall hbad |-;by_cases hlt:k<s.size
  ·cases b with
   | false=>
    refine(ZbY∘Zaf∘ZU∘Zb∘Zi∘Za5∘Ze∘ZL∘Zx∘Zu∘Zc) ?_;refine yj1 L [.tmp 2] fun u H hH hle=>?_;exact nh _ (hbad Z).symm
   | true=>
    obtain⟨c,hc⟩:=getElem?_lt hlt;have hu:=zi1 c;by_cases a1:97<=(c.toNat:Int)
    ·by_cases a4:(c.toNat:Int)<=122
     ·refine(ZbY∘Zaf∘ZU∘Zb∘Zi∘Z3∘Zao∘Zar∘ZbG∘Zbs∘Zbz∘Z8∘Zbs∘ZcW∘Zi∘Zau∘Zb2∘Zb2∘Zb2∘Zi∘Zby∘Zb8∘Z5∘ZaT) ?_;exact yo (x:=(k,true)) (k+1,true) ⟨hlt,fun _=>A9 hc (zj4 T T) (hall Z),fun h=>(by cases h)⟩ G ⟨Z,Z,Z,nm⟩
     ·refine(ZbY∘Zaf∘ZU∘Zb∘Zi∘Z3∘Zao∘Zar∘ZbG∘Zbs∘Zbz∘Z8∘Zbs∘ZcO∘Zi∘Z8∘Zbs∘Zbz∘Z8∘Zbs∘ZcO∘Zi∘Zi∘Zby∘Zb8∘Z5∘ZaT) ?_;exact yo (x:=(k,true)) (k+1,false) ⟨hlt,fun h=>(by cases h),fun _=>E9 hc (zj5 T)⟩ G ⟨Z,Z,Z,nm⟩
    ·by_cases a2:48<=(c.toNat:Int)
     ·by_cases a3:(c.toNat:Int)<=57
      ·refine(ZbY∘Zaf∘ZU∘Zb∘Zi∘Z3∘Zao∘Zar∘ZbG∘Zbs∘Za6∘Zau∘Zi∘Z8∘Zbs∘Zbz∘Z8∘Zbs∘ZcW∘Zi∘Zi∘Zby∘Zb8∘Z5∘ZaT) ?_;exact yo (x:=(k,true)) (k+1,true) ⟨hlt,fun _=>A9 hc (zj3 T T) (hall Z),fun h=>(by cases h)⟩ G ⟨Z,Z,Z,nm⟩
      ·refine(ZbY∘Zaf∘ZU∘Zb∘Zi∘Z3∘Zao∘Zar∘ZbG∘Zbs∘Za6∘Zau∘Zi∘Z8∘Zbs∘Zbz∘Z8∘Zbs∘ZcO∘Zi∘Zi∘Zby∘Zb8∘Z5∘ZaT) ?_;exact yo (x:=(k,true)) (k+1,false) ⟨hlt,fun h=>(by cases h),fun _=>E9 hc (zj6 T T)⟩ G ⟨Z,Z,Z,nm⟩
     ·refine(ZbY∘Zaf∘ZU∘Zb∘Zi∘Z3∘Zao∘Zar∘ZbG∘Zbs∘Za6∘Zau∘Zi∘Z8∘Zbs∘Za6∘Zau∘Zi∘Zi∘Zby∘Zb8∘Z5∘ZaT) ?_;exact yo (x:=(k,true)) (k+1,false) ⟨hlt,fun h=>(by cases h),fun _=>E9 hc (zj7 T T)⟩ G ⟨Z,Z,Z,nm⟩
  ·cases b with
   | false=>
    refine(ZbY∘Zaf∘Z0∘Za∘Za4∘Za5∘Ze∘ZL∘Zx∘Zu∘Zc) ?_;refine yj1 L [.tmp 2] fun u H hH hle=>?_;exact nh _ (hbad Z).symm
   | true=>
    refine(ZbY∘Zaf∘Z0∘Za∘Za4∘Za5∘Ze∘ZL∘Zn∘Zy∘Zc) ?_;refine yj1 L [.tmp 2] fun u H hH hle=>?_;exact nh _ (Y5 h1 h2 (Rf T (hall Z))).symm
 ·have hbad:=Ol h0;by_cases h1:1<=s.size
  ·have h2:16<s.size:=T;refine(Zc2∘Zaf∘ZP∘Zb∘Zaf∘ZcO∘Zi∘Zk∘Zv∘ZaX) ?_;refine xp (fun _:Unit=>[(0,.is (.string s)),(3,.is (.bool false)),(4,.is (.int .i64 0))]) (fun _=>True) (fun _=>0) () trivial ⟨Z,Z,Z,nm⟩ ?_;rintro _ _;refine(ZbY∘Zaf∘ZU∘Zb∘Zi∘Za5∘Ze∘ZL∘Zx∘Zu∘Zc) ?_;refine yj1 L [.tmp 2] fun u H hH hle=>?_;exact nh _ hbad.symm
  ·refine(Zc2∘Zaf∘ZM∘Zcl∘Zk∘Zv∘ZaX) ?_;refine xp (fun _:Unit=>[(0,.is (.string s)),(3,.is (.bool false)),(4,.is (.int .i64 0))]) (fun _=>True) (fun _=>0) () trivial ⟨Z,Z,Z,nm⟩ ?_;rintro _ _;refine(ZbY∘Zaf∘Z0∘Za∘Za4∘Za5∘Ze∘ZL∘Zx∘Zu∘Zc) ?_;refine yj1 L [.tmp 2] fun u H hH hle=>?_;exact nh _ hbad.symm
def max2(a b:ByteArray):(if chk b>chk a then chk b else chk a)=ff [a,b]:=by
 simp only[ff];rcases wu a with h | h<;>rcases wu b with h' | h'<;>simp [h,h']
def znr(a b c:ByteArray):(if chk c>ff [a,b] then chk c else ff [a,b])=ff [a,b,c]:=by
 simp only[ff];rcases wu a with h | h<;>rcases wu b with h' | h'<;>rcases wu c with h'' | h''<;>simp [h,h',h'']
def ou(ha:a.size<=9223372036854775807)(hb:b.size<=9223372036854775807)(hB:zs4 B w):
  Ret zs5 231 [.agg #[.string a,.string b]] w B (fun v _=>v=.int .i64 (ff [a,b])):=by
 refine yr Tryz.func231 Z Tryz.ntmps231 (np Z) hB ((ZD∘Zd∘ZcC∘Zbu) ?_);refine z81 L Z (fun u H hH _=>iy (by first | omega | decide) hH) ?_;refine Zbu (h:=?_);refine z81 L Z (fun u H hH _=>iy (by first | omega | decide) hH) ?_;refine z8 (ry Z Z Z Z Z) Z (ZaS (h:=?_));refine yj1 L [.tmp 2] fun u H hH hle=>?_;exact nh _ (max2 a b)
def U7(ha:a.size<=9223372036854775807)(hb:b.size<=9223372036854775807)(hc:c.size<=9223372036854775807)(hB:zs4 B w):
  Ret zs5 176 [.agg #[.string a,.string b,.string c]] w B (fun v _=>v=.int .i64 (ff [a,b,c])):=by
 refine yr Tryz.func176 Z Tryz.ntmps176 (np Z) hB ((ZD∘Zd∘ZcC∘Zbt∘Zdl) ?_);refine z81 L Z (fun u H hH _=>ou Q Q hH) ?_;refine Zbu (h:=?_);refine z81 L Z (fun u H hH _=>iy (by first | omega | decide) hH) ?_;refine z8 (ry Z Z Z Z Z) Z (ZaS (h:=?_));refine yj1 L [.tmp 2] fun u H hH hle=>?_;exact nh _ (znr a b c)
def _root_.ZcH(t:Wr Y->A:=by intro h;refine qn (id:=3) [] ko J ?_;exact h.1)(h:Y):A:=t ⟨h⟩
def _root_.ZbK(t:Wr Y->A:=by exact fun h=>(ZT∘Zx) h.1)(h:Y):A:=t ⟨h⟩
def zb1(h:c.size=0):c=⟨#[]⟩:=by
 obtain⟨⟨l⟩⟩:=c;have h':l.length=0:=h;rw[zow h']
def K5(ha:a.size<=9223372036854775807)(hb:b.size<=9223372036854775807)(hc:c.size<=9223372036854775807)(hB:zs4 B w):
  Ret zs5 177 [.agg #[.string a,.string b,.string c]] w B (fun v _=>v=.int .i64 (bu a b c)):=by
 refine yr Tryz.func177 Z Tryz.ntmps177 (np Z) hB ?_;by_cases h:c.size=0
 ·refine(ZD∘ZH∘Zo∘Zaf∘ZN∘Zn∘Zv∘Zba) ?_;refine z71 L Z (fun u H hH _=>ou Q Q hH) ?_;refine Zc (h:=?_);refine yj1 L [.tmp 2] fun u H hH hle=>?_;exact nh (Value.int .i64) (show ff [a,b]=bu a b c from(na (zb1 h)).symm)
 ·refine(ZD∘ZH∘Zo∘Zaf∘ZbK∘ZcH∘Zbt∘Zdl) ?_;refine z81 L Z (fun u H hH _=>ou Q Q hH) ?_;refine Zbu (h:=?_);refine z81 L Z (fun u H hH _=>iy (by first | omega | decide) hH) ?_;refine z8 (ry Z Z Z Z Z) Z (ZaS (h:=?_));refine yj1 L [.tmp 2] fun u H hH hle=>?_;exact nh (Value.int .i64) ((znr a b c).trans (show ff [a,b,c]=bu a b c from(nc (fun e=>h (by subst e;rfl))).symm))
end Go.V
namespace Go.V.L2
def _root_.Zbb(t:Wr Y->A:=by intro h;refine z8 (zz L (vs:=[_,_,_,_,_,_]) (qp Z) Z Z Z Z ⟨_,rfl⟩) Z ?_;exact h.1)(h:Y):A:=t ⟨h⟩
def Bp:∀ (l:List ByteArray),ff l=0\/ff l=6
 | []=>.inl rfl
 | s::l=>by
  simp only[ff];split
  ·exact Bp l
  ·rename_i h;exact .inr ((wu s).resolve_left h)
def Kf(a b c:ByteArray):bu a b c=0\/bu a b c=6:=by
 unfold bu;split<;>exact Bp _
def zjh(t:U):(if bu t.2.1.1 t.2.1.2 t.2.2>ff [t.1.1.1,t.1.1.2,t.1.2] then bu t.2.1.1 t.2.1.2 t.2.2 else ff [t.1.1.1,t.1.1.2,t.1.2])=tE t:=by
 unfold tE;rcases Bp [t.1.1.1,t.1.1.2,t.1.2] with h | h<;>rcases Kf t.2.1.1 t.2.1.2 t.2.2 with h' | h'<;>rw[h,h']<;>decide
def eqU{t v:U}{r:Bool}(e:decide (t=v)=r):ib [0,0,0,0,0,0] [.string t.1.1.1,.string t.1.1.2,.string t.1.2,.string t.2.1.1,.string t.2.1.2,.string t.2.2] [.string v.1.1.1,.string v.1.1.2,.string v.1.2,.string v.2.1.1,.string v.2.1.2,.string v.2.2]=some r:=by
 subst e;simp only[ib,eqC];have h:=@zn4 t v;by_cases hh:t=v
 ·subst hh;simp
 ·rw[ng hh];have h':=fun x=>hh (h.1 x);by_cases a1:t.1.1.1=v.1.1.1
  ·by_cases a2:t.1.1.2=v.1.1.2
   ·by_cases a3:t.1.2=v.1.2
    ·by_cases a4:t.2.1.1=v.2.1.1
     ·by_cases a5:t.2.1.2=v.2.1.2
      ·by_cases a6:t.2.2=v.2.2
       ·exact ni ⟨a1,a2,a3,a4,a5,a6⟩ h'
       ·simp [a6]
      ·simp [a5]
     ·simp [a4]
    ·simp [a3]
   ·simp [a2]
  ·simp [a1]
def eq3{g h:Dx}{r:Bool}(e:decide (g=h)=r):ib [0,0,0] [.string g.1.1,.string g.1.2,.string g.2] [.string h.1.1,.string h.1.2,.string h.2]=some r:=
 zm0 (by rw[<-e];exact decide_eq_decide.2 ⟨fun⟨a,b,c⟩=>Prod.ext (Prod.ext a b) c,fun e=>by subst e;exact⟨rfl,rfl,rfl⟩⟩)
def Q1{a b:U}(h:a.1≠b.1):kw a b=Mv a.1 b.1:=by
 unfold kw t7;rw[A0,if_neg fun e=>h (cmp3_ord.eq _ _ e)]
def Yv{a b:U}(h:a.1=b.1):kw a b=Mv a.2 b.2:=by
 unfold kw t7;rw[A0,if_pos (by rw[h];exact cmp3_ord.refl _)]
def ei{l:List α}{g:α}(h:l[k]?=some g):l.take (k+1)=l.take k++[g]:=by rw[zpa,h];rfl
def ax{l:List α}{g:α}(h:l[k]?=some g):l.drop k=g::l.drop (k+1):=by
 obtain⟨hl,he⟩:=zp0.1 h;rw[zpu hl,he]
def v7{r:List U}{t:U}(h:κ s=some (.own (SlR tyU 6 (r.length+1) (r.flatMap ucs++[.string t.1.1.1,.string t.1.1.2,.string t.1.2,.string t.2.1.1,.string t.2.1.2,.string t.2.2])))):κ s=some (.own (SlR tyU 6 (r++[t]).length ((r++[t]).flatMap ucs))):=by
 rw[h,zpo,nr];rfl
def dm{t:U}(hz:TZ t)(hB:zs4 B w):Ret zs5 109 [uv t] w B (fun v _=>v=.int .i64 (tE t)):=by
 obtain⟨⟨z1,z2,z3⟩,z4,z5,z6⟩:=hz;have hm:=zjh t;refine yr Tryz.func109 Z Tryz.ntmps109 (np Z) hB ((ZD∘Zd∘ZcC∘Zbt∘Zd6) ?_);refine z81 L Z (fun u H hH _=>U7 Q Q Q hH) ?_;refine(Zbt∘Zd6) ?_;refine z81 L Z (fun u H hH _=>K5 Q Q Q hH) ?_;refine z8 (ry Z Z Z Z M) Z (ZaS (h:=?_));exact yj2 L [.tmp 2]
def K4{a b:U}(ha:TZ a)(hb:TZ b)(hB:zs4 B w):Ret zs5 108 [uv a,uv b] w B (fun v _=>v=.int .i64 (kw a b)):=by
 obtain⟨⟨z1,z2,z3⟩,z4,z5,z6⟩:=ha;obtain⟨⟨y1,y2,y3⟩,y4,y5,y6⟩:=hb;refine yr Tryz.func108 Z Tryz.ntmps108 (np Z) hB ?_;by_cases h:a.1=b.1
 ·have hq:=eq3 (nf h);rw[Yv h];refine(Zal∘ZH∘Zbn∘Zbn) ?_;refine z7 (C6 Z Z Z Z znu M Z) Z ((Zx∘Z6∘Zbn∘Zbn) ?_);refine z71 L Z (fun u H hH _=>Va Q Q Q Q Q Q hH) ?_;refine Zc (h:=?_);exact yj2 L [.tmp 4]
 ·have hq:=eq3 (ng h);rw[Q1 h];refine(Zal∘ZH∘Zbn∘Zbn) ?_;refine z7 (C6 Z Z Z Z znu M Z) Z ((Zn∘Zv∘Zbn∘Zbn) ?_);refine z71 L Z (fun u H hH _=>Vb Q Q Q Q Q Q hH) ?_;refine Zc (h:=?_);exact yj2 L [.tmp 4]
def wv{l:List U}{t:U}(hl:l.length<=1000000){e:Int}(he:(if t∈l then 1 else 0:Int)=e){v:Value}(hB:zs4 B w)(hv:US l fu v B):
  Ret zs5 107 [v,uv t] w B (fun v _=>v=.int .i64 e):=by
 subst he;refine yr Tryz.func107 Z Tryz.ntmps107 (np Z) hB (k7 0 (US l fu) Z ns hv ((ZD∘ZH∘ZaX) ?_))
 refine xp (fun i:Nat=>[(0,.sat (US l fu)),(3,.sat (At [.string t.1.1.1,.string t.1.1.2,.string t.1.2,.string t.2.1.1,.string t.2.1.2,.string t.2.2] tyU 0)),(5,.is (.int .i64 i))])
  (fun i=>i<=l.length/\(t∈l↔t∈l.drop i)) (fun i=>l.length-i) 0 ⟨mb _,Iff.rfl⟩ ⟨rfl,rfl,rfl,nm⟩ ?_
 rintro i ⟨hi,he⟩;by_cases hlt:i<l.length
 ·obtain⟨y,hy⟩:=xm hlt;have hc:=pg hy;rw[ax hy] at he;by_cases hyt:y=t
  ·have hq:=eqU (nf hyt);rw[na (he.2 (by rw[hyt];exact mc ..))];refine(Zf∘Zz∘Zj∘ZbJ∘Zda∘ZaM∘Zbb) ?_;refine z8 (C7 Z Z Z Z zm1 M Z) Z ((ZbW∘Ze∘Z1∘Zc) ?_);exact yj2 L [.tmp 4]
  ·have hq:=eqU (ng hyt);refine(Zf∘Zz∘Zj∘ZbJ∘Zda∘ZaM∘Zbb) ?_;refine z8 (C7 Z Z Z Z zm1 M Z) Z ((ZaL∘Zds∘Zb8∘Zr∘ZaT) ?_);exact yo (x:=i) (i+1) ⟨hlt,he.trans ⟨fun h=>(ma.1 h).resolve_left fun e=>hyt e.symm,fun h=>mh _ h⟩⟩ T ⟨Z,Z,Z,nm⟩
 ·obtain rfl:i=l.length:=by omega
  rw[zq5] at he;rw[nc fun h=>by cases he.1 h];refine(Zf∘Zz∘Zj∘Z0∘Za5∘ZO∘Zc) ?_;exact yj2 L [.tmp 4]
end Go.V.L2
namespace Go.V.Top
open Go.V.L2
def _root_.Zfi(t:Wr Y->A:=by intro h;refine z8 (C6 Z Z Z Z zm1 M Z) Z ?_;exact h.1)(h:Y):A:=t ⟨h⟩
def _root_.ZbZ(t:Wr Y->A:=by exact fun h=>(Zbf∘ZV) h.1)(h:Y):A:=t ⟨h⟩
def ip{a b:List U}{fa fb:Bool}(hla:a.length<=1000000)(hlb:b.length<=1000000){e:Int}(he:(if a=b then 1 else 0:Int)=e){va vb:Value}(hB:zs4 B w)(ha:US a fa va B)(hb:US b fb vb B):
  Ret zs5 33 [va,vb] w B (fun v _=>v=.int .i64 e):=by
 subst he;refine yr Tryz.func33 Z Tryz.ntmps33 (np Z) hB (k7 0 (US a fa) Z ns ha (k7 1 (US b fb) Z ns hb ?_));by_cases hlen:a.length=b.length
 ·refine(ZQ∘ZH∘Zj∘Zj∘ZbZ∘Z6∘ZaX) ?_
  refine xp (fun i:Nat=>[(0,.sat (US a fa)),(1,.sat (US b fb)),(5,.is (.int .i64 i))])
   (fun i=>i<=a.length/\a.take i=b.take i) (fun i=>a.length-i) 0 ⟨mb _,rfl⟩ ⟨rfl,rfl,rfl,nm⟩ ?_
  rintro i ⟨hi,he⟩;by_cases hlt:i<a.length
  ·obtain⟨x,hx⟩:=xm hlt;obtain⟨y,hy⟩:=xm (show i<b.length by omega);have hcx:=pg hx;have hcy:=pg hy;by_cases hxy:x=y
   ·have hq:=eqU (nf hxy);refine(Zf∘Z5∘Zj∘ZbJ∘ZcG∘ZaM∘ZaM∘Zfi∘ZaL∘Zds∘Zb8∘ZS∘ZaT) ?_;exact yo (x:=i) (i+1) ⟨hlt,by rw[ei hx,ei hy,he,hxy]⟩ T ⟨Z,Z,Z,nm⟩
   ·have hq:=eqU (ng hxy);have h1:a≠b:=fun e=>by subst e;rw[hx] at hy;exact hxy (Option.some.inj hy)
    rw[nc h1];refine(Zf∘Z5∘Zj∘ZbJ∘ZcG∘ZaM∘ZaM∘Zfi∘ZbW∘Ze∘Zy∘Zc) ?_;exact yj2 L [.tmp 4]
  ·obtain rfl:i=a.length:=by omega
   have h1:a=b:=by rw[zoy,hlen,zoy] at he;exact he
   rw[na h1];refine(Zf∘Z5∘Zj∘Z0∘Za5∘Zu∘Zc) ?_;exact yj2 L [.tmp 4]
 ·have h1:a≠b:=fun e=>hlen (by rw[e]);rw[nc h1];refine(ZQ∘ZH∘Zj∘Zj∘Za0∘Zv∘Zc) ?_;exact yj2 L [.tmp 4]
end Go.V.Top
namespace Go.V
def noB(s:ByteArray)(c:UInt8):Prop:=c∉s.data.toList
def uc(a b:ByteArray):(a++b).data.toList=a.data.toList++b.data.toList:=by
 rw[ByteArray.data_append,Array.toList_append]
def cy(h:a.data.toList=b.data.toList):a=b:=by
 obtain⟨⟨x⟩⟩:=a;obtain⟨⟨y⟩⟩:=b;simp at h;subst h;rfl
def ba_of(a:ByteArray):(⟨a.data.toList.toArray⟩:ByteArray)=a:=by obtain⟨⟨l⟩⟩:=a;rfl
def zlg(h:ff [a,b]=0):chk a=0/\chk b=0:=by
 simp only[ff] at h;rcases wu a with h1 | h1<;>rcases wu b with h2 | h2<;>simp [h1,h2] at h |-
def Tw(h:ff [a,b,c]=0):chk a=0/\chk b=0/\chk c=0:=by
 simp only[ff] at h;rcases wu a with h1 | h1<;>rcases wu b with h2 | h2<;>rcases wu c with h3 | h3<;>simp [h1,h2,h3] at h |-
def tg(h:bu a b c=0):chk a=0/\chk b=0/\(c=⟨#[]⟩\/chk c=0):=by
 unfold bu at h;split at h
 ·rename_i hc;exact⟨(zlg h).1,(zlg h).2,.inl hc⟩
 ·exact⟨(Tw h).1,(Tw h).2.1,.inr (Tw h).2.2⟩
def zgb(s:ByteArray)(c:UInt8):noB s c\/∃ a b,s=a++⟨#[c]⟩++b/\noB a c:=by
 by_cases h:c∈s.data.toList
 ·obtain⟨p,q,e,hp⟩:=List.eq_append_cons_of_mem h;refine .inr ⟨⟨p.toArray⟩,⟨q.toArray⟩,cy ?_,by unfold noB;simpa using hp⟩;rw[uc,uc,e];simp
 ·exact .inl h
def Yk(p q r:ByteArray)(i j:Nat)(hi:i=p.size)(hj:j=p.size+q.size):(p++q++r).extract i j=q:=by
 subst hi hj;apply cy;rw[ByteArray.data_extract,Array.toList_extract,List.extract,uc,uc];have h1:p.data.toList.length=p.size:=ud p;have h2:q.data.toList.length=q.size:=ud q;rw[mw,<-h1,zr6,List.take_left' T]
end Go.V
end
namespace Go.V.L11
abbrev sNl:ByteArray:=⟨#[10]⟩
def T4:List UInt8->List UInt8->List (List UInt8)
 | acc,[]=>if acc=[] then [] else [acc]
 | acc,c::l=>if c=10 then (acc++[c])::T4 [] l else T4 (acc++[c]) l
def Xs:∀ {l acc:List UInt8},10∉l->T4 acc l=if acc++l=[] then [] else [acc++l]
 | [],acc,_=>by rw[mq];rfl
 | c::l,acc,h=>by
  rw[ma,not_or] at h;show(if c=10 then _ else _)=_;rw[nc (Ne.symm h.1),Xs h.2,mw];rfl
def Qk:∀ {a b acc:List UInt8},10∉a->T4 acc (a++10::b)=(acc++a++[10])::T4 [] b
 | [],b,acc,_=>by rw[mq];exact na rfl
 | c::a,b,acc,h=>by
  rw[ma,not_or] at h;show(if c=10 then _ else _)=_;rw[nc (Ne.symm h.1)];refine(Qk (a:=a) (b:=b) (acc:=acc++[c]) h.2).trans ?_;simp
def a7(s:ByteArray):List ByteArray:=(T4 [] s.data.toList).map fun l=>⟨l.toArray⟩
def Gt:a7 ⟨#[]⟩=[]:=rfl
def ba_of(s:ByteArray):(⟨s.data.toList.toArray⟩:ByteArray)=s:=by cases s;simp
def zhi{s:ByteArray}(h:noB s 10)(hn:s≠⟨#[]⟩):a7 s=[s]:=by
 unfold a7;rw[Xs h,mj,nc (fun e=>hn (cy e)),mz,zph,ba_of]
def zcr(h:noB a 10):a7 (a++sNl++b)=(a++sNl)::a7 b:=by
 unfold a7;have e:(a++sNl++b).data.toList=a.data.toList++10::b.data.toList:=by simp [uc]
 rw[e,Qk h,mz,mj];congr 1
def Mt(x:ByteArray):Option ByteArray:=if x.data.toList.getLast?=some 10 then some ⟨x.data.toList.dropLast.toArray⟩ else none
def Md{x r:ByteArray}(h:Mt x=some r):x=r++sNl:=by
 unfold Mt at h;split at h
 ·rename_i hl;cases h;apply cy;rw[uc];obtain⟨ys,hy⟩:=List.getLast?_eq_some_iff.1 hl;show x.data.toList=x.data.toList.dropLast.toArray.toList++[10];rw[hy];simp
 ·cases h
def tn{X:Type}(rd:ByteArray->X×Int):List X->Nat->List ByteArray->List X×Nat×Int
 | out,_,[]=>(out,0,0)
 | out,n,x::xs=>if 4096<n then ([],n,3) else match Mt x with
  | none=>([],n,5)
  | some r=>if (rd r).2≠0 then ([],n,(rd r).2) else tn rd (out++[(rd r).1]) (n+1) xs
def zax{X:Type}(rd:ByteArray->X×Int)(s:ByteArray):List X×Nat×Int:=if 1048576<s.size then ([],0,3) else tn rd [] 1 (a7 s)
def Hl{X:Type}(rd:ByteArray->X×Int)(n:Nat)(x:ByteArray):Bool:=decide (4096<n) || match Mt x with | none=>true | some r=>(rd r).2 != 0
def um{X:Type}(rd:ByteArray->X×Int):Nat->List ByteArray->Bool
 | _,[]=>true
 | n,x::xs=>!Hl rd n x && um rd (n+1) xs
def D4{X:Type}(rd:ByteArray->X×Int)(xs:List ByteArray):List X:=xs.filterMap fun x=>(Mt x).map fun r=>(rd r).1
def ew{X:Type}{rd:ByteArray->X×Int}:∀ {xs ys:List ByteArray} {out:List X} {n:Nat},um rd n xs=true->tn rd out n (xs++ys)=tn rd (out++D4 rd xs) (n+xs.length) ys
 | [],ys,out,n,_=>by simp [D4]
 | x::xs,ys,out,n,h=>by
  unfold um at h;rw[zo5] at h;obtain⟨h1,h2⟩:=h;unfold Hl at h1;simp only[zre,Bool.or_eq_false_iff,decide_eq_false_iff_not] at h1;obtain⟨h3,h4⟩:=h1
  have e:tn rd out n (x::xs++ys)=if 4096<n then ([],n,3) else match Mt x with
   | none=>([],n,5)
   | some r=>if (rd r).2≠0 then ([],n,(rd r).2) else tn rd (out++[(rd r).1]) (n+1) (xs++ys):=rfl
  rw[e,nc h3]
  cases hx:Mt x with
  | none=>rw[hx] at h4;cases h4
  | some r=>
   rw[hx] at h4;have h5:¬ (rd r).2≠0:=by simpa using h4
   dsimp only;rw[nc h5,ew h2]
   have e2:D4 rd (x::xs)=(rd r).1::D4 rd xs:=by
    unfold D4;rw[List.filterMap_cons,hx];rfl
   rw[e2,mw,nz,show n+1+xs.length=n+(xs.length+1) by omega];rfl
def dc{X:Type}{rd:ByteArray->X×Int}{y:ByteArray}:∀ {ls:List ByteArray} {n:Nat},um rd n (ls++[y])=(um rd n ls && !Hl rd (n+ls.length) y)
 | [],n=>by simp [um]
 | x::ls,n=>by
  show(!Hl rd n x && um rd (n+1) (ls++[y]))=((!Hl rd n x && um rd (n+1) ls) && _);rw[dc,nz,show n+1+ls.length=n+(ls.length+1) by omega,Bool.and_assoc]
def Nx{X:Type}(rd:ByteArray->X×Int):Nat->List ByteArray->List X
 | _,[]=>[]
 | n,x::xs=>if Hl rd n x=true then [] else D4 rd [x]++Nx rd (n+1) xs
def ey{X:Type}{rd:ByteArray->X×Int}{ys:List ByteArray}:∀ {ls:List ByteArray} {n:Nat},um rd n ls=true->Nx rd n (ls++ys)=D4 rd ls++Nx rd (n+ls.length) ys
 | [],n,_=>by simp [D4]
 | x::ls,n,h=>by
  unfold um at h;rw[zo5] at h;have h1:Hl rd n x=false:=by simpa using h.1
  show(if Hl rd n x=true then [] else D4 rd [x]++Nx rd (n+1) (ls++ys))=_;rw[nc (by rw[h1];decide),ey h.2,nz,show n+1+ls.length=n+(ls.length+1) by omega,<-mw];congr 1;unfold D4;rw[<-List.filterMap_append];rfl
def Nv{X:Type}{rd:ByteArray->X×Int}(h:um rd 1 ls=true):tn rd [] 1 ls=(D4 rd ls,0,0):=by
 have:=ew (rd:=rd) (xs:=ls) (ys:=[]) (out:=[]) h;rw[mq] at this;rw[this];rfl
def Nw{X:Type}{rd:ByteArray->X×Int}(h:um rd 1 ls=true):Nx rd 1 ls=D4 rd ls:=by
 have:=ey (rd:=rd) (ys:=[]) h;rw[mq] at this;rw[this];exact mq _
def T9{X:Type}{rd:ByteArray->X×Int}{y:ByteArray}(h:Mt y=some r):D4 rd (ls++[y])=D4 rd ls++[(rd r).1]:=by
 unfold D4;rw[List.filterMap_append];congr 1;simp [h]
def Pe{X:Type}{rd:ByteArray->X×Int}:(D4 rd ls).length<=ls.length:=List.length_filterMap_le ..
def Gg{X:Type}{rd:ByteArray->X×Int}{y:ByteArray}(h:um rd 1 ls=true)(hn:4096<1+ls.length):tn rd [] 1 (ls++y::ys)=([],1+ls.length,3):=by
 rw[ew h];exact na hn
def Cu{X:Type}{rd:ByteArray->X×Int}{y:ByteArray}(h:um rd 1 ls=true)(hn:¬ 4096<1+ls.length)(he:Mt y=none):tn rd [] 1 (ls++y::ys)=([],1+ls.length,5):=by
 rw[ew h];unfold tn;rw[nc hn,he]
def Gh{X:Type}{rd:ByteArray->X×Int}{y:ByteArray}(h:um rd 1 ls=true)(hn:¬ 4096<1+ls.length)(he:Mt y=some r)(hr:(rd r).2≠0):tn rd [] 1 (ls++y::ys)=([],1+ls.length,(rd r).2):=by
 rw[ew h];unfold tn;rw[nc hn,he];exact na hr
def zb7{X:Type}{rd:ByteArray->X×Int}{ls ys:List ByteArray}{y:ByteArray}(h:um rd 1 ls=true)(hb:Hl rd (1+ls.length) y=true):tn rd [] 1 (ls++y::ys)=tn rd [] 1 (ls++[y]):=by
 by_cases hn:4096<1+ls.length
 ·rw[Gg h hn,Gg h hn]
 ·cases he:Mt y with
  | none=>rw[Cu h hn he,Cu h hn he]
  | some r=>
   have hr:(rd r).2≠0:=by
    unfold Hl at hb;rw[he] at hb;simpa [hn] using hb
   rw[Gh h hn he hr,Gh h hn he hr]
def Df:∀ {l acc x:List UInt8},x∈T4 acc l->x.length<=acc.length+l.length
 | [],acc,x,h=>by
  have h':x∈if acc=[] then ([]:List (List UInt8)) else [acc]:=h
  split at h'
  ·cases h'
  ·rw[m7] at h';subst h';simp
 | c::l,acc,x,h=>by
  have h':x∈if c=10 then (acc++[c])::T4 [] l else T4 (acc++[c]) l:=h
  rw[nz];split at h'
  ·rcases ma.1 h' with rfl | h2
   ·simp
   ·have:=Df h2;simp at this;omega
  ·have:=Df h';simp at this;omega
def Xt{s y:ByteArray}(h:y∈a7 s):y.size<=s.size:=by
 unfold a7 at h;obtain⟨l,hl,rfl⟩:=zoz.1 h;have:=Df hl;rw[ud] at this;show l.toArray.size<=_;simpa using this
def Pz{X:Type}{rd:ByteArray->X×Int}:∀ {xs:List ByteArray} {n:Nat} {out:List X},um rd n xs=false->(tn rd out n xs).1=[]
 | [],_,_,h=>by cases h
 | x::xs,n,out,h=>by
  unfold um at h;unfold tn;by_cases hn:4096<n
  ·rw[na hn]
  ·rw[nc hn]
   cases he:Mt x with
   | none=>rfl
   | some r=>
    dsimp only;by_cases hr:(rd r).2≠0
    ·rw[na hr]
    ·rw[nc hr]
     have hb:Hl rd n x=false:=by
      unfold Hl;rw[he];simp at hr;simp [hn,hr]
     rw[hb] at h;exact Pz (by simpa using h)
end Go.V.L11
namespace Go.V
def zlr(P:Program)(f:FuncId)(caps:List Value)(gr:GR)(w:World)(B:Heap)(xs:wm):Prop:=
 ∀ (l:Nat) (zsy:wm->GR) (stop:wm->Bool) (C Cg:Nat->Prop),stop []=false->Dw P l zsy stop xs->(zsy []).P B w C->(ZCB C w B)->gr.P B w Cg->(ZCB Cg w B)->(∀ k,C k->¬ Cg k)->
  RetL P f (.func (.yield l) #[] #[]::caps) w B (fun k=>C k\/Cg k) fun _ H u=>∃ C',(zsy (ju stop [] xs)).P H u C'/\∀ k,C' k->((C k\/Cg k)\/w.heap.size<=k)/\k<u.heap.size/\H k=none
section
variable             {a:Act}      
def JcX(Cg:Nat->Prop)(F:Fr)(B:Heap)(n:Nat)(a0:Act)(H0:Heap)(N1:Nat)(O':wm->Boxes)(K:wm->Kap)(pre:wm):GR where
 P Hit u C:=∃ Hc fp,HasH F B (O' pre) n (K pre) a0 u Hc fp/\H0.Le Hc/\H0.Le Hit/\(∀ y∈O' pre,y.1<N1)/\N1<=u.heap.size/\F.w0.heap.size<=N1/\
  (∀ k,Cg k->k<N1/\(F.w0.heap.size<=k\/F.L k)/\Hc k=none)/\(∀ y∈O' pre,¬ Cg y.1)/\(∀ t r k,K pre t=some (.own r)->fp t k->¬ Cg k)/\
  (∀ k,C k↔(k<N1/\H0 k=none/\¬ Cg k)\/(N1<=k/\((Hc k).isSome=true\/∃ t r,K pre t=some (.own r)/\fp t k)))
 st:=by
  rintro Hit u C Hit' u' ⟨Hc,fp,hh,h1,h2,h3,h4,h5,hx1,hx2,hx3,hC⟩ hle hsub hon hk
  have hCt:∀ t r k,K pre t=some (.own r)->fp t k->C k:=fun t r k ht hf=>by
   rw[hC];rcases m5 k N1 with hlt | hge
   ·refine .inl ⟨hlt,?_,hx3 t r k ht hf⟩;have:=((hh.slot t _ ht).2 k hf).2.1
    cases hx:H0 k with
    | none=>rfl
    | some o=>rw[h1 k o hx] at this;cases this
   ·exact .inr ⟨hge,.inr ⟨t,r,ht,hf⟩⟩
  have hCb:∀ y∈O' pre,C y.1:=fun y hy=>by
   rw[hC];refine .inl ⟨h3 y hy,?_,hx2 y hy⟩;have:=(hh.boxes y hy).2.1
   cases hx:H0 y.1 with
   | none=>rfl
   | some o=>rw[h1 _ o hx] at this;cases this
  have hold:∀ k o,H0 k=some o->u'.heap[k]?=u.heap[k]?:=fun k o ho=>
   ((hsub k o (hle k o (h2 k o ho))):u'.heap[k]?=some o).trans ((hh.sub k o (h1 k o ho)):u.heap[k]?=some o).symm
  have hsub':Hc.Le (hp u'):=fun k o ho=>by
   show u'.heap[k]?=some o
   cases hx:H0 k with
   | some o'=>rw[hold k o' hx];exact hh.sub k o ho
   | none=>
    rw[hk k ((hC k).2 ?_)]
    ·exact hh.sub k o ho
    ·rcases m5 k N1 with hlt | hge
     ·exact .inl ⟨hlt,hx,fun hg=>by rw[(hx1 k hg).2.2] at ho;cases ho⟩
     ·exact .inr ⟨hge,.inl (by rw[ho];rfl)⟩
  refine⟨Hc,fp,⟨hh.size,hh.defers,hh.nodup,hh.marks,hh.lent,?_,hsub',hh.base,hh.fresh,fun y hy=>?_,hh.apart,fun t k ht=>?_,hh.owns,hh.mono⟩,h1,h2.trans hle,h3,mp h4 hon.size,h5,hx1,hx2,hx3,hC⟩
  ·refine⟨hon.os.trans hh.keep.os,hon.tape.trans hh.keep.tape,hon.output.trans hh.keep.output,mp hh.keep.size hon.size,fun k hk' hl=>?_,mp hh.keep.dr hon.dr⟩;refine Eq.trans ?_ (hh.keep.block k hk' hl)
   cases hx:H0 k with
   | some o=>exact hold k o hx
   | none=>exact hk k ((hC k).2 (.inl ⟨by omega,hx,fun hg=>by
     rcases(hx1 k hg).2.1 with h | h
     ·omega
     ·exact hl h⟩))
  ·obtain⟨g1,g2,g3⟩:=hh.boxes y hy;exact⟨(hk _ (hCb y hy)).trans g1,g2,g3⟩
  ·have hs:=hh.slot t k ht
   cases k with
   | is _=>exact hs
   | sat _=>exact hs
   | own r=>exact⟨r.st hs.1 (my _) hsub' hon fun k hf=>hk k (hCt t r k ht hf),fun k hf=>by
     obtain⟨g1,g2,g3,g4⟩:=hs.2 k hf;exact⟨zp4 g1 hon.size,g2,g3,g4⟩⟩
def Mp(L:Tabs P)(gi:Nat){gr:GR}{f:Operand}{params:Array Tmp}{assign body:Code}{gf:Nat}{caps:List Value}
  (fx:List (Nat×Value)) (zs2:wm→List (Nat×Res)) (K1:wm→List Value→List (Nat×Kn)) (xs:wm) (stop:wm→Bool) (jc:wm→Code)
  (hr:F.r=none) (hf:evK κ f=some (.func (.func gf) #[] caps.toArray)) (hfn:L.fn gf=some ())
  (hgi:κ gi=some (.own gr.res)) (hGi:∀ pre,∀ p∈zs2 pre,p.1≠gi) (h0:LiveOK (gK' (zs2 [])++ze9 fx) κ) (hG:∀ pre,∀ p∈zs2 pre,n≤p.1) (hst0:stop []=false)
  (hps:∀ x∈xs,x.length=params.size) (hpn:∀ t∈params.toList,t<n)
  (hit:∀ u H,H.Le (hp u)→B.Le H→zlr P gf caps gr u H xs)
  (hassign:∀ (w1:World) (Ln:Nat→Prop) (B':Heap) (l D:Nat) (o:Obj) (pre:wm) (x:List Value),pre++[x]<+:xs→stop pre=false→B.Le B'→
   V P ⟨w1,some l,[],Ln⟩ B' n ((l,o)::(D,.deferred (some []))::O) (zlt (KK fx (zs2 pre)) (params.toList.zip x)) assign (Exit.then (fun a u=>Has ⟨w1,some l,[],Ln⟩ B' ((l,o)::(D,.deferred (some []))::O) n (ofL (K1 pre x)) a u) (fun _ _ _=>False)))
  (hbody:∀ (w1:World) (Ln:Nat→Prop) (B':Heap) (l D:Nat) (o:Obj) (pre:wm) (x:List Value),pre++[x]<+:xs→stop pre=false→B.Le B'→
   V P ⟨w1,some l,[],Ln⟩ B' n ((l,o)::(D,.deferred (some []))::O) (ofL (K1 pre x)) body (zef ⟨w1,some l,[],Ln⟩ B' n ((l,o)::(D,.deferred (some []))::O) zs2 stop jc (pre++[x])))
  (hdone:∀ (l D:Nat) (o:Obj),stop (ju stop [] xs)=false→N ⟨F.w0,F.r,.m D::F.ds,F.L⟩ B n ((l,o)::(D,.deferred (some []))::O) (KK fx (zs2 (ju stop [] xs))) zs3)
  (hstop:∀ (l D:Nat) (o:Obj),stop (ju stop [] xs)=true→V P ⟨F.w0,F.r,.m D::F.ds,F.L⟩ B n ((l,o)::(D,.deferred (some []))::O) (KK fx (zs2 (ju stop [] xs))) (jc (ju stop [] xs)) zs3):
  V P F B n O κ (.rangeFunc f params assign body) zs3:=by
 obtain⟨w0,r,ds,Lf⟩:=F;dsimp only at hr;subst hr;rintro a u ⟨H,fp,hh⟩
 have e := hh.env (ops := #[]) (o := ⟨none, .move f, 0, "", #[], none⟩) (κ := κ) (fun _ _ => rfl)
 have hfe:a.eval f=.func (.func gf) #[] caps.toArray:=e.is_ f _ (by simp [Op.operands]) hf;refine wpIn_rangeFunc fun fn _=>?_
 --the record
 have hD0:(.loop { state:=.ready,pending:=none,fn,tmps:=a.tmps,params,assign,body,defers:=u.heap.size }:Obj)=.loop { state:=.ready,pending:=none,fn,tmps:=a.tmps,params,assign,body,defers:=u.heap.size }:=rfl;generalize hrec:({ state:=.ready,pending:=none,fn,tmps:=a.tmps,params,assign,body,defers:=u.heap.size }:Loop)=rec0 at hD0;have hh1:=(hh.newBox (.deferred (some []))).newBox (.loop rec0);rw[World.size_alloc] at hh1;generalize hw1:(u.alloc (.deferred (some []))).alloc (.loop rec0)=w1 at hh1;have hN1:w1.heap.size=u.heap.size+2:=by subst hw1;simp
 let recS:wm→Loop:=fun pre=>if stop pre=true then { rec0 with state:=.done,pending:=some (jc pre) } else rec0
 let O':wm→Boxes:=fun pre=>(u.heap.size+1,.loop (recS pre))::(u.heap.size,.deferred (some []))::O
 let F1:Fr:=⟨w0,none,[],Lf⟩
 let a0:Act:={ tmps:=a.tmps,defers:=[] }
 have hCg:=fun k (hk:fp gi k)=>((hh1.slot gi _ hgi).2 k hk)
 have hCg0:=fun k (hk:fp gi k)=>((hh.slot gi _ hgi).2 k hk)
 have hCg1:∀ k,fp gi k→k<w1.heap.size:=fun k hk=>(hCg k hk).1
 let zsy:wm→GR:=JcX (fp gi) F1 B n a0 H w1.heap.size O' fun pre=>KK fx (zs2 pre)
 have hrec0:rec0.state=.ready∧rec0.pending=none∧rec0.fn=fn∧rec0.tmps=a.tmps∧rec0.params=params∧rec0.assign=assign∧rec0.body=body:=by subst hrec;exact⟨rfl,rfl,rfl,rfl,rfl,rfl,rfl⟩
 have hO'mem:∀ pre pre' y,y∈O' pre'→∃ y'∈O' pre,y'.1=y.1:=fun pre pre' y hy=>by
  rcases ma.1 hy with rfl | hy
  ·exact⟨_,mc ..,rfl⟩
  ·exact⟨y,mh _ hy,rfl⟩
 have hfix:∀ t k,ofL (ze9 fx) t=some k→∀ v,k=.is v→a0.eval (.tmp t)=v:=fun t k ht v hv=>by
  subst hv;exact hh.slot t _ ((LiveOK.right h0).get ht)
 have hrecS0:recS []=rec0:=nc (by rw[hst0];simp)
 --at the start
 have hstart:HasH F1 B (O' []) n (KK fx (zs2 [])) a0 w1 H fp:=by
  have h2:=hh1.sub_kap (κ2:=KK fx (zs2 [])) fun t k hk=>h0.get hk;have:O' []=(u.heap.size+1,.loop rec0)::(u.heap.size,.deferred (some []))::O:=by show(_,Obj.loop (recS []))::_=_;rw[hrecS0]
  rw[this];exact⟨h2.size,rfl,zqg,(fun _ h=>by cases h),h2.lent,h2.keep,h2.sub,h2.base,h2.fresh,h2.boxes,h2.apart,h2.slot,h2.owns,h2.mono⟩
 have hOg0:∀ pre,∀ y∈O' pre,¬ fp gi y.1:=fun pre y hy hg=>by
  rcases ma.1 hy with rfl | hy
  ·have:=(hCg0 _ hg).1;dsimp only at this;omega
  ·rcases ma.1 hy with rfl | hy
   ·have:=(hCg0 _ hg).1;dsimp only at this;omega
   ·exact(hCg0 _ hg).2.2.2 y hy Z
 have hyg:=hOg0 []
 have hKgi:∀ pre,ofL (gK' (zs2 pre)) gi=none:=fun pre=>by
  have:∀ l:List (Nat×Res),(∀ p∈l,p.1≠gi)→ofL (gK' l) gi=none:=fun l=>by
   induction l with
   | nil=>exact fun _=>rfl
   | cons p l ih=>
    intro h;show upd (ofL (gK' l)) p.1 (.own p.2) gi=none;rw[xk _ _ (Ne.symm (h p (mc ..)))];exact ih fun q hq=>h q (mh _ hq)
  exact this _ (hGi pre)
 have hKne:∀ pre t r,KK fx (zs2 pre) t=some (.own r)→t≠gi:=fun pre t r ht he=>by
  subst he;have:=Ay (hG pre) ht;rw[hKgi pre] at this;cases this
 have hog:∀ t r k,KK fx (zs2 []) t=some (.own r)→fp t k→¬ fp gi k:=fun t r k ht hf hg=>
  hh.owns t gi r gr.res (hKne [] t r ht) (h0.get ht) hgi k hf hg
 let C0:Nat→Prop:=fun k=>(k<w1.heap.size∧H k=none∧¬ fp gi k)∨(w1.heap.size≤k∧((H k).isSome=true∨∃ t r,KK fx (zs2 []) t=some (.own r)∧fp t k))
 have hJ0:(zsy []).P H w1 C0:=⟨H,fp,hstart,my _,my _,fun y hy=>xj (hstart.boxes y hy).1,nu _,hstart.keep.size,fun k hk=>⟨hCg1 k hk,(hCg k hk).2.2.1,(hCg k hk).2.1⟩,fun y hy hg=>hyg y hy hg,hog,fun _=>Iff.rfl⟩
 have hC0:∀ k,C0 k→k<w1.heap.size∧H k=none:=fun k hk=>by
  rcases hk with h | ⟨h1,h | ⟨t,r,ht,hf⟩⟩
  ·exact⟨h.1,h.2.1⟩
  ·rw[jj hstart.sub h1] at h;cases h
  ·have:=((hstart.slot t _ ht).2 k hf).1;omega
 --the rounds
 have hY:Dw P (u.heap.size+1) zsy stop xs:=by
  rintro pre x hpre hstp v Hit C hsubv ⟨Hc,fpc,hc,c1,c2,c3,c4,c5,x1,x2,x3,c6⟩ hCv;have hrp:recS pre=rec0:=nc (by rw[hstp];simp);have hOp:O' pre=(u.heap.size+1,.loop rec0)::(u.heap.size,.deferred (some []))::O:=by show(_,Obj.loop (recS pre))::_=_;rw[hrp]
  rw[hOp] at hc;have hl:v.heap[u.heap.size+1]?=some (.loop rec0):=(hc.boxes _ (mc ..)).1;have hxl:x.length=params.size:=hps x (hpre.subset (by simp));have hyr:=run_yield (P:=P) (args:=x.toArray) hl (by rw[hrec0.2.2.2.2.1];simpa using hxl);rw[hrec0.2.2.1,hrec0.2.2.2.1,hrec0.2.2.2.2.1,hrec0.2.2.2.2.2.1,hrec0.2.2.2.2.2.2] at hyr;refine⟨fn,_,assign,body,hyr,roundIn_of_wpIn trivial ?_⟩
  --the round's frame
  let Cr:Nat→Prop:=fun k=>(∃ y∈O' pre,y.1=k)∨∃ t r,KK fx (zs2 pre) t=some (.own r)∧fpc t k
  have hCrC:∀ k,Cr k→C k∧k<v.heap.size∧(w0.heap.size≤k∨Lf k):=fun k hk=>by
   rcases hk with ⟨y,hy,rfl⟩ | ⟨t,r,ht,hf⟩
   ·rw[hOp] at hy;obtain⟨g1,g2,g3⟩:=hc.boxes y hy;refine⟨(c6 _).2 (.inl ⟨c3 y (by rw[hOp];exact hy),?_,x2 y (by rw[hOp];exact hy)⟩),xj g1,g3⟩
    cases hx:H y.1 with
    | none=>rfl
    | some o=>rw[c1 _ o hx] at g2;cases g2
   ·obtain⟨g1,g2,g3,g4⟩:=(hc.slot t _ ht).2 k hf;refine⟨(c6 k).2 ?_,g1,g3⟩;rcases m5 k w1.heap.size with hlt | hge
    ·refine .inl ⟨hlt,?_,x3 t r k ht hf⟩
     cases hx:H k with
     | none=>rfl
     | some o=>rw[c1 _ o hx] at g2;cases g2
    ·exact .inr ⟨hge,.inr ⟨t,r,ht,hf⟩⟩
  have hCrg:∀ k,Cr k→¬ fp gi k:=fun k hk=>by
   rcases hk with ⟨y,hy,rfl⟩ | ⟨t,r,ht,hf⟩
   ·exact x2 y hy
   ·exact x3 t r k ht hf
  let Fr':Fr:=⟨v,some (u.heap.size+1),[],Cr⟩
  have hr0:HasH Fr' Hc ((u.heap.size+1,.loop rec0)::(u.heap.size,.deferred (some []))::O) n (KK fx (zs2 pre)) a0 v Hc fpc:=
   ⟨hc.size,rfl,zqg,(fun _ h=>by cases h),fun k hk=>(hCrC k hk).2.1,Keep.refl _ _,hc.sub,my _,fun _ _ _=>rfl,fun y hy=>⟨(hc.boxes y hy).1,(hc.boxes y hy).2.1,.inr (.inl ⟨y,by rw[hOp];exact hy,rfl⟩)⟩,hc.apart,fun t k hk=>by
    have hs:=hc.slot t k hk
    cases k with
    | is _=>exact hs
    | sat _=>exact hs
    | own r=>exact⟨hs.1,fun k hf=>by
      obtain⟨g1,g2,g3,g4⟩:=hs.2 k hf;exact⟨g1,g2,.inr (.inr ⟨t,r,hk,hf⟩),g4⟩⟩,hc.owns,hc.mono⟩
  have hBc:B.Le Hc:=hc.base;have hr1:=hr0.putP (params.toList.zip x) (fun p hp=>hpn p.1 (List.of_mem_zip hp).1)
  have hfold:(params.zip x.toArray).foldl (fun tmps (t,a)=>tmps.setIfInBounds t a) a.tmps=(params.toList.zip x).foldl (fun t p=>t.setIfInBounds p.1 p.2) a.tmps:=by
   rw[←zrm,Array.toList_zip]
  rw[hfold]
  --how a round ends
  have fin:∀ (e:Option Code) (a1:Act) (u1:World),(match e with | none=>stop (pre++[x])=false | some c=>stop (pre++[x])=true∧jc (pre++[x])=c)→
    Has Fr' Hc ((u.heap.size+1,.loop { rec0 with state:=.busy })::(u.heap.size,.deferred (some []))::O) n (ofL (gK' (zs2 (pre++[x])))) a1 u1→
    ∃ z w',(Instr.endRound (u.heap.size+1) e).run P u1=.ok z w'∧Ending.returned z=.returned (.bool (!stop (pre++[x])))∧∃ C',(zsy (pre++[x])).P Hit w' C'∧Keep C v w'∧∀ k,C' k→(C k∨v.heap.size≤k)∧k<w'.heap.size:=by
   rintro e a1 u1 he ⟨Hd,fpd,hd⟩;have hl1:=(hd.boxes _ (mc ..)).1;have hrun:=run_endRound (P:=P) e hl1
   have hrecE:({ ({ rec0 with state:=.busy }:Loop) with state:=if e.isNone then .ready else .done,pending:=e }:Loop)=recS (pre++[x]):=by
    cases e with
    | none=>
     have:recS (pre++[x])=rec0:=nc (by rw[he];simp);rw[this];obtain⟨g1,g2,_⟩:=hrec0;cases hq:rec0;rw[hq] at g1 g2;dsimp only at g1 g2 ⊢;rw[g1,g2];rfl
    | some c=>
     have:recS (pre++[x])={ rec0 with state:=.done,pending:=some (jc (pre++[x])) }:=na he.1;rw[this,he.2];rfl
   rw[hrecE] at hrun
   have hv:(e.isNone)=!stop (pre++[x]):=by
    cases e with
    | none=>rw[he];rfl
    | some c=>rw[he.1];rfl
   refine⟨_,_,hrun,by rw[hv],?_⟩;have hd2:=hd.boxSet (O1:=[]) (ds:=[]) (a':=a1) (Chg.putObj (o:=.loop (recS (pre++[x]))) (xj hl1)) (List.Sublist.refl _) (by simp) rfl hd.defers;generalize u1.putObj (u.heap.size+1) (.loop (recS (pre++[x])))=u2 at hd2 ⊢;have hd2':HasH Fr' Hc (O' (pre++[x])) n (ofL (gK' (zs2 (pre++[x])))) a1 u2 Hd fpd:=hd2
   have hOg:∀ y∈O' (pre++[x]),(w0.heap.size≤y.1∨Lf y.1)∧y.1<w1.heap.size:=fun y hy=>by
    obtain⟨y',hy',hyy⟩:=hO'mem pre _ y hy;rw[←hyy];exact⟨(hc.boxes y' (by rw[←hOp];exact hy')).2.2,c3 y' hy'⟩
   have hfull:HasH F1 B (O' (pre++[x])) n (KK fx (zs2 (pre++[x]))) a0 u2 Hd fpd:=by
    refine⟨hh.size,rfl,zqg,(fun _ h=>by cases h),hc.lent,hc.keep.trans hd2'.keep fun i hi hci=>?_,hd2'.sub,hBc.trans hd2'.base,fun k hk hlk=>?_,fun y hy=>⟨(hd2'.boxes y hy).1,(hd2'.boxes y hy).2.1,(hOg y hy).1⟩,hd2'.apart,fun t k hk=>?_,fun s t r r' hst h1 h2=>?_,fun t k hk=>?_⟩
    ·rcases(hCrC i hci).2.2 with h | h
     ·exact ni hi (by show ¬ (i<w0.heap.size);omega)
     ·exact h
    ·refine(hd2'.fresh k (zp4 hk hc.keep.size) fun hcr=>?_).trans (hc.fresh k hk hlk);rcases(hCrC k hcr).2.2 with h | h
     ·exact ni hk (by show ¬ (k<w0.heap.size);omega)
     ·exact hlk h
    ·rcases Bs (hG _) hk with ⟨hnt,hgk,r,rfl⟩ | ⟨hfk,_,z,rfl⟩
     ·have hs:=hd2'.slot t _ hgk;have e1:a0.eval (.tmp t)=a1.eval (.tmp t):=(G8 (a:=a0) (n:=n) hh.size hnt).trans (G8 hd2'.size hnt).symm;rw[e1];refine⟨hs.1,fun k hf=>?_⟩;obtain⟨g1,g2,g3,g4⟩:=hs.2 k hf;refine⟨g1,g2,?_,g4⟩;rcases g3 with g3 | g3
      ·exact .inl (mp hc.keep.size g3)
      ·exact(hCrC k g3).2.2
     ·exact hfix t _ hfk z Z
    ·exact hd2'.owns s t r r' hst (Ay (hG _) h1) (Ay (hG _) h2)
    ·rcases Bs (hG _) hk with ⟨_,_,r,rfl⟩ | ⟨_,_,z,rfl⟩<;>trivial
   have hHd:Hc.Le Hd:=hd2'.base
   refine⟨fun k=>(k<w1.heap.size∧H k=none∧¬ fp gi k)∨(w1.heap.size≤k∧((Hd k).isSome=true∨∃ t r,KK fx (zs2 (pre++[x])) t=some (.own r)∧fpd t k)),
    ⟨Hd,fpd,hfull,c1.trans hHd,c2,fun y hy=>(hOg y hy).2,mp c4 hd2'.keep.size,c5,fun k hk=>⟨(x1 k hk).1,(x1 k hk).2.1,(hd2'.fresh k (zp4 (x1 k hk).1 c4) fun hcr=>hCrg k hcr hk).trans (x1 k hk).2.2⟩,hOg0 _,fun t r k ht hf hg=>by
     rcases((hd2'.slot t _ (Ay (hG _) ht)).2 k hf).2.2.1 with g | g
     ·have h7:=hCg1 k hg;have h8:v.heap.size≤k:=g;omega
     ·exact hCrg k g hg,fun _=>Iff.rfl⟩,hd2'.keep.weak fun k _ hk=>(hCrC k hk).1,fun k hk=>?_⟩
   rcases hk with ⟨h1,h2,h2g⟩ | ⟨h1,h2 | ⟨t,r,ht,hf⟩⟩
   ·exact⟨.inl ((c6 k).2 (.inl ⟨h1,h2,h2g⟩)),zp4 h1 (mp c4 hd2'.keep.size)⟩
   ·obtain⟨o,ho⟩:=zp1.1 h2;refine⟨?_,hd2'.sub.size ho⟩;rcases m5 k v.heap.size with hlt | hge
    ·by_cases hcr:Cr k
     ·exact .inl (hCrC k hcr).1
     ·refine .inl ((c6 k).2 (.inr ⟨h1,.inl ?_⟩));rw[←hd2'.fresh k hlt hcr,ho];rfl
    ·exact .inr hge
   ·have hs:=(hd2'.slot t _ (Ay (hG _) ht)).2 k hf;refine⟨?_,hs.1⟩;rcases hs.2.2.1 with g | g
    ·exact .inr g
    ·exact .inl (hCrC k g).1
  refine Go.wpIn_mono (hassign v Cr Hc (u.heap.size+1) u.heap.size (.loop rec0) pre x hpre hstp hBc _ v ⟨Hc,fpc,hr1⟩) fun e1 a1 u1 he1=>?_
  cases e1 with
  | normal=>
   obtain⟨Ha,fpa,ha⟩:=he1;have hl1:=(ha.boxes _ (mc ..)).1;refine⟨_,run_beginRound (P:=P) hl1 hrec0.1,?_⟩;have ha2:=ha.boxSet (O1:=[]) (ds:=[]) (a':=a1) (Chg.putObj (o:=.loop { rec0 with state:=.busy }) (xj hl1)) (List.Sublist.refl _) (by simp) rfl ha.defers;refine Go.wpIn_mono (hbody v Cr Hc (u.heap.size+1) u.heap.size (.loop { rec0 with state:=.busy }) pre x hpre hstp hBc a1 _ ⟨Ha,fpa,ha2⟩) fun e2 a2 u2 he2=>?_
   cases e2 with
   | normal=>exact fin none a2 u2 he2.1 he2.2
   | ret=>exact fin (some .ret) a2 u2 ⟨he2.1,he2.2.1⟩ he2.2.2
   | exit id=>exact fin (some (.exit id)) a2 u2 ⟨he2.1,he2.2.1⟩ he2.2.2
   | goto l=>exact he2.elim
   | panic c=>exact he2.elim
   | outgrown=>exact he2.elim
  | exit id=>exact he1.elim
  | goto l=>exact he1.elim
  | ret=>exact he1.elim
  | panic c=>exact he1.elim
  | outgrown=>exact he1.elim
 --the call
 have hB1:B.Le H:=hh.base
 have hcall:=hit w1 H hstart.sub hB1 (u.heap.size+1) zsy stop C0 (fp gi) hst0 hY hJ0 hC0 (hh1.slot gi _ hgi).1 (fun k hk=>⟨hCg1 k hk,(hCg k hk).2.1⟩) (fun k hk hg=>by
  rcases hk with h | ⟨h1,_⟩
  ·exact h.2.2 hg
  ·have:=hCg1 k hg;omega)
 have hel:=run_enterLoop_outer (P:=P) (w:=u) fn a.tmps params assign body;rw[hrec,hw1] at hel;refine⟨u.heap.size+1,[zez (.m u.heap.size)],w1,⟨.fn (.func gf) caps.toArray,#[]++#[.func (.yield (u.heap.size+1)) #[] #[]]⟩,w1,gf,(.func (.yield (u.heap.size+1)) #[] #[]::caps).toArray,w1,hel,?_,fun _ _=>trivial,?_,fun h=>(by cases h),?_⟩
 ·have hcv:a.eval (.const (.func (.yield (u.heap.size+1)) #[] #[]))=.func (.yield (u.heap.size+1)) #[] #[]:=rfl;simp [resolve,rangeCall,hfe,Deferred.ofValue,hcv]
 ·simp only[invoke];rw[gh L hfn];simp
 ·refine FW.call none _ (Calls.mono hcall fun e3 u3 hp=>?_);obtain⟨z,rfl,H3,g3,C3,⟨Hc,fpc,hc,c1,c2,c3,c4,c5,x1,x2,x3,c6⟩,_⟩:=hp;generalize htk:ju stop [] xs=tk at hc c3 hdone hstop c6;have hl3:u3.heap[u.heap.size+1]?=some (.loop (recS tk)):=(hc.boxes _ (mc ..)).1
  have hnb:(recS tk).state≠.busy:=by
   show(if stop tk=true then ({ rec0 with state:=.done,pending:=some (jc tk) }:Loop) else rec0).state≠.busy;split
   ·simp
   ·rw[hrec0.1];simp
  have hpend:(recS tk).pending=if stop tk=true then some (jc tk) else none:=by
   show(if stop tk=true then ({ rec0 with state:=.done,pending:=some (jc tk) }:Loop) else rec0).pending=_;split
   ·rfl
   ·exact hrec0.2.1
  refine⟨_,_,run_endLoop hl3 hnb,?_⟩;have hc2:=hc.boxSet (O1:=[]) (ds:=[]) (a':=a0) (Chg.putObj (o:=.loop { recS tk with state:=.exhausted }) (xj hl3)) (List.Sublist.refl _) (by simp) rfl rfl
  have hDn:DM.m u.heap.size∉ds:=fun hm=>by
   have:=xj (hh.boxes _ (hh.marks _ hm)).1;exact ni this (Nat.lt_irrefl _)
  have hfin:HasH ⟨w0,none,.m u.heap.size::ds,Lf⟩ B ((u.heap.size+1,.loop { recS tk with state:=.exhausted })::(u.heap.size,.deferred (some []))::O) n (KK fx (zs2 tk)) { a with defers:=[zez (.m u.heap.size)]++a.defers } (u3.putObj (u.heap.size+1) (.loop { recS tk with state:=.exhausted })) Hc fpc:=
   ⟨hc2.size,by have:=hh.defers;dsimp only at this ⊢;rw[this];rfl,List.nodup_cons.2 ⟨hDn,hh.nodup⟩,fun D hD=>by
    rcases ma.1 hD with e | hD
    ·cases e;exact mh _ (mc ..)
    ·exact mh _ (mh _ (hh.marks D hD)),hc2.lent,hc2.keep,hc2.sub,hc2.base,hc2.fresh,hc2.boxes,hc2.apart,hc2.slot,hc2.owns,hc2.mono⟩
  generalize (Obj.loop { recS tk with state:=.exhausted })=rx at hfin ⊢;rw[hpend]
  cases hs:stop tk with
  | false=>
   simp only[zqh,if_false];exact hdone _ _ _ hs _ _ ⟨Hc,fpc,hfin⟩
  | true=>
   simp only[if_true];exact hstop _ _ _ hs _ _ ⟨Hc,fpc,hfin⟩
end
end Go.V
namespace Go.V
section
variable  [Inhabited α] {enc:α->List Value} 
end
section
end
end Go.V
namespace Go.V
def zn3(w:World)(C:Nat->Prop)(r:Res)(v:Value)(H:Heap)(u:World):Prop:=∃ C':Nat->Prop,r.P v H u C'/\∀ k,C' k->(C k\/w.heap.size<=k)/\k<u.heap.size/\H k=none
def RetT(P:Program)(f:FuncId)(args:List Value)(w:World)(B:Heap)(C:Nat->Prop)(r:Res):Prop:=RetL P f args w B C (zn3 w C r)
section
variable             {a:Act}    
def bh(L:Tabs P){q f:Nat}{r r':Res}{fo:Operand}
  (hn:Nat.blt d n=true) (hg:gK ops κ ⟨some d,.call { callee:=.value fo,args:=args,argTypes:=at_ },ty,pos,aft,g⟩=some true)
  (hf:evK (upd κ q (.is undef)) fo=some (.func (.func f) #[] cap.toArray)) (hfn:L.fn f=some ()) (hq:κ q=some (.own r))
  (h:∀ u H C x,zs4 H u->B.Le H->r.P x H u C->(ZCB C u H)->Args (upd κ q (.is x)) H args.toList [] (fun vs=>RetT P f (vs++cap) u H C r')):
  ve P F B n ops O κ ⟨some d,.call { callee:=.value fo,args:=args,argTypes:=at_ },ty,pos,aft,g⟩ q po d (.own r'):=by
 rintro κ' a u hlk hks ⟨H,fp,hh⟩;unfold After;rw[na (xl hh hlk hg)];have hk':κ' q=some (.own r):=hks.trans hq;obtain⟨hown,hM⟩:=hh.slot q _ hk';have hh2:=hh.name q
 have e2:Env F B O (upd κ q (.is (a.eval (.tmp q)))) ⟨some d,.call { callee:=.value fo,args:=args,argTypes:=at_ },ty,pos,aft,g⟩ a u H fp:=hh2.env (ops:=ops) fun t ht=>by
  by_cases htq:t=q
  ·subst htq;rw[xr,xr]
  ·rw[xk _ _ htq,xk _ _ htq];exact hlk t ht
 have hfe:a.eval fo=.func (.func f) #[] cap.toArray:=by
  refine e2.is_ fo _ (by simp [Op.operands,Call.operands]) ?_
  cases fo with
  | tmp t=>
   simp only[evK] at hf |-;by_cases htq:t=q
   ·subst htq;rw[xr] at hf;cases hf
   ·rw[xk _ _ htq] at hf |-;exact hf
  | _=>exact hf
 have hc:=Args.use e2 args.toList [] (fun x hx=>by simp [Op.operands,Call.operands] at hx |-;exact .inr hx) (h u H (fp q) _ hh.sub hh.base hown fun k hk=>⟨(hM k hk).1,(hM k hk).2.1⟩);simp only[zpv,mj] at hc;rw[ux L rfl hfe hfn];simp only[Upon];refine Calls.mono hc fun e' u' hp=>?_;obtain⟨v,rfl,H',g',C',hv,hC'⟩:=hp;exact⟨v,rfl,H',_,hh.usePut (d:=d) (a':=a.put (some d) v) hk' g' (by simp [Act.put]) Z (fun t ht=>xv ht) (by rw[kg (by rw[hh.size];exact zm hn)];exact hv) hC'⟩
def Fg{fn:Func}{t:Nat}{r:Res}(hrs:fn.results=#[.tmp t])(hQ:∀ a u,bodyPostM Fence.wide 0 P fn (li F.w0 B0 F.L (zn3 F.w0 F.L r)) .ret a u->zs3 .ret a u)(hs:Since F B0 B)(hk:κ t=some (.own r))(hm:za2 F.ds=true:=by rfl):V P F B n O κ .ret zs3:=
 Rj hQ hs (hm:=hm) fun O' a u H fp _ hh=>by
  obtain⟨hown,hM⟩:=hh.slot t _ hk;refine⟨a.eval (.tmp t),?_,fp t,hown,fun k hk=>?_⟩
  ·simp [results,hrs,Act.eval]
  ·obtain⟨h1,h2,h3,_⟩:=hM k hk;exact⟨h3.symm,h1,h2⟩
def Ai(t q:Nat){c:Code}(hk:κ t=some (.own (SlR e s m xs)))
  (h0:m=0->xs=[]->V P F B n O (upd κ t (.is (.slice none 0 0))) c zs3)
  (h:∀ b cap rest,xs.length=m*s->m<=cap->cap<=maxLen->(xs++rest).length=cap*s->V P F B n O (upd (upd (upd κ t po) q (.own (xu b (xs++rest) e))) t (.is (.slice (some ⟨b,0,none⟩) m cap))) c zs3):V P F B n O κ c zs3:=fun a u hh=>by
 obtain⟨H,fp,hh⟩:=hh;obtain⟨⟨hl,hv⟩,hM⟩:=hh.slot t _ hk;rcases hv with ⟨hm,hv,_⟩ | ⟨b,cap,rest,hv,hb,h3,h4,h5,hC⟩
 ·have h3:=hh.name t;rw[hv] at h3;subst hm;exact h0 Z (zow (by simpa using hl)) a u ⟨H,_,h3⟩
 ·have h2:=hh.usePut (d:=q) (a':=a) (r':=xu b (xs++rest) e) (C:=fp t) hk ⟨Keep.refl _ _,hh.sub,my _,fun _ _ _=>rfl⟩ rfl rfl (fun _ _=>rfl) ⟨hb,hC⟩ fun k hk=>⟨.inl hk,(hM k hk).1,(hM k hk).2.1⟩
  have h3':=h2.name t;rw[hv] at h3';exact h b cap rest hl h3 h4 h5 a u ⟨H,_,h3'⟩
def f6(t q:Nat){b cap:Nat}{c:Code}(hcs:cs=xs++rest)(hk:κ q=some (.own (xu b cs e)))(ht:κ t=some (.is (.slice (some ⟨b,0,none⟩) m cap)))(hl:xs.length=m*s)(hm:m<=cap)(hc:cap<=maxLen)(hcl:cs.length=cap*s)
  (h:V P F B n O (upd (upd κ q po) t (.own (SlR e s m xs))) c zs3):V P F B n O κ c zs3:=fun a u hh=>by
 subst hcs;obtain⟨H,fp,hh⟩:=hh;obtain⟨⟨hb,hC⟩,hM⟩:=hh.slot q _ hk;have hx:a.eval (.tmp t)=.slice (some ⟨b,0,none⟩) m cap:=hh.slot t _ ht;exact h a u ⟨H,_,hh.usePut (d:=t) (a':=a) (r':=SlR e s m xs) (C:=fp q) hk ⟨Keep.refl _ _,hh.sub,my _,fun _ _ _=>rfl⟩ Z Z (fun _ _=>rfl) ⟨hl,.inr ⟨b,cap,rest,hx,hb,hm,hc,hcl,hC⟩⟩ fun k hk=>⟨.inl hk,(hM k hk).1,(hM k hk).2.1⟩⟩
def zet{k k2:IntKind}{q r:Int}(hn:Nat.blt d n=true)(hg:gK ops κ ⟨some d,.binOp .shr t x y t',ty,pos,aft,g⟩=some true)(hx:evK κ x=some (.int k p))(hy:evK κ y=some (.int k2 q))(h0:0<=q)(hb:p.fdiv (2^min q.toNat k.bits)=r):
  StepOK P F B n ops O κ ⟨some d,.binOp .shr t x y t',ty,pos,aft,g⟩ d (.is (.int k r)):=w7 hn hg hx hy fun u=>by subst hb;simp [eqGuard_shr,binOp_shr,Op.shift,Int.not_lt.2 h0]
def g9(L:Tabs P){b cap:Nat}(i j:Nat){pl ph:Int}(hn:Nat.blt d n=true)(hg:gK ops κ ⟨some d,.slice tt x lo hi none,ty,pos,aft,g⟩=some true)
  (hx:evK κ x=some (.slice (some ⟨b,off,none⟩) m cap)) (ht:L.sl tt=some e) (hl:L.ld e=some (ag,s))
  (hlo:match lo with | some y=>evK κ y=some (.int kl pl)/\pl=i | none=>i=0) (hhi:match hi with | some y=>evK κ y=some (.int kh ph)/\ph=j | none=>j=m)
  (hij:i<=j) (hjc:j<=cap):
  StepOK P F B n ops O κ ⟨some d,.slice tt x lo hi none,ty,pos,aft,g⟩ d (.is (.slice (some (if cap=i then ⟨b,off,none⟩ else ⟨b,off+i*s,none⟩)) (j-i) (cap-i))):=
 kj rfl (zm hn) hg trivial fun a u H fp en=>⟨_,by
  have hu:=Tabs.sl_spec ht;have h1:=en.is_ x _ (by simp [Op.operands]) hx
  have hrun:(Instr.sliceBounds true m cap (lo.map a.eval) (hi.map a.eval) none).run P u=.ok (i,j,cap) u:=by
   cases hi with
   | none=>
    simp only at hhi;subst hhi
    cases lo with
    | none=>simp only at hlo;subst hlo;simp [Instr.sliceBounds]
    | some z=>
     obtain⟨hz,rfl⟩:=hlo;have h3:=en.is_ z _ (by simp [Op.operands]) hz;simp [h3,Instr.sliceBounds,k9 i kl _ _ hij]
   | some y=>
    obtain⟨hy,rfl⟩:=hhi;have h2:=en.is_ y _ (by simp [Op.operands]) hy
    cases lo with
    | none=>simp only at hlo;subst hlo;simp [h2,Instr.sliceBounds,k9 j kh cap _ hjc]
    | some z=>
     obtain⟨hz,rfl⟩:=hlo;have h3:=en.is_ z _ (by simp [Op.operands]) hz;simp [h2,h3,Instr.sliceBounds,k9 j kh cap _ hjc,k9 i kl _ _ hij]
  simp only[execOp,h1,Instr.sliceAt,Instr.slice,nw,run_underlying hu,ny,zq6,hrun,ja (Tabs.ld_spec hl),me];congr 3;split<;>simp [Addr.add],rfl⟩
def cu(L:Tabs P){t e:TypeId}{z:Value}(hn:Nat.blt d n=true)(hg:gK ops κ ⟨some d,.buildSlice t 0 #[],ty,pos,aft,g⟩=some true)(ht:L.sl t=some e)(hl:L.ld e=some (ag,s))(hz:L.zr e=some z):
  StepOK P F B n ops O κ ⟨some d,.buildSlice t 0 #[],ty,pos,aft,g⟩ d (.own (SlR e s 0 [])):=by
 rintro κ' a u hlk ⟨H,fp,hh⟩;unfold After;rw[na (xl hh hlk hg)]
 have hrun:(execOp a.eval ⟨some d,.buildSlice t 0 #[],ty,pos,aft,g⟩).run P u=.ok (.value (.slice (some ⟨u.heap.size,0,none⟩) 0 0)) (u.alloc (.cells #[] e)):=by
  have hzz:=Tabs.zr_spec hz;unfold zrI at hzz;split at hzz
  ·rename_i it hit;have hzr:(zeroValue e).run P u=.ok z u:=by simp [zeroValue,typeInfo,hit,hzz]
   simp only[execOp,nw];have e0:(Array.map (fun x:Nat×Operand=>(x.1,a.eval x.2)) #[])=(#[]:Array (Nat×Value)):=by simp
   rw[e0];have hfill:Instr.fill (fun i=>some (i*s,s)) #[] []=some #[]:=by simp [Instr.fill]
   simp only[Instr.buildSlice,nw,run_underlying (Tabs.sl_spec ht),ny,ja (Tabs.ld_spec hl)];simp only[Nat.zero_mul,if_true,me,ny];have e1:(Array.range 0).map (fun _:Nat=>(default:Value))=#[]:=by simp
   simp [newRow,hfill,e1]
  ·cases hzz
 rw[hrun];simp only[Upon];have hg2:=hh.grow (Grow.hid hh.sub (.cells #[] e));refine⟨H,_,hg2.putR (C:=fun k=>k=u.heap.size) (by simp [Act.put]) Z (fun t ht=>xv ht) ⟨by simp,.inr ⟨u.heap.size,0,[],kg (by rw[hh.size];exact zm hn),xz _ _,nu _,by simp [maxLen],by simp,fun _=>Iff.rfl⟩⟩ (fun k hk=>?_) fun t r' _ ht k hf hk=>?_⟩
 ·subst hk;exact⟨xj (xz u _),jj hh.sub (nu _),.inl hh.keep.size,fun y hy e=>by have:=xj (hh.boxes y hy).1;omega⟩
 ·have:=((hh.slot t _ ht).2 k hf).1;omega
end
end Go.V
namespace Go.V
def xc(b:Nat)(cs:List Value)(ty:TypeId):GR where
 P _ u C:=u.heap[b]?=some (.cells cs.toArray ty)/\∀ k,C k↔k=b
 st:=fun⟨h1,h2⟩ _ _ _ hk=>⟨(hk b ((h2 b).2 rfl)).trans h1,h2⟩
def xd(b:Nat)(cs:List Value)(ty:TypeId):(xc b cs ty).res=xu b cs ty:=rfl
def kz(P:Program)(f:FuncId)(args:List Value)(w:World)(B:Heap)(C:Nat->Prop)(r:GR):Prop:=
 RetL P f args w B C fun _ H u=>∃ C',r.P H u C'/\∀ k,C' k->(C k\/w.heap.size<=k)/\k<u.heap.size/\H k=none
section
def xe(L:Tabs P)(q:Nat)(r':GR){r:GR}{fo:Operand}
  (hn:Nat.blt d n=true) (hg:gK ops κ ⟨some d,.call { callee:=.value fo,args:=args,argTypes:=at_ },ty,pos,aft,g⟩=some true)
  (hf:evK κ fo=some (.func (.func f) #[] cap.toArray)) (hfn:L.fn f=some ()) (hq:κ q=some (.own r.res))
  (h:∀ u H C,zs4 H u->B.Le H->r.P H u C->(ZCB C u H)->Args κ H args.toList [] (fun vs=>kz P f (vs++cap) u H C r')):
  ve P F B n ops O κ ⟨some d,.call { callee:=.value fo,args:=args,argTypes:=at_ },ty,pos,aft,g⟩ q (.own r'.res) d po:=by
 rintro κ' a u hlk hks ⟨H,fp,hh⟩;unfold After;rw[na (xl hh hlk hg)];have hk':κ' q=some (.own r.res):=hks.trans hq;obtain⟨hown,hM⟩:=hh.slot q _ hk';have e2:=hh.env hlk;have hfe:a.eval fo=.func (.func f) #[] cap.toArray:=e2.is_ fo _ (by simp [Op.operands,Call.operands]) hf;have hc:=Args.use e2 args.toList [] (fun x hx=>by simp [Op.operands,Call.operands] at hx |-;exact .inr hx) (h u H (fp q) hh.sub hh.base hown fun k hk=>⟨(hM k hk).1,(hM k hk).2.1⟩);simp only[zpv,mj] at hc;rw[ux L rfl hfe hfn];simp only[Upon];refine Calls.mono hc fun e' u' hp=>?_;obtain⟨v,rfl,H',g',C',hv,hC'⟩:=hp;have h2:=hh.usePut (d:=q) (a':=a) (r':=r'.res) hk' g' rfl rfl (fun _ _=>rfl) hv hC';rw[wg] at h2;exact⟨v,Z,H',_,h2.put (k:=po) (zm hn) (fun _ _ _ h _=>h) trivial⟩
def zat(L:Tabs P){fn:Func}(hrs:fn.results=#[])(hQ:∀ a u,bodyPostM Fence.wide 0 P fn (li F.w0 B0 F.L fun _ _ _=>True) .normal a u->zs3 .normal a u)(hs:Since F B0 B)(hm:za2 F.ds=true:=by rfl):N F B n O κ zs3:=
 zfj hQ hs (hm:=hm) fun O' a u H fp _ hh=>by
  obtain⟨vs,h1,_⟩:=we L hh (rs:=[]) hrs (K:=fun _=>True) trivial;exact⟨_,h1,nm⟩
def o8{x c y:Code}{zsx:Type}(Fk:zsx->List (Nat×Kn))(I:zsx->Prop)(Ob:zsx->Boxes)(hy:∀ t,I t->V P F B n (Ob t) (ofL (Fk t)) y zs3)
  (h:V P F B n O κ x (Exit.then (fun a u=>c.wpIn (FW F.r) 0 P (Exit.then (fun a u=>∃ t,I t/\Has F B (Ob t) n (ofL (Fk t)) a u) zs3) a u) (Exit.then (fun a u=>∃ t,I t/\Has F B (Ob t) n (ofL (Fk t)) a u) zs3))):
  V P F B n O κ x (Exit.then (fun a u=>c.wpIn (FW F.r) 0 P (Exit.then (fun a u=>y.wpIn (FW F.r) 0 P zs3 a u) zs3) a u) (Exit.then (fun a u=>y.wpIn (FW F.r) 0 P zs3 a u) zs3)):=fun a u hh=>by
 have key:∀ e a u,Exit.then (fun a u=>∃ t,I t/\Has F B (Ob t) n (ofL (Fk t)) a u) zs3 e a u->Exit.then (fun a u=>y.wpIn (FW F.r) 0 P zs3 a u) zs3 e a u:=fun e a u he=>by
  cases e<;>first | exact he | (obtain⟨t,hI,hh⟩:=he;exact hy t hI a u hh)
 refine Go.wpIn_mono (h a u hh) fun e a u he=>?_;cases e<;>first | exact Go.wpIn_mono he key | exact he
def HasH.setSat{t:Nat}{a:Act}(hm:Kn.mono (.sat φ))(h:HasH F B O n κ a u H fp)(hφ:φ (a.eval (.tmp t)) H):HasH F B O n (upd κ t (.sat φ)) a u H fp:=
 ⟨h.size,h.defers,h.nodup,h.marks,h.lent,h.keep,h.sub,h.base,h.fresh,h.boxes,h.apart,fun s k hs=>by
  by_cases hst:s=t
  ·subst hst;rw[xr] at hs;cases hs;exact hφ
  ·rw[xk _ _ hst] at hs;exact h.slot s k hs,fun s r r1 r2 hsr h1 h2=>by
  have key:∀ x r,upd κ t (.sat φ) x=some (.own r)->κ x=some (.own r):=fun x r hx=>by
   by_cases hxd:x=t
   ·subst hxd;rw[xr] at hx;cases hx
   ·rw[xk _ _ hxd] at hx;exact hx
  exact h.owns s r r1 r2 hsr (key _ _ h1) (key _ _ h2),fun s k hs=>by
  by_cases hst:s=t
  ·subst hst;rw[xr] at hs;cases hs;exact hm
  ·rw[xk _ _ hst] at hs;exact h.mono s k hs⟩
def SlG(e:TypeId)(s n:Nat)(xs:List Value):Res where
 P x H u C:=(n=0/\xs=[]/\SlV e s [] 0 true x H/\∀ k,¬ C k)\/(SlR e s n xs).P x H u C
 st:=fun h hle hs ho hk=>by
  rcases h with ⟨h1,h2,h3,h4⟩ | h
  ·exact .inl ⟨h1,h2,h3.le hle,h4⟩
  ·exact .inr ((SlR e s n xs).st h hle hs ho hk)
def Has.toG{t:Nat}{a:Act}(hk:κ t=some (.sat (SlV e s [] 0 true)))(h:Has F B O n κ a u):Has F B O n (upd κ t (.own (SlG e s 0 []))) a u:=by
 obtain⟨H,fp,h⟩:=h;exact⟨H,_,h.putR (C:=noL) (a':=a) Z Z (fun _ _=>rfl) (.inl ⟨rfl,rfl,h.slot t _ hk,fun _ h=>h⟩) (fun k hk=>hk.elim) (fun _ _ _ _ _ _ hk=>hk.elim)⟩
def zna(t:Nat){c:Code}(hk:κ t=some (.sat (SlV e s [] 0 true)))(h:V P F B n O (upd κ t (.own (SlG e s 0 []))) c zs3):V P F B n O κ c zs3:=fun a u hh=>h a u (hh.toG hk)
def Has.pubG{t:Nat}{a:Act}(hk:κ t=some (.own (SlG e s m xs)))(h:Has F B O n κ a u):Has F B O n (upd κ t (.sat (SlV e s xs m false))) a u:=by
 obtain⟨H,fp,h⟩:=h;obtain⟨hv,hM⟩:=h.slot t _ hk;rcases hv with ⟨rfl,rfl,h3,_⟩ | hv
 ·exact⟨H,fp,h.setSat ns h3.nofu⟩
 ·have h2:=h.putR (d:=t) (r:=SlR e s m xs) (C:=fp t) (a':=a) rfl rfl (fun _ _=>rfl) hv hM (fun t' r' hne hk' k hf hc=>h.owns t' t _ _ hne hk' hk k hf hc);have h3:=Has.pubR (t:=t) (xr _ _ _) ⟨H,_,h2⟩
  rwa [wg] at h3
def zli(t:Nat){c:Code}(hk:κ t=some (.own (SlG e s m xs)))(h:V P F B n O (upd κ t (.sat (SlV e s xs m false))) c zs3):V P F B n O κ c zs3:=fun a u hh=>h a u (hh.pubG hk)
def Er(L:Tabs P){nn:Nat}(hm:0<m)(hn:Nat.blt d n=true)(hg:gK ops κ ⟨some d,.call ⟨.builtin .append,#[.tmp q,y],#[t,t]⟩,ty,pos,aft,g⟩=some true)
  (hq:κ q=some (.own (SlG e s nn xs))) (hy:Apd F B O κ y m news) (ht:L.sl t=some e) (he:elI P e=some (s,by_)) (hl:news.length=m*s) (h1:news.all gj=true) (hb:(nn+m)*by_<=140737488355328) (h63:nn+m<=9223372036854775807):
  ve P F B n ops O κ ⟨some d,.call ⟨.builtin .append,#[.tmp q,y],#[t,t]⟩,ty,pos,aft,g⟩ q po d (.own (SlG e s (nn+m) (xs++news))):=by
 rintro κ' a u hlk hks ⟨H,fp,hh⟩;unfold After;rw[na (xl hh hlk hg)];have en:=hh.env hlk;obtain⟨i,z,hi,hz,hs1,hs2,hs3,hs4⟩:=uf he;have hk':κ' q=some (.own (SlG e s nn xs)):=hks.trans hq;obtain⟨hown,hM⟩:=hh.slot q _ hk';have hyv:=hy _ a u H fp (by simp [Op.operands,Call.operands]) en;have h1':∀ v∈news,v.oneCell'=true:=fun v hv=>dt (zo9.1 h1 v hv)
 have hap:∃ x' u' C',(Builtin.append_ #[t,t] ty #[a.eval (.tmp q),a.eval y]).run P u=.ok x' u'/\(SlR e s (nn+m) (xs++news)).P x' H u' C'/\Grow (fp q) u H u' H/\∀ k,C' k->(fp q k\/u.heap.size<=k)/\k<u'.heap.size/\H k=none:=by
  rcases hown with ⟨rfl,rfl,h3,hC⟩ | hown
  ·have hxx:a.eval (.tmp q)=.slice none 0 0\/∃ a0,a.eval (.tmp q)=.slice (some a0) 0 0:=by
    obtain⟨hl3,⟨_,p0,hx⟩ | ⟨b,off,cap,cs,ty0,fr,hx,hb1,_,hcp,hfu⟩⟩:=h3
    ·cases p0 with
     | none=>exact .inl hx
     | some a0=>exact .inr ⟨a0,hx⟩
    ·obtain rfl:=hfu rfl;exact .inr ⟨_,hx⟩
   rcases hxx with hx | ⟨a0,hx⟩
   ·refine Dv u (Tabs.sl_spec ht) hi hz hs1 hs2 hs3 hs4 hh.sub ⟨by simp,.inl ⟨rfl,hx,hC⟩⟩ (fun k hk=>⟨(hM k hk).1,(hM k hk).2.1⟩) hyv hl h1' h63 hb
   ·rcases hyv with ⟨rfl,_⟩ | ⟨ad,c,hye,hnews⟩
    ·omega
    ·subst hs1 hs2;have hr:=run_append_grow (P:=P) u t ty e i z (Tabs.sl_spec ht) hi hz a0 0 0 [] (by simp) (fun j v hj=>by simp at hj) ad m c news hl hnews T T (growslice_fits T hb);rw[hx,hye];have hmx:0+m<=maxLen:=by simp only[maxLen];omega
     have hge:=grownCap_ge u (0+m) 0 e
     refine⟨_,_,fun k=>k=u.heap.size,hr,⟨by simpa using hl,.inr ⟨u.heap.size,_,(Builtin.zeroCells z.cells (grownCap u (0+m) 0 e-(0+m))).toList,rfl,?_,hge,grownCap_le_maxLen u (0+m) 0 e hmx,?_,fun _=>Iff.rfl⟩⟩,⟨⟨rfl,rfl,rfl,by simp,fun k hk _=>wa u.drew _ hk,zpr _⟩,fun k v hv=>by
      have:=hh.sub.size hv;show(u.drew.alloc _).heap[k]?=some v;rw[wa u.drew _ this];exact hh.sub k v hv,my _,fun _ _ _=>rfl⟩,fun k hk=>by
      subst hk;exact⟨.inr (nu _),by simp,jj hh.sub (nu _)⟩⟩
     ·rw[show u.heap.size=u.drew.heap.size from rfl,heap_alloc_new];congr 2;apply Array.ext';simp
     ·rw[mj,nr,hl,zqy,size_zeroCells,hs3,<-zpx];congr 1;omega
  ·exact Dv u (Tabs.sl_spec ht) hi hz hs1 hs2 hs3 hs4 hh.sub hown (fun k hk=>⟨(hM k hk).1,(hM k hk).2.1⟩) hyv hl h1' h63 hb
 obtain⟨x',u',C',hr,hown',hgr,hC'⟩:=hap
 have hrun:(execOp a.eval ⟨some d,.call ⟨.builtin .append,#[.tmp q,y],#[t,t]⟩,ty,pos,aft,g⟩).run P u=.ok (.value x') u':=by
  simp only[execOp,resolve,invoke,builtin,nw,me,ny,zpn,mz,zph,hr]
 rw[hrun];simp only[Upon];exact⟨H,_,hh.usePut hk' hgr (by simp [Act.put]) Z (fun t ht=>xv ht) (by rw[kg (by rw[hh.size];exact zm hn)];exact .inr hown') hC'⟩
end
end Go.V
namespace Go.V
def RetX(P:Program)(f:FuncId)(args:List Value)(w:World)(B:Heap)(C:Nat->Prop)(r:GR)(v:Value):Prop:=
 RetL P f args w B C fun x H u=>x=v/\∃ C',r.P H u C'/\∀ k,C' k->(C k\/w.heap.size<=k)/\k<u.heap.size/\H k=none
section
def yk(L:Tabs P)(q:Nat)(r':GR)(v:Value){r:GR}{fo:Operand}
  (hn:Nat.blt d n=true) (hg:gK ops κ ⟨some d,.call { callee:=.value fo,args:=args,argTypes:=at_ },ty,pos,aft,g⟩=some true)
  (hf:evK κ fo=some (.func (.func f) #[] cap.toArray)) (hfn:L.fn f=some ()) (hq:κ q=some (.own r.res))
  (h:∀ u H C,zs4 H u->B.Le H->r.P H u C->(ZCB C u H)->Args κ H args.toList [] (fun vs=>RetX P f (vs++cap) u H C r' v)):
  ve P F B n ops O κ ⟨some d,.call { callee:=.value fo,args:=args,argTypes:=at_ },ty,pos,aft,g⟩ q (.own r'.res) d (.is v):=by
 rintro κ' a u hlk hks ⟨H,fp,hh⟩;unfold After;rw[na (xl hh hlk hg)];have hk':κ' q=some (.own r.res):=hks.trans hq;obtain⟨hown,hM⟩:=hh.slot q _ hk';have e2:=hh.env hlk;have hfe:a.eval fo=.func (.func f) #[] cap.toArray:=e2.is_ fo _ (by simp [Op.operands,Call.operands]) hf;have hc:=Args.use e2 args.toList [] (fun x hx=>by simp [Op.operands,Call.operands] at hx |-;exact .inr hx) (h u H (fp q) hh.sub hh.base hown fun k hk=>⟨(hM k hk).1,(hM k hk).2.1⟩);simp only[zpv,mj] at hc;rw[ux L rfl hfe hfn];simp only[Upon];refine Calls.mono hc fun e' u' hp=>?_;obtain⟨x,rfl,H',g',hx,C',hv,hC'⟩:=hp;have h2:=hh.usePut (d:=q) (a':=a) (r':=r'.res) hk' g' rfl rfl (fun _ _=>rfl) hv hC';rw[wg] at h2;exact⟨x,Z,H',_,h2.put (k:=.is v) (zm hn) trivial hx⟩
def ke(L:Tabs P){fn:Func}(gs:Nat){r r':GR}{rs:List ResultVar}(hrs:fn.results=rs.toArray)
  (hQ:∀ a u,bodyPostM Fence.wide 0 P fn (li F.w0 B0 F.L fun x H u=>x=v/\∃ C',r'.P H u C'/\∀ k,C' k->(F.L k\/F.w0.heap.size<=k)/\k<u.heap.size/\H k=none) .ret a u->zs3 .ret a u) (hs:Since F B0 B) (hk:κ gs=some (.own r.res)) (e:r=r')
  (h:∀ H,Dy L F B O κ H rs [] (fun vs=>tup vs=v)) (hd:F.ds=[]:=by rfl):V P F B n O κ .ret zs3:=fun a u hh=>by
 obtain⟨H,fp,hH⟩:=hh;refine wpIn_ret (hQ a u ?_);have h0:=hH.defers;rw[hd] at h0;show LeavesInM _ _ _ _ _ _ a.defers _ _;rw[h0];subst e;obtain⟨vs,h1,h2⟩:=we L hH hrs (h H);obtain⟨C',h3,h4⟩:=HasH.ghost hk hH;exact⟨_,h1,_,rfl,H,⟨hH.keep,hH.sub,hs.le.trans hH.base,fun k hk hl=>(hH.fresh k hk hl).trans (hs.fresh k hk hl)⟩,h2,C',h3,h4⟩
def P4{k k2:IntKind}{q r:Int}(hn:Nat.blt d n=true)(hg:gK ops κ ⟨some d,.binOp .shl t x y t',ty,pos,aft,g⟩=some true)(hx:evK κ x=some (.int k p))(hy:evK κ y=some (.int k2 q))(h0:0<=q)(hb:k.wrap (p*2^min q.toNat k.bits)=r):
  StepOK P F B n ops O κ ⟨some d,.binOp .shl t x y t',ty,pos,aft,g⟩ d (.is (.int k r)):=w7 hn hg hx hy fun u=>by subst hb;simp [eqGuard_shl,binOp_shl,Op.shift,Int.not_lt.2 h0]
def Vn{k:IntKind}{q r:Int}(hn:Nat.blt d n=true)(hg:gK ops κ ⟨some d,.binOp .xor t x y t',ty,pos,aft,g⟩=some true)(hx:evK κ x=some (.int k p))(hy:evK κ y=some (.int k q))(hb:bits .xor k p q=r):
  StepOK P F B n ops O κ ⟨some d,.binOp .xor t x y t',ty,pos,aft,g⟩ d (.is (.int k r)):=w7 hn hg hx hy fun u=>by subst hb;simp [eqGuard_xor,binOp_xor,intBits_xor]
def s6{id:Nat}{x y:Code}{R:Exit->Act->World->Prop}(hm:zln P F B n R y zs3)(h:V P F B n O κ x (Exit.inBlock id R)):V P F B n O κ x (Exit.inBlock id (Exit.then (fun a u=>y.wpIn (FW F.r) 0 P zs3 a u) zs3)):=fun a u hh=>by
 have key:∀ e a u,R e a u->Exit.then (fun a u=>y.wpIn (FW F.r) 0 P zs3 a u) zs3 e a u:=fun e a u he=>by
  cases e<;>first | exact hm.1 a u he | exact hm.2 _ a u (by intro h;cases h) he
 refine Go.wpIn_mono (h a u hh) fun e a u he=>?_
 cases e with
 | exit j=>
  simp only[Exit.inBlock] at he |-;split at he
  ·rename_i h;rw[na h];exact key _ _ _ he
  ·rename_i h;rw[nc h];exact key _ _ _ he
 | _=>exact key _ _ _ he
end
def uC(d:Array Int):List Value:=d.toList.map (Value.int .u64)
def Bz(d:Array Int):(uC d).length=d.size:=by simp [uC]
def zeh{d:Array Int}(h:j<d.size):(uC d)[j]?=some (.int .u64 d[j]!):=by
 unfold uC;rw[zpl,zrt,zpj h,getElem!_pos d j h];rfl
def gv{d:Array Int}(h:j<d.size)(off:Nat)(ho:off=0+j*1):∃ r,(uC d++rest).drop off=.int .u64 d[j]! ::r:=by
 subst ho;rw[zo2,zqa];have hl:j<(uC d++rest).length:=by rw[nr,Bz];omega
 refine⟨(uC d++rest).drop (j+1),?_⟩;rw[zpu hl];congr 1;have:=zeh h;rw[<-zp5 (l₂:=rest) (by rw[Bz];exact h),zpe hl] at this;exact Option.some.inj this
def vq{d:Array Int}(z:Int)(h:j<d.size)(off:Nat)(ho:off=0+j*1):(uC d++rest).take off++([.int .u64 z]++(uC d++rest).drop (off+1))=uC (d.setIfInBounds j z)++rest:=by
 subst ho;rw[zo2,zqa]
 have h1:uC (d.setIfInBounds j z)=(uC d).set j (.int .u64 z):=by
  unfold uC;rw[zsk,List.map_set]
 rw[h1,zso (by rw[Bz];omega),List.drop_append_of_le_length (by rw[Bz];omega),List.set_eq_take_append_cons_drop,na (by rw[Bz];exact h)];simp
def vr{d:Array Int}(h:j<d.size)(off:Nat)(ho:off=0+j*1):Nat.ble (off+1) (uC d++rest).length=true:=zru (by rw[nr,Bz];omega)
def fi(d:Array Int)(i j:Nat):(d.setIfInBounds i d[j]!).setIfInBounds j d[i]! =Go.Sort.swp d i j:=rfl
def wj(d:Array Int)(i j:Nat):(Go.Sort.swp d i j).size=d.size:=by unfold Go.Sort.swp;rw[Array.size_setIfInBounds,Array.size_setIfInBounds]
end Go.V
namespace Go.V
def SlC(e:TypeId)(s n:Nat)(xs:List Value):Res where
 P x _ u C:=xs.length=n*s/\((n=0/\x=.slice none 0 0/\∀ k,¬ C k)\/∃ b rest,x=.slice (some ⟨b,0,none⟩) n n/\u.heap[b]?=some (.cells (xs++rest).toArray e)/\n<=maxLen/\∀ k,C k↔k=b)
 st:=fun⟨hl,h⟩ _ _ _ hk=>⟨hl,by
  rcases h with h | ⟨b,rest,h1,h2,h3,h4⟩
  ·exact .inl h
  ·exact .inr ⟨b,rest,h1,(hk b ((h4 b).2 rfl)).trans h2,h3,h4⟩⟩
def SlE.toC{x:Value}(h:(SlE e s n xs).P x H u C):(SlC e s n xs).P x H u C:=
 ⟨h.1,h.2.imp id fun⟨b,h1,h2,h3,h4⟩=>⟨b,[],h1,by rw[mq];exact h2,h3,h4⟩⟩
def zct:zl1 (SlC e s m xs) (SlV e s xs m true):=fun x H u C ⟨hl,h⟩=>⟨hl,by
 rcases h with ⟨h0,hx,_⟩ | ⟨b,rest,hx,hb,_,hC⟩
 ·exact .inl ⟨h0,none,by rw[hx]⟩
 ·exact .inr ⟨b,0,m,_,_,_,hx,(cm ((hC b).2 rfl)).trans hb,by simp,nu _,fun _=>rfl⟩⟩
def SlR.shape2:∀ v H u C,(SlR e s m xs).P v H u C->∃ p c,v=.slice p m c/\m<=c/\(p=none/\c=0\/∃ b,p=some ⟨b,0,none⟩):=fun v _ _ _ ⟨_,h⟩=>by
 rcases h with ⟨h0,h,_⟩ | ⟨b,cap,rest,h,_,h3,_⟩
 ·subst h0;exact⟨none,0,h,nu _,.inl ⟨rfl,rfl⟩⟩
 ·exact⟨_,cap,h,h3,.inr ⟨b,rfl⟩⟩
section
variable             {a:Act}  
def zcb(L:Tabs P){z:Operand}{c:Nat}{p:Option Addr}{km:IntKind}(hp:p=none/\c=0\/∃ b,p=some ⟨b,0,none⟩)(hmc:m<=c)(hn:Nat.blt d n=true)(hg:gK ops κ ⟨some d,.slice tt x none (some y) (some z),ty,pos,aft,g⟩=some true)
  (hx:evK κ x=some (.slice p m c)) (ht:L.sl tt=some e) (hl:L.ld e=some (ag,s)) (hy:evK κ y=some (.int kh m)) (hz:evK κ z=some (.int km m)):
  StepOK P F B n ops O κ ⟨some d,.slice tt x none (some y) (some z),ty,pos,aft,g⟩ d (.is (.slice p m m)):=
 kj rfl (zm hn) hg trivial fun a u H fp en=>⟨_,by
  have hu:=Tabs.sl_spec ht;have h1:=en.is_ x _ (by simp [Op.operands]) hx;have h2:=en.is_ y _ (by simp [Op.operands]) hy;have h3:=en.is_ z _ (by simp [Op.operands]) hz
  have hrun:(Instr.sliceBounds true m c none (some (a.eval y)) (some (a.eval z))).run P u=.ok (0,m,m) u:=by
   simp [h2,h3,Instr.sliceBounds,k9 m km c _ hmc,k9 m kh m _ (nu _)]
  rcases hp with ⟨rfl,rfl⟩ | ⟨b,rfl⟩
  ·obtain rfl:m=0:=by omega
   simp only[execOp,h1,Instr.sliceAt,Instr.slice,nw,run_underlying hu,ny,zq6,zql,hrun,ja (Tabs.ld_spec hl)];rfl
  ·simp only[execOp,h1,Instr.sliceAt,Instr.slice,nw,run_underlying hu,ny,zq6,zql,hrun,ja (Tabs.ld_spec hl),me];congr 3;split<;>simp [Addr.add],rfl⟩
def zar(t g:Nat){s m c:Nat}{p:Option Addr}{cc:Code}(hk:κ g=some (.own (AtV (.slice p m c) (SlR e s m xs))))(ht:κ t=some (.is (.slice p m m)))(h:V P F B n O (upd (upd κ g po) t (.own (SlC e s m xs))) cc zs3):V P F B n O κ cc zs3:=fun a u hh=>by
 obtain⟨H,fp,hh⟩:=hh;obtain⟨hown,hM⟩:=hh.slot g _ hk;have hx:a.eval (.tmp t)=.slice p m m:=hh.slot t _ ht
 have hP:(SlC e s m xs).P (a.eval (.tmp t)) H u (fp g):=by
  rw[hx];obtain⟨hl,h⟩:=hown;refine⟨hl,?_⟩;rcases h with ⟨h0,h1,h2⟩ | ⟨b,cap,rest,h1,h2,h3,h4,h5,h6⟩
  ·cases h1;exact .inl ⟨h0,rfl,h2⟩
  ·cases h1;exact .inr ⟨b,rest,rfl,h2,mp h3 h4,h6⟩
 exact h a u ⟨H,_,hh.usePut (d:=t) (a':=a) (r':=SlC e s m xs) (C:=fp g) hk ⟨Keep.refl _ _,hh.sub,my _,fun _ _ _=>rfl⟩ Z Z (fun _ _=>rfl) hP fun k hk=>⟨.inl hk,(hM k hk).1,(hM k hk).2.1⟩⟩
def znb(t:Nat){c:Code}(hk:κ t=some (.own (SlE e s m xs)))(h:V P F B n O (upd κ t (.own (SlC e s m xs))) c zs3):V P F B n O κ c zs3:=fun a u hh=>by
 obtain⟨H,fp,hh⟩:=hh;exact h a u ⟨H,fp,hh.turnR hk (SlE.toC (hh.slot t _ hk).1)⟩
end
end Go.V
namespace Go.V
section
end
end Go.V
namespace Go.V
section
def zlm(B:Heap)(v:Value):Prop:=∀ b o k m c,v=.slice (some ⟨b,o,k⟩) m c->B b=none
end
end Go.V
namespace Go.V
section
def Dh{b:Nat}{L:Nat->Prop}{o:Obj}(hs:zs4 H u)(hL:L b)(hH:H b=none):Grow L u H (u.putObj b o) H:=
 ⟨⟨rfl,rfl,rfl,Nat.le_of_eq World.putObj_size.symm,fun k _ hk=>zr2 (fun e=>hk (e ▸ hL)),nu _⟩,fun k x hx=>by
  have:k≠b:=fun e=>by subst e;rw[hH] at hx;cases hx
  show(u.putObj b o).heap[k]?=some x;rw[zr2 this];exact hs k x hx,my _,fun _ _ _=>rfl⟩
end
section
variable  {b:Frame} {a:Act} {k:List Item} {cs:List Frame} 
end
section
end
end Go.V
namespace Go.V
section
end
section
variable {V:Type} [DecidableEq K]
def pt(k:K):List (K×V)->Nat->Option (Nat×V)
 | [],_=>none
 | p::l,i=>if k=p.1 then some (i,p.2) else pt k l (i+1)
def ut(k:K)(l:List (K×V)):Option V:=(pt k l 0).map (·.2)
def Oc(k:K)(v:V):List (K×V)->List (K×V)
 | []=>[(k,v)]
 | p::l=>if k=p.1 then (p.1,v)::l else p::Oc k v l
def oy(k:K):∀ (l:List (K×V)) (i:Nat),pt k l (i+1)=(pt k l i).map fun p=>(p.1+1,p.2)
 | [],_=>rfl
 | p::l,i=>by
  unfold pt;split
  ·rfl
  ·exact oy k l (i+1)
def vk(k:K)(p:K×V)(l:List (K×V)):ut k (p::l)=if k=p.1 then some p.2 else ut k l:=by
 unfold ut;rw[pt];split
 ·rfl
 ·rw[oy,Option.map_map];rfl
def Qf(k k':K)(v:V):∀ l:List (K×V),ut k (Oc k' v l)=if k=k' then some v else ut k l
 | []=>by rw[Oc,vk]
 | p::l=>by
  rw[Oc];split
  ·rename_i h;rw[vk,vk];by_cases h1:k=p.1
   ·rw[na h1,na (h1.trans h.symm)]
   ·rw[nc h1,nc (fun e=>h1 (e.trans h))];rw[nc h1]
  ·rename_i h;rw[vk,vk,Qf k k' v l];by_cases h1:k=p.1
   ·rw[na h1,nc (fun e=>h (e.symm.trans h1)),na h1]
   ·rw[nc h1,nc h1]
def De{k:K}:∀ {l:List (K×V)} {i j:Nat} {x:V},pt k l i=some (j,x)->∃ n,j=i+n/\l[n]?=some (k,x)
 | [],_,_,_,h=>by cases h
 | p::l,i,j,x,h=>by
  unfold pt at h;split at h
  ·rename_i hk;cases h;exact⟨0,rfl,by subst hk;rfl⟩
  ·obtain⟨n,hn,hx⟩:=De h;exact⟨n+1,by omega,hx⟩
def r9{k:K}{v:V}:∀ {l:List (K×V)} {i:Nat},pt k l i=none->Oc k v l=l++[(k,v)]
 | [],_,_=>rfl
 | p::l,i,h=>by
  unfold pt at h;split at h
  ·cases h
  ·rename_i hk;rw[Oc,nc hk,r9 h];rfl
end
section
variable  {V:Type} [DecidableEq K] {kc:K->List Value} {vc:V->Value} {l:List (K×V)} {kt et:TypeId} {ls:List Nat}
end
section
variable             {a:Act}     
variable {Y:Type} [DecidableEq K] {kc:K->List Value} {vc:Y->Value} {l:List (K×Y)}
end
end Go.V
namespace Go.V
def uo{l:List α}{x:α}(h:l[i]?=some x):l.take (i+1)=l.take i++[x]:=by
 rw[zpa,h];rfl
section
def Has.relE{t:Nat}{b:Nat}{a:Act}(hk:κ q=some (.own (xu b xs e)))(ht:κ t=some (.is (.slice (some ⟨b,0,none⟩) m m)))(hl:xs.length=m*s)(hm:m<=maxLen)(hh:Has F B O n κ a u):Has F B O n (upd (upd κ q po) t (.own (SlE e s m xs))) a u:=by
 obtain⟨H,fp,hh⟩:=hh;obtain⟨⟨hb,hC⟩,hM⟩:=hh.slot q _ hk;have hx:a.eval (.tmp t)=.slice (some ⟨b,0,none⟩) m m:=hh.slot t _ ht;exact⟨H,_,hh.usePut (d:=t) (a':=a) (r':=SlE e s m xs) (C:=fp q) hk ⟨Keep.refl _ _,hh.sub,my _,fun _ _ _=>rfl⟩ Z Z (fun _ _=>rfl) ⟨hl,.inr ⟨b,hx,hb,hm,hC⟩⟩ fun k hk=>⟨.inl hk,(hM k hk).1,(hM k hk).2.1⟩⟩
def zfg(t q:Nat){b:Nat}{c:Code}(hk:κ q=some (.own (xu b xs e)))(ht:κ t=some (.is (.slice (some ⟨b,0,none⟩) m m)))(hl:xs.length=m*s)(hm:m<=maxLen)
  (h:V P F B n O (upd (upd κ q po) t (.own (SlE e s m xs))) c zs3):V P F B n O κ c zs3:=fun a u hh=>h a u (hh.relE hk ht hl hm)
def StepOK.seeV(h:StepOK P F B n ops O κ o d (.is v))(hv:SlV e s xs m fu v B):StepOK P F B n ops O κ o d (.sat (SlV e s xs m fu)):=fun κ' a u hl hh=>
 After.mono (fun a' u' hh'=>by
  have h2:=hh'.seen (t:=d) (SlV e s xs m fu) (xr _ _ _) ns hv
  rwa [wg] at h2) (h κ' a u hl hh)
def Has.pubH{q b:Nat}{a:Act}(hk:κ q=some (.own (xu b cs t')))(hh:Has F B O n κ a u):∃ H,Since F B H/\B b=none/\H b=some (.cells cs.toArray t')/\Has F H O n (upd κ q po) a u:=by
 obtain⟨H,fp,hh⟩:=hh;obtain⟨⟨hb,hC⟩,hM⟩:=hh.slot q _ hk;have hbm:=hM b ((hC b).2 rfl);obtain⟨H',h'⟩:=hh.pub (φ:=fun _ H=>H b=some (.cells cs.toArray t')) hk hb ((hC b).2 rfl) (fun _ _ _ h hle=>hle _ _ h) fun H' _ hb'=>hb';have hx:H' b=some (.cells cs.toArray t'):=h'.slot q _ (xr _ _ _);refine⟨H',h'.isSince,?_,hx,H',fp,?_⟩
 ·cases hB:B b with
  | none=>rfl
  | some z=>have:=hh.base _ _ hB;rw[hbm.2.1] at this;cases this
 ·have h2:=(h'.rebase).setSat (t:=q) (φ:=fun _ _=>True) (fun _ _ _ _ _=>trivial) trivial
  rwa [wg] at h2
def wk(q:Nat){b:Nat}{c:Code}(hk:κ q=some (.own (xu b cs t')))(h:∀ H,Since F B H->B b=none->H b=some (.cells cs.toArray t')->V P F H n O (upd κ q po) c zs3):V P F B n O κ c zs3:=fun a u hh=>
 let ⟨H,h1,h2,h3,h4⟩:=hh.pubH hk;h H h1 h2 h3 a u h4
def Hp(L:Tabs P){fn:Func}{r:Res}{rs:List ResultVar}(hrs:fn.results=rs.toArray)
  (hQ:∀ a u,bodyPostM Fence.wide 0 P fn (li F.w0 B0 F.L (zik F.w0 r)) .ret a u->zs3 .ret a u) (hs:Since F B0 B)
  (h:∀ H,Dy L F B O κ H rs [] (fun vs=>tup vs=v)) (hr:∀ H u,B.Le H->r.P v H u noL) (hd:F.ds=[]:=by rfl):V P F B n O κ .ret zs3:=fun a u hh=>by
 obtain⟨H,fp,hH⟩:=hh;refine wpIn_ret (hQ a u ?_);have h0:=hH.defers;rw[hd] at h0;show LeavesInM _ _ _ _ _ _ a.defers _ _;rw[h0];obtain⟨vs,h1,h2⟩:=we L hH hrs (h H);exact⟨_,h1,_,rfl,H,⟨hH.keep,hH.sub,hs.le.trans hH.base,fun k hk hl=>(hH.fresh k hk hl).trans (hs.fresh k hk hl)⟩,noL,by rw[h2];exact hr H u hH.base,fun _ h=>h.elim⟩
end
section
variable             {Y:Type} [DecidableEq K] {kc:K->List Value} {vc:Y->Value} {l:List (K×Y)}
end
end Go.V
namespace Go.V
section
end
end Go.V
namespace Go.V
def SlW(e:TypeId)(s n:Nat)(xs:List Value):Value->Heap->Prop:=fun v H=>xs.length=n*s/\((n=0/\v=.slice none 0 0)\/∃ b cap rest,v=.slice (some ⟨b,0,none⟩) n cap/\H b=some (.cells (xs++rest).toArray e)/\n<=cap/\cap<=maxLen/\(xs++rest).length=cap*s)
def SlW.toV{s n:Nat}(h:SlW e s n xs v H):SlV e s xs n false v H:=⟨h.1,by
 rcases h.2 with ⟨h1,h2⟩ | ⟨b,cap,rest,h1,h2,h3,_,_⟩
 ·exact .inl ⟨h1,_,h2⟩
 ·exact .inr ⟨b,0,cap,_,_,(0,0),h1,h2,by show((xs++rest).drop 0).take xs.length=_;rw[zpy,List.take_left],h3,fun h=>by cases h⟩⟩
section
def Has.pubW{t:Nat}{s m:Nat}{a:Act}(hk:κ t=some (.own (SlR e s m xs)))(hh:Has F B O n κ a u):∃ x H,Since F B H/\zlm B x/\SlW e s m xs x H/\Has F H O n (upd κ t (.is x)) a u:=by
 obtain⟨H,fp,hh⟩:=hh;obtain⟨⟨hl,hv⟩,hM⟩:=hh.slot t _ hk;rcases hv with ⟨h0,hv,hC⟩ | ⟨b,cap,rest,hv,hb,h3,h4,h5,hC⟩
 ·exact⟨_,H,hh.isSince,(fun b o k m c e=>by rw[hv] at e;cases e),⟨hl,.inl ⟨h0,hv⟩⟩,H,fp,(hh.name t).rebase⟩
 ·have hbm:=hM b ((hC b).2 rfl);obtain⟨H',h'⟩:=hh.pub (φ:=fun v H=>v=.slice (some ⟨b,0,none⟩) m cap/\H b=some (.cells (xs++rest).toArray e)) hk hb ((hC b).2 rfl) (fun _ _ _ h hle=>⟨h.1,hle _ _ h.2⟩) fun H' _ hb'=>⟨hv,hb'⟩
  have hx:=h'.slot t _ (xr _ _ _)
  have hB:B b=none:=by
   cases hB:B b with
   | none=>rfl
   | some z=>have:=hh.base _ _ hB;rw[hbm.2.1] at this;cases this
  have h2:=(h'.name t).rebase;rw[wg] at h2;exact⟨_,H',h'.isSince,(fun b' o k m c e=>by rw[hv] at e;cases e;exact hB),⟨hl,.inr ⟨b,cap,rest,hv,hx.2,h3,h4,h5⟩⟩,H',fp,h2⟩
def zap(t:Nat){c:Code}(hk:κ t=some (.own (SlR e s m xs)))(h:∀ x H,Since F B H->zlm B x->SlW e s m xs x H->V P F H n O (upd κ t (.is x)) c zs3):V P F B n O κ c zs3:=fun a u hh=>
 let ⟨x,H,h1,h2,h3,h4⟩:=hh.pubW hk;h x H h1 h2 h3 a u h4
def Sy(L:Tabs P){b cap:Nat}{nn:Nat}(hn:Nat.blt d n=true)(hg:gK ops κ ⟨some d,.call ⟨.builtin .append,#[x,y],#[t,t]⟩,ty,pos,aft,g⟩=some true)
  (hx:evK κ x=some (.slice (some ⟨b,0,none⟩) nn cap)) (hq:κ q=some (.own (xu b (xs++rest) e))) (hxl:xs.length=nn*s) (hnc:nn<=cap) (hcm:cap<=maxLen) (hcl:(xs++rest).length=cap*s) (hy:Apd F B O κ y m news) (ht:L.sl t=some e) (he:elI P e=some (s,by_)) (hl:news.length=m*s) (h1:news.all gj=true) (hb:(nn+m)*by_<=140737488355328) (h63:nn+m<=9223372036854775807):
  ve P F B n ops O κ ⟨some d,.call ⟨.builtin .append,#[x,y],#[t,t]⟩,ty,pos,aft,g⟩ q po d (.own (SlR e s (nn+m) (xs++news))):=by
 rintro κ' a u hlk hks ⟨H,fp,hh⟩;unfold After;rw[na (xl hh hlk hg)];have en:=hh.env hlk;obtain⟨i,z,hi,hz,hs1,hs2,hs3,hs4⟩:=uf he;have hxe:=en.is_ x _ (by simp [Op.operands,Call.operands]) hx;have hk':κ' q=some (.own (xu b (xs++rest) e)):=hks.trans hq;obtain⟨⟨hb',hC⟩,hM⟩:=hh.slot q _ hk';have hown:(SlR e s nn xs).P (.slice (some ⟨b,0,none⟩) nn cap) H u (fp q):=⟨hxl,.inr ⟨b,cap,rest,rfl,hb',hnc,hcm,hcl,hC⟩⟩
 obtain⟨x',u',C',hr,hown',hgr,hC'⟩:=Dv u (aty:=ty) (Tabs.sl_spec ht) hi hz hs1 hs2 hs3 hs4 hh.sub hown (fun k hk=>⟨(hM k hk).1,(hM k hk).2.1⟩) (hy _ a u H fp (by simp [Op.operands,Call.operands]) en) hl (fun v hv=>dt (zo9.1 h1 v hv)) h63 hb
 have hrun:(execOp a.eval ⟨some d,.call ⟨.builtin .append,#[x,y],#[t,t]⟩,ty,pos,aft,g⟩).run P u=.ok (.value x') u':=by
  simp only[execOp,resolve,invoke,builtin,nw,me,ny,zpn,mz,zph,hxe,hr]
 rw[hrun];simp only[Upon];exact⟨H,_,hh.usePut hk' hgr (by simp [Act.put]) Z (fun t ht=>xv ht) (by rw[kg (by rw[hh.size];exact zm hn)];exact hown') hC'⟩
end
def Has.nilAt(g:Nat)(e:TypeId)(s:Nat){a:Act}(hh:Has F B O n κ a u):Has F B O n (upd κ g (.own (AtV (.slice none 0 0) (SlR e s 0 [])))) a u:=by
 obtain⟨H,fp,hh⟩:=hh;exact⟨H,_,hh.putR (C:=noL) (a':=a) Z Z (fun _ _=>rfl) ⟨by simp,.inl ⟨rfl,rfl,fun _ h=>h⟩⟩ (fun _ h=>h.elim) fun _ _ _ _ _ _ h=>h⟩
def zaq(g:Nat)(e:TypeId)(s:Nat){c:Code}(h:V P F B n O (upd κ g (.own (AtV (.slice none 0 0) (SlR e s 0 [])))) c zs3):V P F B n O κ c zs3:=fun a u hh=>h a u (hh.nilAt g e s)
end Go.V
namespace Go.V
def im(r1 r2:Res):Res where
 P v H u C:=∃ C1 C2:Nat->Prop,r1.P v H u C1/\r2.P v H u C2/\(∀ k,C k↔C1 k\/C2 k)/\∀ k,C1 k->¬ C2 k
 st:=fun⟨C1,C2,h1,h2,h3,h4⟩ hle hs ho hk=>⟨C1,C2,r1.st h1 hle hs ho fun k hc=>hk k ((h3 k).2 (.inl hc)),r2.st h2 hle hs ho fun k hc=>hk k ((h3 k).2 (.inr hc)),h3,h4⟩
def gu(r1 r2:GR):GR where
 P H u C:=∃ C1 C2:Nat->Prop,r1.P H u C1/\r2.P H u C2/\(∀ k,C k↔C1 k\/C2 k)/\∀ k,C1 k->¬ C2 k
 st:=fun⟨C1,C2,h1,h2,h3,h4⟩ hle hs ho hk=>⟨C1,C2,r1.st h1 hle hs ho fun k hc=>hk k ((h3 k).2 (.inl hc)),r2.st h2 hle hs ho fun k hc=>hk k ((h3 k).2 (.inr hc)),h3,h4⟩
def w9(r1 r2:GR):(gu r1 r2).res=im r1.res r2.res:=rfl
def GEx{X:Type}(r:X->GR)(φ:X->Heap->Prop)(hφ:oc φ):GR where
 P H u C:=∃ x,φ x H/\(r x).P H u C
 st:=fun⟨x,h1,h2⟩ hle hs hon hk=>⟨x,hφ _ _ _ h1 hle,(r x).st h2 hle hs hon hk⟩
section
variable              {a:Act}  
def Has.part{g1:Nat}(hne:q≠g1)(hg1:∀ v v' H u C,r2.P v H u C->r2.P v' H u C)(hk:κ q=some (.own (im r1 r2)))(h:Has F B O n κ a u):Has F B O n (upd (upd κ q (.own r1)) g1 (.own r2)) a u:=by
 obtain⟨H,fp,hh⟩:=h;obtain⟨⟨C1,C2,h1,h2,h3,h4⟩,hM⟩:=hh.slot q _ hk;have e2:=hh.putR (d:=q) (r:=r1) (C:=C1) (a':=a) rfl rfl (fun _ _=>rfl) h1 (fun k hk'=>hM k ((h3 k).2 (.inl hk'))) (fun t r' hne' hk' k hf hc=>hh.owns t q _ _ hne' hk' hk k hf ((h3 k).2 (.inl hc)))
 have e3:=e2.putR (d:=g1) (r:=r2) (C:=C2) (a':=a) rfl rfl (fun _ _=>rfl) (hg1 _ _ _ _ _ h2) (fun k hk'=>hM k ((h3 k).2 (.inr hk'))) (fun t r' hne' hk' k hf hc=>by
  by_cases e:t=q
  ·subst e;rw[sg] at hf;exact h4 k hf hc
  ·rw[bn _ _ e] at hf;rw[xk _ _ e] at hk';exact hh.owns t q _ _ e hk' hk k hf ((h3 k).2 (.inr hc)))
 exact⟨H,_,e3⟩
def Has.join2{q g1:Nat}{r1 r2:Res}(hne:q≠g1)(hg1:∀ v v' H u C,r2.P v H u C->r2.P v' H u C)(hk:κ q=some (.own r1))(hk1:κ g1=some (.own r2))(h:Has F B O n κ a u):Has F B O n (upd (upd κ g1 po) q (.own (im r1 r2))) a u:=by
 obtain⟨H,fp,hh⟩:=h;obtain⟨h1,hM⟩:=hh.slot q _ hk;obtain⟨h2,hM1⟩:=hh.slot g1 _ hk1;have e1:=hh.drop1 g1;have hkq:upd κ g1 po q=some (.own r1):=by rw[xk _ _ hne];exact hk
 have e2:=e1.putR (d:=q) (r:=im r1 r2) (C:=fun k=>fp q k\/fp g1 k) (a':=a) rfl rfl (fun _ _=>rfl) ⟨fp q,fp g1,h1,hg1 _ _ _ _ _ h2,fun _=>Iff.rfl,hh.owns q g1 _ _ hne hk hk1⟩
  (fun k hk'=>hk'.elim (hM k) (hM1 k)) (fun t r' hne' hk' k hf hc=>by
   by_cases e:t=g1
   ·subst e;rw[xr] at hk';cases hk'
   ·rw[xk _ _ e] at hk';rcases hc with hc | hc
    ·exact hh.owns t q _ _ hne' hk' hk k hf hc
    ·exact hh.owns t g1 _ _ e hk' hk1 k hf hc)
 exact⟨H,_,e2⟩
def uj(q g1:Nat){c:Code}(hk:κ q=some (.own (im r1 r2)))(hg1:∀ v v' H u C,r2.P v H u C->r2.P v' H u C)(h:V P F B n O (upd (upd κ q (.own r1)) g1 (.own r2)) c zs3)(hne:q≠g1:=by decide):V P F B n O κ c zs3:=fun a u hh=>h a u (hh.part hne hg1 hk)
def wc(q g1:Nat){c:Code}(hk:κ q=some (.own r1))(hk1:κ g1=some (.own r2))(hg1:∀ v v' H u C,r2.P v H u C->r2.P v' H u C)(h:V P F B n O (upd (upd κ g1 po) q (.own (im r1 r2))) c zs3)(hne:q≠g1:=by decide):V P F B n O κ c zs3:=fun a u hh=>h a u (hh.join2 hne hg1 hk hk1)
def o9(q g1:Nat)(hk:κ q=some (.own r1))(hk1:κ g1=some (.own r2))(hg1:∀ v v' H u C,r2.P v H u C->r2.P v' H u C)(h:N F B n O (upd (upd κ g1 po) q (.own (im r1 r2))) zs3)(hne:q≠g1:=by decide):N F B n O κ zs3:=fun a u hh=>h a u (hh.join2 hne hg1 hk hk1)
def Mx(q g1:Nat)(hk:κ q=some (.own (im r1 r2)))(hg1:∀ v v' H u C,r2.P v H u C->r2.P v' H u C)(h:VO P F B n O ops (upd (upd κ q (.own r1)) g1 (.own r2)) os zs3)(hne:q≠g1:=by decide):VO P F B n O ops κ os zs3:=fun a u hh=>h a u (hh.part hne hg1 hk)
def jv(q g1:Nat)(hk:κ q=some (.own r1))(hk1:κ g1=some (.own r2))(hg1:∀ v v' H u C,r2.P v H u C->r2.P v' H u C)(h:VO P F B n O ops (upd (upd κ g1 po) q (.own (im r1 r2))) os zs3)(hne:q≠g1:=by decide):VO P F B n O ops κ os zs3:=fun a u hh=>h a u (hh.join2 hne hg1 hk hk1)
def xi(r:GR):∀ (v v':Value) H u C,r.res.P v H u C->r.res.P v' H u C:=fun _ _ _ _ _ h=>h
def co(b:Nat)(cs:List Value)(ty:TypeId):∀ (v v':Value) H u C,(xu b cs ty).P v H u C->(xu b cs ty).P v' H u C:=fun _ _ _ _ _ h=>h
def Hn(x:Value)(r:Res):∀ (v v':Value) H u C,(AtV x r).P v H u C->(AtV x r).P v' H u C:=fun _ _ _ _ _ h=>h
def Has.turnO{t:Nat}{r r':Res}(hk:κ t=some (.own r))(hr:∀ v H u C,B.Le H->r.P v H u C->r'.P v H u C)(h:Has F B O n κ a u):Has F B O n (upd κ t (.own r')) a u:=by
 obtain⟨H,fp,h⟩:=h;exact⟨H,fp,h.turnR hk (hr _ _ _ _ h.base (h.slot t _ hk).1)⟩
def vn(t:Nat){r:Res}(r':Res){c:Code}(hk:κ t=some (.own r))(hr:∀ v H u C,B.Le H->r.P v H u C->r'.P v H u C)(h:V P F B n O (upd κ t (.own r')) c zs3):V P F B n O κ c zs3:=fun a u hh=>h a u (hh.turnO hk hr)
def zil(t:Nat){r:Res}(r':Res)(hk:κ t=some (.own r))(hr:∀ v H u C,B.Le H->r.P v H u C->r'.P v H u C)(h:N F B n O (upd κ t (.own r')) zs3):N F B n O κ zs3:=fun a u hh=>h a u (hh.turnO hk hr)
def RetY(P:Program)(f:FuncId)(args:List Value)(w:World)(B:Heap)(C:Nat->Prop)(r:GR)(φ:Value->Heap->Prop):Prop:=
 RetL P f args w B C fun x H u=>φ x H/\∃ C',r.P H u C'/\∀ k,C' k->(C k\/w.heap.size<=k)/\k<u.heap.size/\H k=none
def RetY.mono{f:FuncId}{args:List Value}{w:World}{C:Nat->Prop}{r:GR}{φ ψ:Value->Heap->Prop}(h:RetY P f args w B C r φ)(hi:∀ v H,B.Le H->φ v H->ψ v H):RetY P f args w B C r ψ:=RetL.mono h fun v H u hg hp=>⟨hi v H hg.le hp.1,hp.2⟩
def RetX.toY{f:FuncId}{args:List Value}{r:GR}(h:RetX P f args w B C r v):RetY P f args w B C r (fun x _=>x=v):=RetL.mono h fun _ _ _ _ hp=>hp
def C5(L:Tabs P)(q:Nat)(r':GR)(φ:Value->Heap->Prop){r:GR}{fo:Operand}
  (hn:Nat.blt d n=true) (hg:gK ops κ ⟨some d,.call { callee:=.value fo,args:=args,argTypes:=at_ },ty,pos,aft,g⟩=some true)
  (hf:evK κ fo=some (.func (.func f) #[] cap.toArray)) (hfn:L.fn f=some ()) (hq:κ q=some (.own r.res)) (hm:Kn.mono (.sat φ))
  (h:∀ u H C,zs4 H u->B.Le H->r.P H u C->(ZCB C u H)->Args κ H args.toList [] (fun vs=>RetY P f (vs++cap) u H C r' φ)):
  ve P F B n ops O κ ⟨some d,.call { callee:=.value fo,args:=args,argTypes:=at_ },ty,pos,aft,g⟩ q (.own r'.res) d (.sat φ):=by
 rintro κ' a u hlk hks ⟨H,fp,hh⟩;unfold After;rw[na (xl hh hlk hg)];have hk':κ' q=some (.own r.res):=hks.trans hq;obtain⟨hown,hM⟩:=hh.slot q _ hk';have e2:=hh.env hlk;have hfe:a.eval fo=.func (.func f) #[] cap.toArray:=e2.is_ fo _ (by simp [Op.operands,Call.operands]) hf;have hc:=Args.use e2 args.toList [] (fun x hx=>by simp [Op.operands,Call.operands] at hx |-;exact .inr hx) (h u H (fp q) hh.sub hh.base hown fun k hk=>⟨(hM k hk).1,(hM k hk).2.1⟩);simp only[zpv,mj] at hc;rw[ux L rfl hfe hfn];simp only[Upon];refine Calls.mono hc fun e' u' hp=>?_;obtain⟨x,rfl,H',g',hx,C',hv,hC'⟩:=hp;have h2:=hh.usePut (d:=q) (a':=a) (r':=r'.res) hk' g' rfl rfl (fun _ _=>rfl) hv hC';rw[wg] at h2;exact⟨x,rfl,H',_,h2.put (k:=.sat φ) (zm hn) hm hx⟩
def ui(L:Tabs P){fn:Func}(gs:Nat){r r':GR}{rs:List ResultVar}(hrs:fn.results=rs.toArray)
  (hQ:∀ a u,bodyPostM Fence.wide 0 P fn (li F.w0 B0 F.L fun x H u=>φ x H/\∃ C',r'.P H u C'/\∀ k,C' k->(F.L k\/F.w0.heap.size<=k)/\k<u.heap.size/\H k=none) .ret a u->zs3 .ret a u) (hs:Since F B0 B) (hk:κ gs=some (.own r.res)) (e:r=r')
  (h:∀ H,B.Le H->Dy L F B O κ H rs [] (fun vs=>φ (tup vs) H)) (hd:F.ds=[]:=by rfl):V P F B n O κ .ret zs3:=fun a u hh=>by
 obtain⟨H,fp,hH⟩:=hh;refine wpIn_ret (hQ a u ?_);have h0:=hH.defers;rw[hd] at h0;show LeavesInM _ _ _ _ _ _ a.defers _ _;rw[h0];subst e;obtain⟨vs,h1,h2⟩:=we L hH hrs (h H hH.base);obtain⟨C',h3,h4⟩:=HasH.ghost hk hH;exact⟨_,h1,_,rfl,H,⟨hH.keep,hH.sub,hs.le.trans hH.base,fun k hk hl=>(hH.fresh k hk hl).trans (hs.fresh k hk hl)⟩,h2,C',h3,h4⟩
end
end Go.V
namespace Go.V
section
variable             {a:Act}    
def zc9(cs:List Value)(i s:Nat):cs.toArray.extract i (i+s)=((cs.drop i).take s).toArray:=by
 apply Array.ext';simp [List.extract]
def jf(L:Tabs P){k:IntKind}{ys:List Value}(j:Nat)(hn:Nat.blt d n=true)(hg:gK ops κ ⟨some d,.index tt x y,ty,pos,aft,g⟩=some true)
  (hx:evK κ x=some (.agg cs.toArray)) (hy:evK κ y=some (.int k p)) (ht:arI P tt=some (len,e)) (hl:L.ld e=some (true,s)) (hj:p=j) (hi:j<len) (hys:(cs.drop (j*s)).take s=ys):
  StepOK P F B n ops O κ ⟨some d,.index tt x y,ty,pos,aft,g⟩ d (.is (.agg ys.toArray)):=
 kj rfl (by simpa using hn) hg trivial fun a u H fp en=>⟨_,by
  have h1:=en.is_ x _ (by simp [Op.operands]) hx;have h2:=en.is_ y _ (by simp [Op.operands]) hy;subst hj hys;have hu:=Bo ht;have hg:=er (Tabs.ld_spec hl) u;simp only[execOp,h1,h2,Instr.index,nw,asIntOf,me,ny,run_underlying hu];rw[na T];simp only[zpf,part,nw,ja (Tabs.ld_spec hl),ny,hg,if_true,me,zc9],rfl⟩
def Sl(L:Tabs P){b:Nat}(i j:Nat){pl ph:Int}(hn:Nat.blt d n=true)(hg:gK ops κ ⟨some d,.slice tt x lo hi none,ty,pos,aft,g⟩=some true)
  (hx:evK κ x=some (.pointer (some ⟨b,off,none⟩))) (ht:arI P tt=some (len,e)) (hl:L.ld e=some (ag,s))
  (hlo:match lo with | some y=>evK κ y=some (.int kl pl)/\pl=i | none=>i=0) (hhi:match hi with | some y=>evK κ y=some (.int kh ph)/\ph=j | none=>j=len)
  (hij:i<=j) (hjc:j<=len) (hi0:i<len):
  StepOK P F B n ops O κ ⟨some d,.slice tt x lo hi none,ty,pos,aft,g⟩ d (.is (.slice (some ⟨b,off+i*s,none⟩) (j-i) (len-i))):=
 kj rfl (zm hn) hg trivial fun a u H fp en=>⟨_,by
  have hu:=Bo ht;have h1:=en.is_ x _ (by simp [Op.operands]) hx
  have hrun:(Instr.sliceBounds false len len (lo.map a.eval) (hi.map a.eval) none).run P u=.ok (i,j,len) u:=by
   cases hi with
   | none=>
    simp only at hhi;subst hhi
    cases lo with
    | none=>simp only at hlo;subst hlo;simp [Instr.sliceBounds]
    | some z=>
     obtain⟨hz,rfl⟩:=hlo;have h3:=en.is_ z _ (by simp [Op.operands]) hz;simp [h3,Instr.sliceBounds,k9 i kl _ _ hij]
   | some y=>
    obtain⟨hy,rfl⟩:=hhi;have h2:=en.is_ y _ (by simp [Op.operands]) hy
    cases lo with
    | none=>simp only at hlo;subst hlo;simp [h2,Instr.sliceBounds,k9 j kh len _ hjc]
    | some z=>
     obtain⟨hz,rfl⟩:=hlo;have h3:=en.is_ z _ (by simp [Op.operands]) hz;simp [h2,h3,Instr.sliceBounds,k9 j kh len _ hjc,k9 i kl _ _ hij]
  simp only[execOp,h1,Instr.sliceAt,Instr.sureAddr,nw,run_underlying hu,ny,zq6,hrun,ja (Tabs.ld_spec hl),me];rw[nc T];simp [Addr.add],rfl⟩
def U3(L:Tabs P){fs:List Value}{fo:Operand}(hop:o.op=.call { callee:=.value fo,args:=args,argTypes:=at_ })(hfe:a.eval fo=.func (.func f) fs.toArray cap.toArray)(hfn:L.fn f=some ()):
  (execOp a.eval o).run P u=.ok (.enter f ((fs++(args.toList.map a.eval++cap)).toArray)) u:=by
 simp only[execOp,hop,resolve,hfe,Deferred.ofValue,nw,me,ny,invoke];rw[gh L hfn];simp
def Li(L:Tabs P){fs:List Value}{r:Value}{fo:Operand}
  (hop:o.op=.call { callee:=.value fo,args:=args,argTypes:=at_ }) (hd:o.dst=some d) (hn:d<n) (hg:gK ops κ o=some true)
  (hf:evK κ fo=some (.func (.func f) fs.toArray cap.toArray)) (hfn:L.fn f=some ())
  (h:∀ u H,zs4 H u->B.Le H->Args κ H args.toList [] (fun vs=>Ret P f (fs++(vs++cap)) u H (fun v _=>v=r))):
  StepOK P F B n ops O κ o d (.is r):=by
 rintro κ' a u hl ⟨H,fp,hh⟩;unfold After;rw[na (xl hh hl hg)];have e:=hh.env hl;have hfe:a.eval fo=.func (.func f) fs.toArray cap.toArray:=e.is_ fo _ (by simp [hop,Op.operands,Call.operands]) hf;have hc:=Args.use e args.toList [] (fun x hx=>by simp [hop,Op.operands,Call.operands] at hx |-;exact .inr hx) (h u H e.sub e.base);simp only[zpv,mj] at hc;rw[U3 L hop hfe hfn];simp only[Upon];refine Calls.mono hc fun e' u' hp=>?_;obtain⟨v,rfl,H',g,hv⟩:=hp;refine⟨v,rfl,?_⟩;simp only[hd];exact⟨H',fp,(hh.grow g).put (k:=.is r) hn trivial hv⟩
end
end Go.V
namespace Go.V
section
def V6{k:IntKind}{q r:Int}(hn:Nat.blt d n=true)(hg:gK ops κ ⟨some d,.binOp .and t x y t',ty,pos,aft,g⟩=some true)(hx:evK κ x=some (.int k p))(hy:evK κ y=some (.int k q))(hb:bits .and k p q=r):
  StepOK P F B n ops O κ ⟨some d,.binOp .and t x y t',ty,pos,aft,g⟩ d (.is (.int k r)):=w7 hn hg hx hy fun u=>by subst hb;simp [eqGuard_and,binOp_and,intBits_and]
end
def zie(h:m<=255):bits .and .u8 m 1=((m%2*1:Nat):Int)/\bits .and .u8 m 2=((m/2%2*2:Nat):Int)/\bits .and .u8 m 4=((m/4%2*4:Nat):Int)/\bits .and .u8 m 8=((m/8%2*8:Nat):Int):=by
 have:∀ x:Fin 256,bits .and .u8 (x.val:Int) 1=((x.val%2*1:Nat):Int)/\bits .and .u8 (x.val:Int) 2=((x.val/2%2*2:Nat):Int)/\bits .and .u8 (x.val:Int) 4=((x.val/4%2*4:Nat):Int)/\bits .and .u8 (x.val:Int) 8=((x.val/8%2*8:Nat):Int):=by decide+kernel
 exact this ⟨m,by omega⟩
end Go.V
namespace Go.V
section
def zmu{k:IntKind}{q r:Int}(hn:Nat.blt d n=true)(hg:gK ops κ ⟨some d,.binOp .or t x y t',ty,pos,aft,g⟩=some true)(hx:evK κ x=some (.int k p))(hy:evK κ y=some (.int k q))(hb:bits .or k p q=r):
  StepOK P F B n ops O κ ⟨some d,.binOp .or t x y t',ty,pos,aft,g⟩ d (.is (.int k r)):=w7 hn hg hx hy fun u=>by subst hb;simp [eqGuard_or,binOp_or,intBits_or]
end
def zif(h:m<=255):bits .and .u8 m 127=((m%128:Nat):Int):=by
 have:∀ x:Fin 256,bits .and .u8 (x.val:Int) 127=((x.val%128:Nat):Int):=by decide+kernel
 exact this ⟨m,by omega⟩
def zer{a b:Nat}(ha:a<2^i):a ||| (b*2^i)=a+b*2^i:=by
 rw[Nat.or_comm,<-zr8,<-Nat.shiftLeft_add_eq_or_of_lt ha];omega
end Go.V
namespace Go.V
section
variable  [DecidableEq α]
def dd:List α->List α
 | []=>[]
 | [x]=>[x]
 | x::y::l=>if x=y then dd (y::l) else x::dd (y::l)
variable {c:α->α->Int}
end
def p9{l:List α}{a:α}(h:l[i]?=some a):l[i]'(get_lt h)=a:=by
 have h1:=h;rw[zpe (get_lt h)] at h1;exact Option.some.inj h1
section
variable  {c:α->α->Int}
def ct(c:α->α->Int)(t:α)(l:List α):Nat:=(l.takeWhile fun x=>decide (c x t<0)).length
def ow(t:α):∀ (l:List α),ct c t l<=l.length
 | []=>nu _
 | x::l=>by
  have:=ow t l;unfold ct at this |-;rw[zp2];split
  ·simp only[nz];omega
  ·simp
def Nt(h:Ord3 c){t:α}:∀ {l:List α} {i:Nat},Sst c l->(∀ (j:Nat) (x:α),j<i->l[j]?=some x->c x t<0)->(∀ (j:Nat) (x:α),i<=j->l[j]?=some x->¬ c x t<0)->i<=l.length->ct c t l=i
 | [],i,_,_,_,hi=>by simp at hi;subst hi;rfl
 | x::l,0,_,_,h2,_=>by
  unfold ct;rw[zp2,nc (by simpa using h2 0 x (nu _) rfl)];rfl
 | x::l,i+1,hs,h1,h2,hi=>by
  have ih:=Nt h (t:=t) (l:=l) (i:=i) (mo.1 hs).2 (fun j y hj hy=>h1 (j+1) y T (by simpa using hy)) (fun j y hj hy=>h2 (j+1) y T (by simpa using hy)) (by simpa using hi);unfold ct at ih |-;rw[zp2,na (by simpa using h1 0 x (Nat.succ_pos _) rfl),nz,ih]
def iv(h:Ord3 c){l:List α}(hs:Sst c l){i j:Nat}{x y t:α}(hi:l[i]?=some x)(hj:l[j]?=some y)(hij:j<=i)(hx:c x t<0):c y t<0:=by
 rcases m5 j i with hlt | hge
 ·have h1:=zqm.1 hs j i (get_lt hj) (get_lt hi) hlt;rw[p9 hj,p9 hi] at h1;exact h.tr h1 hx
 ·have:i=j:=T;subst this;rw[hi] at hj;cases hj;exact hx
def zex(h:Ord3 c){t:α}{l:List α}(hs:Sst c l)(h1:∀ (j:Nat) (x:α),j<i->l[j]?=some x->c x t<0){x:α}(hx:l[i]?=some x)(h2:∀ (j:Nat) (y:α),i<=j->l[j]?=some y->¬ c y t<0):t∈l↔c x t=0:=by
 constructor
 ·intro ht;obtain⟨j,hj⟩:=zpg ht;rcases zr9 j i with hlt | he | hgt
  ·exact ni (h1 j t hlt hj) (h.irr t)
  ·subst he;rw[hx] at hj;cases hj;exact h.refl t
  ·have h3:=zqm.1 hs i j (get_lt hx) (get_lt hj) hgt;rw[p9 hj,p9 hx] at h3;exact ni h3 (h2 i x (nu _) hx)
 ·intro e;have:=h.eq _ _ e;subst this;exact zo7 hx
def Db(h:Ord3 c){t:α}{l:List α}(h1:∀ (j:Nat) (x:α),j<l.length->l[j]?=some x->c x t<0):t∉l:=fun ht=>by
 obtain⟨j,hj⟩:=zpg ht;exact ni (h1 j t (get_lt hj) hj) (h.irr t)
end
end Go.V
namespace Go.V.L10
open Go.V
def cP(a b:Int):Int:=if a<b then -1 else if b<a then 1 else 0
def lm:Ord3 cP:=⟨fun a=>by unfold cP;simp,fun a b h=>by unfold cP at h;split at h<;>(try split at h)<;>omega,fun a b=>by unfold cP;split<;>(try split)<;>(try split)<;>omega,fun a b d h1 h2=>by
 unfold cP at h1 h2 |-;split at h1<;>(try split at h1)<;>split at h2<;>(try split at h2)<;>split<;>(try split)<;>omega⟩
def zab{a b:Int}:cP a b<0↔a<b:=by unfold cP;split<;>(try split)<;>omega
def k8(L:List Int):List Int:=fg cP [] L
def jx{L:List Int}{z:Int}:z∈k8 L↔z∈L:=by unfold k8;rw[fe];simp
def uq(L:List Int):Sst cP (k8 L):=gz lm Sst.nil
def pz(L:List Int):(k8 L).length<=L.length:=by have:=eo (c:=cP) L [];simpa [k8] using this
def xh(L:List Int):List (Int×Int):=(k8 L).map fun r=>(r,(L.count r:Int))
def vg(L:List Int):(xh L).length=(k8 L).length:=by unfold xh;simp
def Cs{L:List Int}{r:Int}(h:(k8 L)[i]?=some r):(xh L)[i]?=some (r,(L.count r:Int)):=by unfold xh;rw[List.getElem?_map,h];rfl
section
variable  {c:α->α->Int}
def Lz(h:Ord3 c){t:α}:∀ {l:List α},t∉l->oe c t l=l.take (ct c t l)++t::l.drop (ct c t l)
 | [],_=>rfl
 | y::l,hn=>by
  have hne:y≠t:=fun e=>hn (e ▸ mc ..);have ih:=Lz h (l:=l) (t:=t) fun hm=>hn (mh _ hm);unfold oe ct;rw[zp2];by_cases hc:c y t<0
  ·rw[nc (h.asym hc),na (by simpa using hc),nz,zqr,zsp,ih];rfl
  ·rw[na (h.tri hc hne),nc (by simpa using hc)];rfl
def Ns(h:Ord3 c){t:α}:∀ {l:List α},Sst c l->t∈l->l[ct c t l]?=some t
 | [],_,hm=>(by cases hm)
 | y::l,hs,hm=>by
  unfold ct;rw[zp2];have h1:=mo.1 hs;by_cases hc:c y t<0
  ·rcases ma.1 hm with e | hm
   ·subst e;exact ni hc (h.irr _)
   ·rw[na (by simpa using hc),nz,zqe];exact Ns h h1.2 hm
  ·rw[nc (by simpa using hc)];rcases ma.1 hm with e | hm
   ·subst e;rfl
   ·exact ni (h1.1 t hm) hc
def zf9(h:Ord3 c){l:List α}(hs:Sst c l){x:α}(hi:l[i]?=some x)(hj:l[j]?=some x):i=j:=by
 have key:∀ {i j:Nat},i<j->l[i]?=some x->l[j]?=some x->False:=fun {i j} hlt hi hj=>by
  have h1:=zqm.1 hs i j (get_lt hi) (get_lt hj) hlt;rw[p9 hi,p9 hj] at h1;exact h.irr _ h1
 rcases zr9 i j with hlt | he | hlt
 ·exact(key hlt hi hj).elim
 ·exact he
 ·exact(key hlt hj hi).elim
def map_erase{β:Type}(f:α->β)(l:List α)(i:Nat):(l.map f).eraseIdx i=(l.eraseIdx i).map f:=by
 rw[List.eraseIdx_eq_take_drop_succ,List.eraseIdx_eq_take_drop_succ,zpb,zqb,zqs]
end
def D8{L:List Int}{r:Int}(h:r∈L):k8 (L++[r])=k8 L:=fm lm (uq _) (uq _) fun z=>by
 rw[jx,jx,mn,m7];exact⟨fun h1=>h1.elim id fun e=>e ▸ h,.inl⟩
def E4{L:List Int}{r:Int}(h:r∉L):k8 (L++[r])=(k8 L).take (ct cP r (k8 L))++r::(k8 L).drop (ct cP r (k8 L)):=by
 have hn:r∉k8 L:=fun hm=>h (jx.1 hm);rw[<-Lz lm hn]
 exact fm lm (uq _) (d7 lm (uq _) hn) fun z=>by
  rw[jx,ub,jx,mn,m7,or_comm]
def Co{L:List Int}{r:Int}(h:r∈L):xh (L++[r])=(xh L).set (ct cP r (k8 L)) (r,(L.count r:Int)+1):=by
 have hp:=Ns lm (uq L) (jx.2 h);apply zsa;intro i;unfold xh;rw[D8 h,List.getElem?_set,zpl,zpl,m4];by_cases e:ct cP r (k8 L)=i
 ·subst e;rw[na rfl,na (get_lt hp),hp];simp [zrf]
 ·rw[nc e]
  cases hi:(k8 L)[i]? with
  | none=>rfl
  | some x=>
   have hxr:x≠r:=fun hx=>e (by subst hx;exact zf9 lm (uq L) hp hi);simp [zrf,List.count_cons,hxr.symm]
def Nu{L:List Int}{r:Int}(h:r∉L):xh (L++[r])=(xh L).take (ct cP r (k8 L))++(r,1)::(xh L).drop (ct cP r (k8 L)):=by
 have key:∀ l:List Int,(∀ x∈l,x∈L)->l.map (fun x=>(x,((L++[r]).count x:Int)))=l.map fun x=>(x,(L.count x:Int)):=fun l hl=>zsb fun x hx=>by
  have hxr:x≠r:=fun e=>h (e ▸ hl x hx);simp [zrf,List.count_cons,hxr.symm]
 unfold xh;rw[E4 h,zpb,mz,zqb,zqs,<-zqb,<-zqs,key _ fun x hx=>jx.1 (zrv hx),key _ fun x hx=>jx.1 (zsq hx),zqb,zqs];congr 2;simp [zrf,zsc.2 h]
def H8(L:List Int)(r:Int):List Int×Nat:=if L.count r=0 then ([],8) else (L.erase r,0)
def az(L revs:List Int)(keep:Nat):List Int:=(revs.take (revs.length-keep)).filter fun r=>decide (L.count r=0)
end Go.V.L10
namespace Go.V.L4
structure Rd where
 at_:Nat
 bad:Nat
 err:Int
def Rd.fail(R:Rd)(a:Nat)(e:Int):Rd:=if R.err=0 then ⟨R.at_,a,e⟩ else R
def T2(bs:List Nat):Nat->Nat->Nat->Rd->Nat×Rd
 | 0,_,acc,R=>(acc,R)
 | f+1,i,acc,R=>match bs[R.at_]? with
  | none=>(0,R.fail bs.length 17)
  | some b=>if i=9/\b≠1\/0<i/\b=0 then (0,R.fail R.at_ 5) else
   if b<128 then (acc+b%128*128^i,⟨R.at_+1,R.bad,R.err⟩) else T2 bs f (i+1) (acc+b%128*128^i) ⟨R.at_+1,R.bad,R.err⟩
def Lk(bs:List Nat)(R:Rd):Nat×Rd:=T2 bs 10 0 0 R
def ay(bs:List Nat)(lim:Nat)(e:Int)(R:Rd):Nat×Rd:=if lim<(Lk bs R).1 then ((Lk bs R).1,(Lk bs R).2.fail R.at_ e) else Lk bs R
def dx{α:Type}(f:Rd->α×Rd)(z:α)(R:Rd):α×Rd:=if R.err≠0 then (z,R) else if (f R).2.err≠0 then (z,⟨R.at_,(f R).2.bad,(f R).2.err⟩) else f R
def r7(bs:List Nat):Rd->Nat×Rd:=dx (Lk bs) 0
def ze1(bs:List Nat)(lim:Nat)(R:Rd):Int×Rd:=(IntKind.i64.wrap ((ay bs lim 3 R).1:Nat),(ay bs lim 3 R).2)
def wl(bs:List Nat)(lim:Nat):Rd->Int×Rd:=dx (ze1 bs lim) 0
def ij(bs:List Nat):Rd->Bool×Rd:=dx (fun R=>(decide ((ay bs 1 5 R).1=1),(ay bs 1 5 R).2)) false
def G7(R:Rd)(a:Nat)(e:Int):(R.fail a e).at_=R.at_:=by unfold Rd.fail;split<;>rfl
def Xc{bs:List Nat}:∀ (f i acc:Nat) (R:Rd),R.at_<=bs.length->(T2 bs f i acc R).2.at_<=bs.length/\R.at_<=(T2 bs f i acc R).2.at_
 | 0,_,_,R,h=>⟨h,nu _⟩
 | f+1,i,acc,R,h=>by
  unfold T2
  cases hb:bs[R.at_]? with
  | none=>dsimp only;rw[G7];exact⟨h,Nat.le_refl _⟩
  | some b=>
   have hlt:=get_lt hb;dsimp only;split
   ·dsimp only;rw[G7];exact⟨h,Nat.le_refl _⟩
   ·split
    ·exact⟨hlt,zpr _⟩
    ·have:=Xc f (i+1) (acc+b%128*128^i) ⟨R.at_+1,R.bad,R.err⟩ hlt;exact⟨this.1,mp (zpr _) this.2⟩
def Nr(i:Nat):128^i=2^(7*i):=by rw[Nat.pow_mul]
def Ri{acc b:Nat}(h:acc<128^i):acc+b%128*128^i<128^(i+1):=by
 rw[Nat.pow_succ];have h1:b%128<=127:=T;have h2:b%128*128^i<=127*128^i:=zqz _ h1;omega
end Go.V.L4
namespace Go.V
section
variable             {a:Act}      
def Mi{b:Nat}(hb:u.heap[b]?=some (.cells cs.toArray t))(off j:Nat):u.cell? ((⟨b,off,none⟩:Addr).add j)=cs[off+j]?:=by
 rw[vp,kx hb];simp
def Mf{cs news:List Value}{off k j:Nat}(hn:news=(cs.drop off).take k)(hj:news[j]?=some v):cs[off+j]?=some v:=by
 subst hn;rw[zr4] at hj;split at hj
 ·rwa [zpw] at hj
 ·cases hj
def Cj{i:TypeInfo}{b c:Nat}{ty0:TypeId}{ad:Addr}{m' c':Nat}{news:List Value}(ht:P.underlying t=some (.slice e))(hi:P.info? e=some i)(hb:u.heap[b]?=some (.cells cur.toArray ty0))(hl:news.length=k*i.size)(hk:Nat.min m' m=k)(hcl:off+news.length<=cur.length)
  (h1:∀ v∈news,v.oneCell'=true) (hy:∀ j v,news[j]?=some v->u.cell? (ad.add j)=some v):
  (Builtin.copy_ #[t,ti] ty #[.slice (some ⟨b,off,none⟩) m c,.slice (some ad) m' c']).run P u=.ok (goInt k) (u.setRow b (cur.take off++(news++cur.drop (off+news.length))).toArray):=by
 have hf:=run_firstCells_some (P:=P) u i.size k ad m' c' news hl hy;have hst:=ft (P:=P) b ty0 off news 0 cur.toArray u hb (by simpa using hcl) h1;simp only[Nat.add_zero,mw] at hst;simp [Builtin.copy_,run_underlying ht,Builtin.lenOf,sizeOf,typeInfo,hi,hk,hf,hst]
def Gn(L:Tabs P){q b off m c m':Nat}{x y:Operand}{t e ti t':TypeId}{s by_:Nat}{cur all news cur':List Value}(k:Nat)(hn:Nat.blt d n=true)(hg:gK ops κ ⟨some d,.call ⟨.builtin .copy,#[x,y],#[t,ti]⟩,ty,pos,aft,g⟩=some true)
  (hx:evK κ x=some (.slice (some ⟨b,off,none⟩) m c)) (hq:κ q=some (.own (xu b cur t'))) (hy:Apd F B O κ y m' all) (ht:L.sl t=some e) (he:elI P e=some (s,by_)) (hm:0<m') (hk:Nat.min m' m=k) (hal:k*s<=all.length) (hnews:all.take (k*s)=news) (hcl:off+k*s<=cur.length) (h1:news.all gj=true)
  (hr:cur.take off++(news++cur.drop (off+k*s))=cur'):
  ve P F B n ops O κ ⟨some d,.call ⟨.builtin .copy,#[x,y],#[t,ti]⟩,ty,pos,aft,g⟩ q (.own (xu b cur' t')) d (.is (.int .i64 k)):=by
 rintro κ' a u hlk hks ⟨H,fp,hh⟩;unfold After;rw[na (xl hh hlk hg)];have en:=hh.env hlk;have hk':κ' q=some (.own (xu b cur t')):=hks.trans hq;have hxe:=en.is_ x _ (by simp [Op.operands,Call.operands]) hx;obtain⟨⟨hb,hC⟩,hM⟩:=hh.slot q _ hk';obtain⟨i,z,hi,hz,hs1,hs2,hs3,hs4⟩:=uf he;subst hs1;have hnl:news.length=k*i.size:=by rw[<-hnews,mi,zqj hal]
 rcases hy _ a u H fp (by simp [Op.operands,Call.operands]) en with ⟨h0,_⟩ | ⟨ad,c',hye,hcy⟩
 ·omega
 have hrun0:=Cj (P:=P) (ty:=ty) (ti:=ti) (c:=c) (c':=c') (Tabs.sl_spec ht) hi hb hnl hk (by rw[hnl];exact hcl) (fun v hv=>dt (zo9.1 h1 v hv)) (ad:=ad) (fun j v hj=>hcy j v (by
  rw[<-hnews,zr4] at hj;split at hj
  ·exact hj
  ·cases hj))
 rw[hnl,hr] at hrun0
 have hrun:(execOp a.eval ⟨some d,.call ⟨.builtin .copy,#[x,y],#[t,ti]⟩,ty,pos,aft,g⟩).run P u=.ok (.value (goInt k)) (u.setRow b cur'.toArray):=by
  simp only[execOp,resolve,invoke,builtin,nw,me,ny,zpn,mz,zph,hxe,hye,hrun0]
 rw[hrun];simp only[Upon];have hbm:=hM b ((hC b).2 rfl)
 have h2:=hh.usePut (d:=q) (a':=a) (r':=xu b cur' t') (C:=fun k=>k=b) hk' (vz hh.sub hb ((hC b).2 rfl) hbm.2.1 _) rfl rfl (fun _ _=>rfl) ⟨setRow_heap u b cur.toArray cur'.toArray t' (0,0) hb,fun _=>Iff.rfl⟩ (fun k hk=>by
  subst hk;exact⟨.inl ((hC k).2 rfl),by rw[setRow_size];exact hbm.1,hbm.2.1⟩)
 rw[wg] at h2;exact⟨H,_,h2.put (k:=.is (.int .i64 k)) (zm hn) trivial Z⟩
def V1(L:Tabs P){b c off2 m' c':Nat}(k:Nat)(hn:Nat.blt d n=true)(hg:gK ops κ ⟨some d,.call ⟨.builtin .copy,#[x,y],#[t,ti]⟩,ty,pos,aft,g⟩=some true)
  (hx:evK κ x=some (.slice (some ⟨b,off,none⟩) m c)) (hq:κ q=some (.own (xu b cur t'))) (hy:evK κ y=some (.slice (some ⟨b,off2,none⟩) m' c')) (ht:L.sl t=some e) (he:elI P e=some (s,by_)) (hk:Nat.min m' m=k) (hnews:(cur.drop off2).take (k*s)=news) (hnl:news.length=k*s) (hcl:off+k*s<=cur.length) (h1:news.all gj=true)
  (hr:cur.take off++(news++cur.drop (off+k*s))=cur'):
  ve P F B n ops O κ ⟨some d,.call ⟨.builtin .copy,#[x,y],#[t,ti]⟩,ty,pos,aft,g⟩ q (.own (xu b cur' t')) d (.is (.int .i64 k)):=by
 rintro κ' a u hlk hks ⟨H,fp,hh⟩;unfold After;rw[na (xl hh hlk hg)];have en:=hh.env hlk;have hk':κ' q=some (.own (xu b cur t')):=hks.trans hq;have hxe:=en.is_ x _ (by simp [Op.operands,Call.operands]) hx;have hye:=en.is_ y _ (by simp [Op.operands,Call.operands]) hy;obtain⟨⟨hb,hC⟩,hM⟩:=hh.slot q _ hk';obtain⟨i,z,hi,hz,hs1,hs2,hs3,hs4⟩:=uf he;subst hs1;have hrun0:=Cj (P:=P) (ty:=ty) (ti:=ti) (c:=c) (c':=c') (Tabs.sl_spec ht) hi hb hnl hk (by rw[hnl];exact hcl) (fun v hv=>dt (zo9.1 h1 v hv)) (ad:=⟨b,off2,none⟩) (fun j v hj=>(Mi hb off2 j).trans (Mf hnews.symm hj));rw[hnl,hr] at hrun0
 have hrun:(execOp a.eval ⟨some d,.call ⟨.builtin .copy,#[x,y],#[t,ti]⟩,ty,pos,aft,g⟩).run P u=.ok (.value (goInt k)) (u.setRow b cur'.toArray):=by
  simp only[execOp,resolve,invoke,builtin,nw,me,ny,zpn,mz,zph,hxe,hye,hrun0]
 rw[hrun];simp only[Upon];have hbm:=hM b ((hC b).2 rfl)
 have h2:=hh.usePut (d:=q) (a':=a) (r':=xu b cur' t') (C:=fun k=>k=b) hk' (vz hh.sub hb ((hC b).2 rfl) hbm.2.1 _) rfl rfl (fun _ _=>rfl) ⟨setRow_heap u b cur.toArray cur'.toArray t' (0,0) hb,fun _=>Iff.rfl⟩ (fun k hk=>by
  subst hk;exact⟨.inl ((hC k).2 rfl),by rw[setRow_size];exact hbm.1,hbm.2.1⟩)
 rw[wg] at h2;exact⟨H,_,h2.put (k:=.is (.int .i64 k)) (zm hn) trivial Z⟩
def Sx(L:Tabs P){q b nn cap k:Nat}{x y:Operand}{t ti e t':TypeId}{s by_:Nat}{kn:IntKind}{cur xs zs:List Value}{z:Value}(hn:Nat.blt d n=true)(hg:gK ops κ ⟨some d,.call ⟨.builtin .append,#[x,y],#[t,ti]⟩,ty,pos,aft,g⟩=some true)
  (hx:evK κ x=some (.slice (some ⟨b,0,none⟩) nn cap)) (hq:κ q=some (.own (xu b cur t'))) (hy:evK κ y=some (.int .i64 k)) (ht:L.sl t=some e) (hti:P.underlying ti=some (.int kn)) (he:elI P e=some (s,by_)) (hz:L.zr e=some z) (h0:0<k) (hg2:cap<nn+k) (hxs:cur.take (nn*s)=xs) (hxl:nn*s<=cur.length) (hzs:(Builtin.zeroCells z.cells k).toList=zs)
  (hb:(nn+k)*by_<=140737488355328) (h63:nn+k<=4611686018427387904):
  StepOKR P F B n ops O κ ⟨some d,.call ⟨.builtin .append,#[x,y],#[t,ti]⟩,ty,pos,aft,g⟩ q d (.own (SlR e s (nn+k) (xs++zs))):=by
 rintro κ' a u hlk hks ⟨H,fp,hh⟩;unfold After;rw[na (xl hh hlk hg)];have en:=hh.env hlk;have hk':κ' q=some (.own (xu b cur t')):=hks.trans hq;have hxe:=en.is_ x _ (by simp [Op.operands,Call.operands]) hx;have hye:=en.is_ y _ (by simp [Op.operands,Call.operands]) hy;obtain⟨⟨hbb,hC⟩,hM⟩:=hh.slot q _ hk';obtain⟨i,z',hi,hz',hs1,hs2,hs3,hs4⟩:=uf he
 have hzz:i.zero=some z:=by
  have:=Tabs.zr_spec hz;unfold zrI at this;rw[hi] at this;exact this
 rw[hz'] at hzz;obtain rfl:=Option.some.inj hzz;subst hs1;subst hs2
 have hold:(Builtin.firstCells i.size nn (.slice (some ⟨b,0,none⟩) nn cap)).run P u.drew=.ok xs.toArray u.drew:=run_firstCells_some (P:=P) u.drew i.size nn ⟨b,0,none⟩ nn cap xs (by rw[<-hxs,mi,zqj hxl]) fun j v hj=>by
  have hb2:u.drew.heap[b]?=some (.cells cur.toArray t'):=hbb;rw[Mi hb2 0 j,zo2];rw[<-hxs,zr4] at hj;split at hj
  ·exact hj
  ·cases hj
 have hkb:k*i.bytes<=(nn+k)*i.bytes:=zqz _ T;have hns:=growslice_fits hg2 hb;have hr:=Lib.run_append_grow_zeros (P:=P) u t ti ty e i z' .i64 kn (Tabs.sl_spec ht) hti hi hz' (some ⟨b,0,none⟩) nn cap xs hold k h0 hs4 hg2 T T hns
 have hrun:(execOp a.eval ⟨some d,.call ⟨.builtin .append,#[x,y],#[t,ti]⟩,ty,pos,aft,g⟩).run P u=.ok (.value (.slice (some ⟨u.heap.size,0,none⟩) (nn+k) (grownCap u (nn+k) cap e))) (u.drew.alloc (.cells (xs.toArray++Builtin.zeroCells z'.cells k++Builtin.zeroCells z'.cells (grownCap u (nn+k) cap e-(nn+k))) e)):=by
  simp only[execOp,resolve,invoke,builtin,nw,me,ny,zpn,mz,zph,hxe,hye,hr]
 rw[hrun];simp only[Upon];have hge:=grownCap_ge u (nn+k) cap e;have hmx:nn+k<=maxLen:=by simp only[maxLen];omega
 have hxl2:xs.length=nn*i.size:=by rw[<-hxs,mi,zqj hxl]
 have hzl:zs.length=k*i.size:=by rw[<-hzs,zqy,size_zeroCells,hs3]
 have hg3:=hh.grow (u':=u.drew.alloc (.cells (xs.toArray++Builtin.zeroCells z'.cells k++Builtin.zeroCells z'.cells (grownCap u (nn+k) cap e-(nn+k))) e)) (H':=H) ⟨⟨rfl,rfl,rfl,by simp,fun k hk _=>wa u.drew _ hk,zpr _⟩,fun k v hv=>by
  have:=hh.sub.size hv;show(u.drew.alloc _).heap[k]?=some v;rw[wa u.drew _ this];exact hh.sub k v hv,my _,fun _ _ _=>rfl⟩
 refine⟨H,_,hg3.putR (C:=fun k=>k=u.heap.size) (by simp [Act.put]) Z (fun t ht=>xv ht) ⟨by rw[nr,hxl2,hzl,zpx],.inr ⟨u.heap.size,_,(Builtin.zeroCells z'.cells (grownCap u (nn+k) cap e-(nn+k))).toList,kg (by rw[hh.size];exact zm hn),?_,hge,grownCap_le_maxLen u (nn+k) cap e hmx,?_,fun _=>Iff.rfl⟩⟩ (fun k hk=>?_) fun t r' htd ht k hf hk=>?_⟩
 ·rw[show u.heap.size=u.drew.heap.size from rfl,heap_alloc_new];congr 2;apply Array.ext';simp [<-hzs]
 ·have hz2:(Builtin.zeroCells z'.cells (grownCap u (nn+k) cap e-(nn+k))).toList.length=(grownCap u (nn+k) cap e-(nn+k))*i.size:=(zqy).trans (by rw[size_zeroCells,hs3]);rw[nr,nr,hz2,hxl2,hzl,<-zpx,<-zpx];congr 1;omega
 ·subst hk;exact⟨by simp,jj hh.sub (nu _),.inl hh.keep.size,fun y hy e=>by have:=xj (hh.boxes y hy).1;omega⟩
 ·have:=((hh.slot t _ ht).2 k hf).1;omega
def N2(L:Tabs P){q w b off m f len cap:Nat}{y:Operand}{t e t':TypeId}{s:Nat}{cur cs:List Value}{te:TypeId}{fo:Operand}{tR:TypeId}(hn:Nat.blt d n=true)(hg:gK ops κ ⟨some d,.call { callee:=.value fo,args:=#[.tmp w,y],argTypes:=at_ },ty,pos,aft,g⟩=some true)
  (hfo:evK κ fo=some (.func (.func f) #[] #[])) (hext:∀ args u,(callFunc f args).run P u=((Extern.SlicesOverlaps.overlaps #[t,t] #[tR] args).run P u).andThen fun v w'=>.ok (.value v) w')
  (hx:κ w=some (.sat (SlB cs te len))) (hy:evK κ y=some (.slice (some ⟨b,off,none⟩) m cap)) (hq:κ q=some (.own (xu b cur t'))) (ht:L.sl t=some e) (hl:L.ld e=some (ag,s)) (hc:0<cur.length):
  StepOKR P F B n ops O κ ⟨some d,.call { callee:=.value fo,args:=#[.tmp w,y],argTypes:=at_ },ty,pos,aft,g⟩ q d (.is (.bool false)):=by
 rintro κ' a u hlk hks ⟨H,fp,hh⟩;unfold After;rw[na (xl hh hlk hg)];have en:=hh.env hlk;have hk':κ' q=some (.own (xu b cur t')):=hks.trans hq;have hfe:a.eval fo=.func (.func f) #[] #[]:=en.is_ fo _ (by simp [Op.operands,Call.operands]) hfo;have hye:=en.is_ y _ (by simp [Op.operands,Call.operands]) hy;obtain⟨b2,hxe,hb2⟩:=en.sat_ w _ (by simp [Op.operands,Call.operands]) hx;obtain⟨⟨hbb,hC⟩,hM⟩:=hh.slot q _ hk';have hbm:=hM b ((hC b).2 rfl);have hne:b2≠b:=fun e=>by subst e;rw[hbm.2.1] at hb2;cases hb2
 have hb2':=en.sub _ _ hb2;have hsz:∀ w,(Go.sizeOf e).run P w=.ok s w:=ja (Tabs.ld_spec hl)
 have hr:=Lib.run_overlaps_apart (P:=P) u t tR e (Tabs.sl_spec ht) s hsz ⟨b2,0,none⟩ ⟨b,off,none⟩ len len m cap hne te t' cs.length cur.length
  (by simp [World.shape?,hp] at hb2' |-;simp [hb2']) (by simp [World.shape?,hbb]) T (by simp [World.frozen?,hp] at hb2' |-;simp [hb2']) (by simp [World.frozen?,hp] at hb2' |-;simp [hb2'])
 have hrun:(execOp a.eval ⟨some d,.call { callee:=.value fo,args:=#[.tmp w,y],argTypes:=at_ },ty,pos,aft,g⟩).run P u=.ok (.value (.bool false)) u:=by
  simp only[execOp,resolve,hfe,Deferred.ofValue,nw,me,ny,invoke];simp [hext,hxe,hye,hr]
 rw[hrun];simp only[Upon];exact⟨H,fp,hh.put (k:=.is (.bool false)) (zm hn) trivial Z⟩
def Sk(L:Tabs P){k:IntKind}(hn:Nat.blt d n=true)(hg:gK ops κ ⟨some d,.slice tt x (some y) none none,ty,pos,aft,g⟩=some true)
  (hx:evK κ x=some (.slice none 0 0)) (ht:L.sl tt=some e) (hl:L.ld e=some (ag,s))  (hy:evK κ y=some (.int k p)) (hp:p=(0:Nat)):
  StepOK P F B n ops O κ ⟨some d,.slice tt x (some y) none none,ty,pos,aft,g⟩ d (.is (.slice none 0 0)):=
 kj rfl (zm hn) hg trivial fun a u H fp en=>⟨_,by
  have hu:=Tabs.sl_spec ht;have h1:=en.is_ x _ (by simp [Op.operands]) hx;have h2:=en.is_ y _ (by simp [Op.operands]) hy;subst hp
  have hrun:(Instr.sliceBounds true 0 0 (some (a.eval y)) none none).run P u=.ok (0,0,0) u:=by
   have h4:=fun c w=>k9 (P:=P) 0 k 0 c (nu _) w;simp only[h2,Instr.sliceBounds,nw,h4,ny,me]
  simp only[execOp,h1,Instr.sliceAt,Instr.slice,nw,run_underlying hu,ny,zq6,zql,hrun,ja (Tabs.ld_spec hl)];rfl,rfl⟩
end
end Go.V
end
