/-
  NARROWER THAN 'FOR EVERY INPUT', by the rows' own cells (each row's printed sentence says how): ShaConstants: laid · ShaRoots: laid · ShaSums: laid · ShaPieces: laid · ShaTurns: laid · ShaMacs: laid · ShaMacBy: laid · ShaExtends: laid · ShaForms: laid · ShaScripts: laid · ShaGoesOn: laid.
  DERIVED. THE GIVEN ROWS OF THIS SEAT. 11 by the template 'for every input the law returns true; each argument reads behind the call as it read before'; 0 by the template 'total and deterministic' (their statements: YtjcfnflkiialbaaDoorTotals.lean).
  GIVEN WITH THE SEED: the statements are not yours to turn. If you find one false, say at which input.
  Laid BY PROGRAM, IN A SANDBOX (cutbox-rows.mjs): the forced cells as the released guide's own fill.sh prints them over the translation bde44adaa546e538… (all of the seat's roots in one cut). By AI agents, Wed Nov 11 2026. No macro, syntax, notation, axiom, sorry.
-/
import Derived.Test.YtjcfnflkiialbaaDoorChecked
import GoSem.Claim
import GoSem.ClaimJoined
import GoSem.ClaimMapViews
import Derived.JoinedTies
import Derived.KernelRfl
namespace Go.Proofs.YtjcfnflkiialbaaDoor
/- THE CELL 'sum', in the pinned program and in every row, IS THE sha256 OF THE DUMP (.gsa) THAT YtjcfnflkiialbaaDoorProg.lean LOADS. Nothing in Lean hashes anything: it is a label: what it is worth is what the hold of that sum in a sandbox is worth. -/
noncomputable def Tryd.pinned : Pinned := { name := "ytjcfnflkiialbaadoor", sum := "bde44adaa546e53858a5c9aa9f2dfd43c279cb2eda49c7e1bb73a4397cc3b90d", checked := Tryd.checked }
namespace Rows
def none {H : Type} : Left H := { results := [], args := [] }

/- WHAT THE LISTED PACKAGE-LEVEL VARIABLES READ AS WHEN THE CALL BEGINS. Each datum BY PROGRAM (the guide's laid-datum.mjs) off the statement by which the dump's own 'gosem.cut.vars' lays the variable. In a bare row this is a premise. The card (YtjcfnflkiialbaaDoorCards.lean) ties it to the program's text. -/
def laid_ledger_ledgerref01_cubes {H : Type} : DataW H := .agg [.lit (.int .u64 4794697086780616226), .lit (.int .u64 8158064640168781261), .lit (.int .u64 13096744586834688815), .lit (.int .u64 16840607885511220156), .lit (.int .u64 4131703408338449720), .lit (.int .u64 6480981068601479193), .lit (.int .u64 10538285296894168987), .lit (.int .u64 12329834152419229976), .lit (.int .u64 15566598209576043074), .lit (.int .u64 1334009975649890238), .lit (.int .u64 2608012711638119052), .lit (.int .u64 6128411473006802146), .lit (.int .u64 8268148722764581231), .lit (.int .u64 9286055187155687089), .lit (.int .u64 11230858885718282805), .lit (.int .u64 13951009754708518548), .lit (.int .u64 16472876342353939154), .lit (.int .u64 17275323862435702243), .lit (.int .u64 1135362057144423861), .lit (.int .u64 2597628984639134821), .lit (.int .u64 3308224258029322869), .lit (.int .u64 5365058923640841347), .lit (.int .u64 6679025012923562964), .lit (.int .u64 8573033837759648693), .lit (.int .u64 10970295158949994411), .lit (.int .u64 12119686244451234320), .lit (.int .u64 12683024718118986047), .lit (.int .u64 13788192230050041572), .lit (.int .u64 14330467153632333762), .lit (.int .u64 15395433587784984357), .lit (.int .u64 489312712824947311), .lit (.int .u64 1452737877330783856), .lit (.int .u64 2861767655752347644), .lit (.int .u64 3322285676063803686), .lit (.int .u64 5560940570517711597), .lit (.int .u64 5996557281743188959), .lit (.int .u64 7280758554555802590), .lit (.int .u64 8532644243296465576), .lit (.int .u64 9350256976987008742), .lit (.int .u64 10552545826968843579), .lit (.int .u64 11727347734174303076), .lit (.int .u64 12113106623233404929), .lit (.int .u64 14000437183269869457), .lit (.int .u64 14369950271660146224), .lit (.int .u64 15101387698204529176), .lit (.int .u64 15463397548674623760), .lit (.int .u64 17586052441742319658), .lit (.int .u64 1182934255886127544), .lit (.int .u64 1847814050463011016), .lit (.int .u64 2177327727835720531), .lit (.int .u64 2830643537854262169), .lit (.int .u64 3796741975233480872), .lit (.int .u64 4115178125766777443), .lit (.int .u64 5681478168544905931), .lit (.int .u64 6601373596472566643), .lit (.int .u64 7507060721942968483), .lit (.int .u64 8399075790359081724), .lit (.int .u64 8693463985226723168), .lit (.int .u64 9568029438360202098), .lit (.int .u64 10144078919501101548), .lit (.int .u64 10430055236837252648), .lit (.int .u64 11840083180663258601), .lit (.int .u64 13761210420658862357), .lit (.int .u64 14299343276471374635), .lit (.int .u64 14566680578165727644), .lit (.int .u64 15097957966210449927), .lit (.int .u64 16922976911328602910), .lit (.int .u64 17689382322260857208), .lit (.int .u64 500013540394364858), .lit (.int .u64 748580250866718886), .lit (.int .u64 1242879168328830382), .lit (.int .u64 1977374033974150939), .lit (.int .u64 2944078676154940804), .lit (.int .u64 3659926193048069267), .lit (.int .u64 4368137639120453308), .lit (.int .u64 4836135668995329356), .lit (.int .u64 5532061633213252278), .lit (.int .u64 6448918945643986474), .lit (.int .u64 6902733635092675308), .lit (.int .u64 7801388544844847127)]
def laid_ledger_sha_rounds256 {H : Type} : DataW H := .agg [.lit (.int .u32 1116352408), .lit (.int .u32 1899447441), .lit (.int .u32 3049323471), .lit (.int .u32 3921009573), .lit (.int .u32 961987163), .lit (.int .u32 1508970993), .lit (.int .u32 2453635748), .lit (.int .u32 2870763221), .lit (.int .u32 3624381080), .lit (.int .u32 310598401), .lit (.int .u32 607225278), .lit (.int .u32 1426881987), .lit (.int .u32 1925078388), .lit (.int .u32 2162078206), .lit (.int .u32 2614888103), .lit (.int .u32 3248222580), .lit (.int .u32 3835390401), .lit (.int .u32 4022224774), .lit (.int .u32 264347078), .lit (.int .u32 604807628), .lit (.int .u32 770255983), .lit (.int .u32 1249150122), .lit (.int .u32 1555081692), .lit (.int .u32 1996064986), .lit (.int .u32 2554220882), .lit (.int .u32 2821834349), .lit (.int .u32 2952996808), .lit (.int .u32 3210313671), .lit (.int .u32 3336571891), .lit (.int .u32 3584528711), .lit (.int .u32 113926993), .lit (.int .u32 338241895), .lit (.int .u32 666307205), .lit (.int .u32 773529912), .lit (.int .u32 1294757372), .lit (.int .u32 1396182291), .lit (.int .u32 1695183700), .lit (.int .u32 1986661051), .lit (.int .u32 2177026350), .lit (.int .u32 2456956037), .lit (.int .u32 2730485921), .lit (.int .u32 2820302411), .lit (.int .u32 3259730800), .lit (.int .u32 3345764771), .lit (.int .u32 3516065817), .lit (.int .u32 3600352804), .lit (.int .u32 4094571909), .lit (.int .u32 275423344), .lit (.int .u32 430227734), .lit (.int .u32 506948616), .lit (.int .u32 659060556), .lit (.int .u32 883997877), .lit (.int .u32 958139571), .lit (.int .u32 1322822218), .lit (.int .u32 1537002063), .lit (.int .u32 1747873779), .lit (.int .u32 1955562222), .lit (.int .u32 2024104815), .lit (.int .u32 2227730452), .lit (.int .u32 2361852424), .lit (.int .u32 2428436474), .lit (.int .u32 2756734187), .lit (.int .u32 3204031479), .lit (.int .u32 3329325298)]
def laid_ledger_sha_rounds512 {H : Type} : DataW H := .agg [.lit (.int .u64 4794697086780616226), .lit (.int .u64 8158064640168781261), .lit (.int .u64 13096744586834688815), .lit (.int .u64 16840607885511220156), .lit (.int .u64 4131703408338449720), .lit (.int .u64 6480981068601479193), .lit (.int .u64 10538285296894168987), .lit (.int .u64 12329834152419229976), .lit (.int .u64 15566598209576043074), .lit (.int .u64 1334009975649890238), .lit (.int .u64 2608012711638119052), .lit (.int .u64 6128411473006802146), .lit (.int .u64 8268148722764581231), .lit (.int .u64 9286055187155687089), .lit (.int .u64 11230858885718282805), .lit (.int .u64 13951009754708518548), .lit (.int .u64 16472876342353939154), .lit (.int .u64 17275323862435702243), .lit (.int .u64 1135362057144423861), .lit (.int .u64 2597628984639134821), .lit (.int .u64 3308224258029322869), .lit (.int .u64 5365058923640841347), .lit (.int .u64 6679025012923562964), .lit (.int .u64 8573033837759648693), .lit (.int .u64 10970295158949994411), .lit (.int .u64 12119686244451234320), .lit (.int .u64 12683024718118986047), .lit (.int .u64 13788192230050041572), .lit (.int .u64 14330467153632333762), .lit (.int .u64 15395433587784984357), .lit (.int .u64 489312712824947311), .lit (.int .u64 1452737877330783856), .lit (.int .u64 2861767655752347644), .lit (.int .u64 3322285676063803686), .lit (.int .u64 5560940570517711597), .lit (.int .u64 5996557281743188959), .lit (.int .u64 7280758554555802590), .lit (.int .u64 8532644243296465576), .lit (.int .u64 9350256976987008742), .lit (.int .u64 10552545826968843579), .lit (.int .u64 11727347734174303076), .lit (.int .u64 12113106623233404929), .lit (.int .u64 14000437183269869457), .lit (.int .u64 14369950271660146224), .lit (.int .u64 15101387698204529176), .lit (.int .u64 15463397548674623760), .lit (.int .u64 17586052441742319658), .lit (.int .u64 1182934255886127544), .lit (.int .u64 1847814050463011016), .lit (.int .u64 2177327727835720531), .lit (.int .u64 2830643537854262169), .lit (.int .u64 3796741975233480872), .lit (.int .u64 4115178125766777443), .lit (.int .u64 5681478168544905931), .lit (.int .u64 6601373596472566643), .lit (.int .u64 7507060721942968483), .lit (.int .u64 8399075790359081724), .lit (.int .u64 8693463985226723168), .lit (.int .u64 9568029438360202098), .lit (.int .u64 10144078919501101548), .lit (.int .u64 10430055236837252648), .lit (.int .u64 11840083180663258601), .lit (.int .u64 13761210420658862357), .lit (.int .u64 14299343276471374635), .lit (.int .u64 14566680578165727644), .lit (.int .u64 15097957966210449927), .lit (.int .u64 16922976911328602910), .lit (.int .u64 17689382322260857208), .lit (.int .u64 500013540394364858), .lit (.int .u64 748580250866718886), .lit (.int .u64 1242879168328830382), .lit (.int .u64 1977374033974150939), .lit (.int .u64 2944078676154940804), .lit (.int .u64 3659926193048069267), .lit (.int .u64 4368137639120453308), .lit (.int .u64 4836135668995329356), .lit (.int .u64 5532061633213252278), .lit (.int .u64 6448918945643986474), .lit (.int .u64 6902733635092675308), .lit (.int .u64 7801388544844847127)]
def laid_ledger_ledgerref01_squares {H : Type} : DataW H := .agg [.lit (.int .u64 7640891576956012808), .lit (.int .u64 13503953896175478587), .lit (.int .u64 4354685564936845355), .lit (.int .u64 11912009170470909681), .lit (.int .u64 5840696475078001361), .lit (.int .u64 11170449401992604703), .lit (.int .u64 2270897969802886507), .lit (.int .u64 6620516959819538809)]
def laid_ledger_ledgerref01_turns {H : Type} : DataW H := .agg [.agg [.lit (.int .u64 0), .lit (.int .u64 0), .lit (.int .u64 0), .lit (.int .u64 0), .lit (.int .u64 0), .lit (.int .u64 0), .lit (.int .u64 0), .lit (.int .u64 0), .lit (.int .u64 0), .lit (.int .u64 0), .lit (.int .u64 0), .lit (.int .u64 0)], .agg [.lit (.int .u64 2), .lit (.int .u64 13), .lit (.int .u64 22), .lit (.int .u64 6), .lit (.int .u64 11), .lit (.int .u64 25), .lit (.int .u64 7), .lit (.int .u64 18), .lit (.int .u64 3), .lit (.int .u64 17), .lit (.int .u64 19), .lit (.int .u64 10)], .agg [.lit (.int .u64 28), .lit (.int .u64 34), .lit (.int .u64 39), .lit (.int .u64 14), .lit (.int .u64 18), .lit (.int .u64 41), .lit (.int .u64 1), .lit (.int .u64 8), .lit (.int .u64 7), .lit (.int .u64 19), .lit (.int .u64 61), .lit (.int .u64 6)]]
def laid_ledger_sha_turns256 {H : Type} : DataW H := .agg [.agg [.lit (.int .i64 2), .lit (.int .i64 13), .lit (.int .i64 22)], .agg [.lit (.int .i64 6), .lit (.int .i64 11), .lit (.int .i64 25)], .agg [.lit (.int .i64 7), .lit (.int .i64 18), .lit (.int .i64 3)], .agg [.lit (.int .i64 17), .lit (.int .i64 19), .lit (.int .i64 10)]]
def laid_ledger_sha_turns512 {H : Type} : DataW H := .agg [.agg [.lit (.int .i64 28), .lit (.int .i64 34), .lit (.int .i64 39)], .agg [.lit (.int .i64 14), .lit (.int .i64 18), .lit (.int .i64 41)], .agg [.lit (.int .i64 1), .lit (.int .i64 8), .lit (.int .i64 7)], .agg [.lit (.int .i64 19), .lit (.int .i64 61), .lit (.int .i64 6)]]
def laid_ledger_sha_starts {H : Type} : DataW H := .agg [.lit (.int .u64 7640891576956012808), .lit (.int .u64 13503953896175478587), .lit (.int .u64 4354685564936845355), .lit (.int .u64 11912009170470909681), .lit (.int .u64 5840696475078001361), .lit (.int .u64 11170449401992604703), .lit (.int .u64 2270897969802886507), .lit (.int .u64 6620516959819538809)]

/-- 'ledgerlaw01.ShaConstants': WHATEVER THE INPUT: true; the input reads as it did. -/
def shaConstantsSpec : ChangeSpec := { name := "shaConstants", fn := fun _ => fun
  | [d] => { results := [.lit (.bool true)], args := [d] }
  | _ => none }
def shaConstantsRow : OpenClaim := { program := "ytjcfnflkiialbaadoor", sum := "bde44adaa546e53858a5c9aa9f2dfd43c279cb2eda49c7e1bb73a4397cc3b90d", func := "ledger/ledgerlaw01.ShaConstants", spec := "shaConstants", named := ["ledger/sha.rounds256", "ledger/sha.rounds512", "ledger/ledgerref01.cubes"], apart := false, laid := [("ledger/ledgerref01.cubes", laid_ledger_ledgerref01_cubes), ("ledger/sha.rounds256", laid_ledger_sha_rounds256), ("ledger/sha.rounds512", laid_ledger_sha_rounds512)] }
def ShaConstantsSaid : Prop := shaConstantsRow.holds Tryd.pinned (OpenSpec.ofChange shaConstantsSpec)

/-- ITS FALSE NEIGHBOUR: 'it returns false'. Refute it at one input. -/
def shaConstantsWrong : ChangeSpec := { name := "shaConstants", fn := fun _ => fun
  | [d] => { results := [.lit (.bool false)], args := [d] }
  | _ => none }
def ShaConstantsWrongFalsely : Prop := shaConstantsRow.holds Tryd.pinned (OpenSpec.ofChange shaConstantsWrong)

/-- 'ledgerlaw01.ShaRoots': WHATEVER THE INPUT: true; the input reads as it did. -/
def shaRootsSpec : ChangeSpec := { name := "shaRoots", fn := fun _ => fun
  | [] => { results := [.lit (.bool true)], args := [] }
  | _ => none }
def shaRootsRow : OpenClaim := { program := "ytjcfnflkiialbaadoor", sum := "bde44adaa546e53858a5c9aa9f2dfd43c279cb2eda49c7e1bb73a4397cc3b90d", func := "ledger/ledgerlaw01.ShaRoots", spec := "shaRoots", named := ["ledger/sha.rounds256", "ledger/sha.rounds512"], apart := false, laid := [("ledger/sha.rounds256", laid_ledger_sha_rounds256), ("ledger/sha.rounds512", laid_ledger_sha_rounds512)] }
def ShaRootsSaid : Prop := shaRootsRow.holds Tryd.pinned (OpenSpec.ofChange shaRootsSpec)

/-- ITS FALSE NEIGHBOUR: 'it returns false'. Refute it at one input. -/
def shaRootsWrong : ChangeSpec := { name := "shaRoots", fn := fun _ => fun
  | [] => { results := [.lit (.bool false)], args := [] }
  | _ => none }
def ShaRootsWrongFalsely : Prop := shaRootsRow.holds Tryd.pinned (OpenSpec.ofChange shaRootsWrong)

/-- 'ledgerlaw01.ShaSums': WHATEVER THE INPUT: true; the input reads as it did. -/
def shaSumsSpec : ChangeSpec := { name := "shaSums", fn := fun _ => fun
  | [d] => { results := [.lit (.bool true)], args := [d] }
  | _ => none }
def shaSumsRow : OpenClaim := { program := "ytjcfnflkiialbaadoor", sum := "bde44adaa546e53858a5c9aa9f2dfd43c279cb2eda49c7e1bb73a4397cc3b90d", func := "ledger/ledgerlaw01.ShaSums", spec := "shaSums", named := ["ledger/sha.starts", "ledger/sha.rounds256", "ledger/sha.turns256", "ledger/sha.rounds512", "ledger/sha.turns512", "ledger/ledgerref01.squares", "ledger/ledgerref01.cubes", "ledger/ledgerref01.turns"], apart := false, laid := [("ledger/ledgerref01.squares", laid_ledger_ledgerref01_squares), ("ledger/ledgerref01.cubes", laid_ledger_ledgerref01_cubes), ("ledger/ledgerref01.turns", laid_ledger_ledgerref01_turns), ("ledger/sha.turns256", laid_ledger_sha_turns256), ("ledger/sha.turns512", laid_ledger_sha_turns512), ("ledger/sha.starts", laid_ledger_sha_starts), ("ledger/sha.rounds256", laid_ledger_sha_rounds256), ("ledger/sha.rounds512", laid_ledger_sha_rounds512)] }
def ShaSumsSaid : Prop := shaSumsRow.holds Tryd.pinned (OpenSpec.ofChange shaSumsSpec)

/-- ITS FALSE NEIGHBOUR: 'it returns false'. Refute it at one input. -/
def shaSumsWrong : ChangeSpec := { name := "shaSums", fn := fun _ => fun
  | [d] => { results := [.lit (.bool false)], args := [d] }
  | _ => none }
def ShaSumsWrongFalsely : Prop := shaSumsRow.holds Tryd.pinned (OpenSpec.ofChange shaSumsWrong)

/-- 'ledgerlaw01.ShaPieces': WHATEVER THE INPUT: true; the input reads as it did. -/
def shaPiecesSpec : ChangeSpec := { name := "shaPieces", fn := fun _ => fun
  | [d1, d2, d3] => { results := [.lit (.bool true)], args := [d1, d2, d3] }
  | _ => none }
def shaPiecesRow : OpenClaim := { program := "ytjcfnflkiialbaadoor", sum := "bde44adaa546e53858a5c9aa9f2dfd43c279cb2eda49c7e1bb73a4397cc3b90d", func := "ledger/ledgerlaw01.ShaPieces", spec := "shaPieces", named := ["ledger/sha.starts", "ledger/sha.rounds256", "ledger/sha.turns256", "ledger/sha.rounds512", "ledger/sha.turns512"], apart := false, laid := [("ledger/sha.turns256", laid_ledger_sha_turns256), ("ledger/sha.turns512", laid_ledger_sha_turns512), ("ledger/sha.starts", laid_ledger_sha_starts), ("ledger/sha.rounds256", laid_ledger_sha_rounds256), ("ledger/sha.rounds512", laid_ledger_sha_rounds512)] }
def ShaPiecesSaid : Prop := shaPiecesRow.holds Tryd.pinned (OpenSpec.ofChange shaPiecesSpec)

/-- ITS FALSE NEIGHBOUR: 'it returns false'. Refute it at one input. -/
def shaPiecesWrong : ChangeSpec := { name := "shaPieces", fn := fun _ => fun
  | [d1, d2, d3] => { results := [.lit (.bool false)], args := [d1, d2, d3] }
  | _ => none }
def ShaPiecesWrongFalsely : Prop := shaPiecesRow.holds Tryd.pinned (OpenSpec.ofChange shaPiecesWrong)

/-- 'ledgerlaw01.ShaTurns': WHATEVER THE INPUT: true; the input reads as it did. -/
def shaTurnsSpec : ChangeSpec := { name := "shaTurns", fn := fun _ => fun
  | [d] => { results := [.lit (.bool true)], args := [d] }
  | _ => none }
def shaTurnsRow : OpenClaim := { program := "ytjcfnflkiialbaadoor", sum := "bde44adaa546e53858a5c9aa9f2dfd43c279cb2eda49c7e1bb73a4397cc3b90d", func := "ledger/ledgerlaw01.ShaTurns", spec := "shaTurns", named := ["ledger/sha.starts", "ledger/sha.rounds256", "ledger/sha.turns256", "ledger/sha.rounds512", "ledger/sha.turns512"], apart := false, laid := [("ledger/sha.turns256", laid_ledger_sha_turns256), ("ledger/sha.turns512", laid_ledger_sha_turns512), ("ledger/sha.starts", laid_ledger_sha_starts), ("ledger/sha.rounds256", laid_ledger_sha_rounds256), ("ledger/sha.rounds512", laid_ledger_sha_rounds512)] }
def ShaTurnsSaid : Prop := shaTurnsRow.holds Tryd.pinned (OpenSpec.ofChange shaTurnsSpec)

/-- ITS FALSE NEIGHBOUR: 'it returns false'. Refute it at one input. -/
def shaTurnsWrong : ChangeSpec := { name := "shaTurns", fn := fun _ => fun
  | [d] => { results := [.lit (.bool false)], args := [d] }
  | _ => none }
def ShaTurnsWrongFalsely : Prop := shaTurnsRow.holds Tryd.pinned (OpenSpec.ofChange shaTurnsWrong)

/-- 'ledgerlaw01.ShaMacs': WHATEVER THE INPUT: true; the input reads as it did. -/
def shaMacsSpec : ChangeSpec := { name := "shaMacs", fn := fun _ => fun
  | [d1, d2] => { results := [.lit (.bool true)], args := [d1, d2] }
  | _ => none }
def shaMacsRow : OpenClaim := { program := "ytjcfnflkiialbaadoor", sum := "bde44adaa546e53858a5c9aa9f2dfd43c279cb2eda49c7e1bb73a4397cc3b90d", func := "ledger/ledgerlaw01.ShaMacs", spec := "shaMacs", named := ["ledger/sha.starts", "ledger/sha.rounds256", "ledger/sha.turns256", "ledger/sha.rounds512", "ledger/sha.turns512", "ledger/ledgerref01.squares", "ledger/ledgerref01.cubes", "ledger/ledgerref01.turns"], apart := false, laid := [("ledger/ledgerref01.squares", laid_ledger_ledgerref01_squares), ("ledger/ledgerref01.cubes", laid_ledger_ledgerref01_cubes), ("ledger/ledgerref01.turns", laid_ledger_ledgerref01_turns), ("ledger/sha.turns256", laid_ledger_sha_turns256), ("ledger/sha.turns512", laid_ledger_sha_turns512), ("ledger/sha.starts", laid_ledger_sha_starts), ("ledger/sha.rounds256", laid_ledger_sha_rounds256), ("ledger/sha.rounds512", laid_ledger_sha_rounds512)] }
def ShaMacsSaid : Prop := shaMacsRow.holds Tryd.pinned (OpenSpec.ofChange shaMacsSpec)

/-- ITS FALSE NEIGHBOUR: 'it returns false'. Refute it at one input. -/
def shaMacsWrong : ChangeSpec := { name := "shaMacs", fn := fun _ => fun
  | [d1, d2] => { results := [.lit (.bool false)], args := [d1, d2] }
  | _ => none }
def ShaMacsWrongFalsely : Prop := shaMacsRow.holds Tryd.pinned (OpenSpec.ofChange shaMacsWrong)

/-- 'ledgerlaw01.ShaMacBy': WHATEVER THE INPUT: true; the input reads as it did. -/
def shaMacBySpec : ChangeSpec := { name := "shaMacBy", fn := fun _ => fun
  | [d1, d2] => { results := [.lit (.bool true)], args := [d1, d2] }
  | _ => none }
def shaMacByRow : OpenClaim := { program := "ytjcfnflkiialbaadoor", sum := "bde44adaa546e53858a5c9aa9f2dfd43c279cb2eda49c7e1bb73a4397cc3b90d", func := "ledger/ledgerlaw01.ShaMacBy", spec := "shaMacBy", named := ["ledger/sha.starts", "ledger/sha.rounds256", "ledger/sha.turns256", "ledger/sha.rounds512", "ledger/sha.turns512"], apart := false, laid := [("ledger/sha.turns256", laid_ledger_sha_turns256), ("ledger/sha.turns512", laid_ledger_sha_turns512), ("ledger/sha.starts", laid_ledger_sha_starts), ("ledger/sha.rounds256", laid_ledger_sha_rounds256), ("ledger/sha.rounds512", laid_ledger_sha_rounds512)] }
def ShaMacBySaid : Prop := shaMacByRow.holds Tryd.pinned (OpenSpec.ofChange shaMacBySpec)

/-- ITS FALSE NEIGHBOUR: 'it returns false'. Refute it at one input. -/
def shaMacByWrong : ChangeSpec := { name := "shaMacBy", fn := fun _ => fun
  | [d1, d2] => { results := [.lit (.bool false)], args := [d1, d2] }
  | _ => none }
def ShaMacByWrongFalsely : Prop := shaMacByRow.holds Tryd.pinned (OpenSpec.ofChange shaMacByWrong)

/-- 'ledgerlaw01.ShaExtends': WHATEVER THE INPUT: true; the input reads as it did. -/
def shaExtendsSpec : ChangeSpec := { name := "shaExtends", fn := fun _ => fun
  | [d1, d2, d3] => { results := [.lit (.bool true)], args := [d1, d2, d3] }
  | _ => none }
def shaExtendsRow : OpenClaim := { program := "ytjcfnflkiialbaadoor", sum := "bde44adaa546e53858a5c9aa9f2dfd43c279cb2eda49c7e1bb73a4397cc3b90d", func := "ledger/ledgerlaw01.ShaExtends", spec := "shaExtends", named := ["ledger/sha.starts", "ledger/sha.rounds256", "ledger/sha.turns256", "ledger/sha.rounds512", "ledger/sha.turns512"], apart := false, laid := [("ledger/sha.turns256", laid_ledger_sha_turns256), ("ledger/sha.turns512", laid_ledger_sha_turns512), ("ledger/sha.starts", laid_ledger_sha_starts), ("ledger/sha.rounds256", laid_ledger_sha_rounds256), ("ledger/sha.rounds512", laid_ledger_sha_rounds512)] }
def ShaExtendsSaid : Prop := shaExtendsRow.holds Tryd.pinned (OpenSpec.ofChange shaExtendsSpec)

/-- ITS FALSE NEIGHBOUR: 'it returns false'. Refute it at one input. -/
def shaExtendsWrong : ChangeSpec := { name := "shaExtends", fn := fun _ => fun
  | [d1, d2, d3] => { results := [.lit (.bool false)], args := [d1, d2, d3] }
  | _ => none }
def ShaExtendsWrongFalsely : Prop := shaExtendsRow.holds Tryd.pinned (OpenSpec.ofChange shaExtendsWrong)

/-- 'ledgerlaw01.ShaForms': WHATEVER THE INPUT: true; the input reads as it did. -/
def shaFormsSpec : ChangeSpec := { name := "shaForms", fn := fun _ => fun
  | [d] => { results := [.lit (.bool true)], args := [d] }
  | _ => none }
def shaFormsRow : OpenClaim := { program := "ytjcfnflkiialbaadoor", sum := "bde44adaa546e53858a5c9aa9f2dfd43c279cb2eda49c7e1bb73a4397cc3b90d", func := "ledger/ledgerlaw01.ShaForms", spec := "shaForms", named := ["ledger/sha.starts", "ledger/sha.rounds256", "ledger/sha.turns256", "ledger/sha.rounds512", "ledger/sha.turns512"], apart := false, laid := [("ledger/sha.turns256", laid_ledger_sha_turns256), ("ledger/sha.turns512", laid_ledger_sha_turns512), ("ledger/sha.starts", laid_ledger_sha_starts), ("ledger/sha.rounds256", laid_ledger_sha_rounds256), ("ledger/sha.rounds512", laid_ledger_sha_rounds512)] }
def ShaFormsSaid : Prop := shaFormsRow.holds Tryd.pinned (OpenSpec.ofChange shaFormsSpec)

/-- ITS FALSE NEIGHBOUR: 'it returns false'. Refute it at one input. -/
def shaFormsWrong : ChangeSpec := { name := "shaForms", fn := fun _ => fun
  | [d] => { results := [.lit (.bool false)], args := [d] }
  | _ => none }
def ShaFormsWrongFalsely : Prop := shaFormsRow.holds Tryd.pinned (OpenSpec.ofChange shaFormsWrong)

/-- 'ledgerlaw01.ShaScripts': WHATEVER THE INPUT: true; the input reads as it did. -/
def shaScriptsSpec : ChangeSpec := { name := "shaScripts", fn := fun _ => fun
  | [d] => { results := [.lit (.bool true)], args := [d] }
  | _ => none }
def shaScriptsRow : OpenClaim := { program := "ytjcfnflkiialbaadoor", sum := "bde44adaa546e53858a5c9aa9f2dfd43c279cb2eda49c7e1bb73a4397cc3b90d", func := "ledger/ledgerlaw01.ShaScripts", spec := "shaScripts", named := ["ledger/sha.starts", "ledger/ledgerref01.squares", "ledger/sha.rounds256", "ledger/sha.turns256", "ledger/sha.rounds512", "ledger/sha.turns512", "ledger/ledgerref01.cubes", "ledger/ledgerref01.turns"], apart := false, laid := [("ledger/ledgerref01.squares", laid_ledger_ledgerref01_squares), ("ledger/ledgerref01.cubes", laid_ledger_ledgerref01_cubes), ("ledger/ledgerref01.turns", laid_ledger_ledgerref01_turns), ("ledger/sha.turns256", laid_ledger_sha_turns256), ("ledger/sha.turns512", laid_ledger_sha_turns512), ("ledger/sha.starts", laid_ledger_sha_starts), ("ledger/sha.rounds256", laid_ledger_sha_rounds256), ("ledger/sha.rounds512", laid_ledger_sha_rounds512)] }
def ShaScriptsSaid : Prop := shaScriptsRow.holds Tryd.pinned (OpenSpec.ofChange shaScriptsSpec)

/-- ITS FALSE NEIGHBOUR: 'it returns false'. Refute it at one input. -/
def shaScriptsWrong : ChangeSpec := { name := "shaScripts", fn := fun _ => fun
  | [d] => { results := [.lit (.bool false)], args := [d] }
  | _ => none }
def ShaScriptsWrongFalsely : Prop := shaScriptsRow.holds Tryd.pinned (OpenSpec.ofChange shaScriptsWrong)

/-- 'ledgerlaw01.ShaGoesOn': WHATEVER THE INPUT: true; the input reads as it did. -/
def shaGoesOnSpec : ChangeSpec := { name := "shaGoesOn", fn := fun _ => fun
  | [d1, d2, d3, d4] => { results := [.lit (.bool true)], args := [d1, d2, d3, d4] }
  | _ => none }
def shaGoesOnRow : OpenClaim := { program := "ytjcfnflkiialbaadoor", sum := "bde44adaa546e53858a5c9aa9f2dfd43c279cb2eda49c7e1bb73a4397cc3b90d", func := "ledger/ledgerlaw01.ShaGoesOn", spec := "shaGoesOn", named := ["ledger/sha.starts", "ledger/sha.rounds256", "ledger/sha.turns256", "ledger/sha.rounds512", "ledger/sha.turns512"], apart := false, laid := [("ledger/sha.turns256", laid_ledger_sha_turns256), ("ledger/sha.turns512", laid_ledger_sha_turns512), ("ledger/sha.starts", laid_ledger_sha_starts), ("ledger/sha.rounds256", laid_ledger_sha_rounds256), ("ledger/sha.rounds512", laid_ledger_sha_rounds512)] }
def ShaGoesOnSaid : Prop := shaGoesOnRow.holds Tryd.pinned (OpenSpec.ofChange shaGoesOnSpec)

/-- ITS FALSE NEIGHBOUR: 'it returns false'. Refute it at one input. -/
def shaGoesOnWrong : ChangeSpec := { name := "shaGoesOn", fn := fun _ => fun
  | [d1, d2, d3, d4] => { results := [.lit (.bool false)], args := [d1, d2, d3, d4] }
  | _ => none }
def ShaGoesOnWrongFalsely : Prop := shaGoesOnRow.holds Tryd.pinned (OpenSpec.ofChange shaGoesOnWrong)

/- THE SECOND FORM. 'bulk': how many values and letters a reading holds, each counted each time it is reached (what is shared counts as often as it is met; a slice's spare places count too). A statement '..UptoSaid' is the law's where the arguments, and the package variables that the reading takes, are together of bulk at most 1048576: NARROWER than '..Said'. Prove '..Said' where nothing that the law and all that it calls make is longer than what came in: it says more and counts as full. Else prove '..UptoSaid'. A law counts once. -/
mutual
def uptoBulk {H : Type} : DataW H → Nat
  | .lit (.string bytes) => bytes.length + 1
  | .lit _ => 1
  | .nil => 1
  | .ptr d => uptoBulk d + 1
  | .slice elems spare => uptoBulkAll elems + uptoBulkAll spare + 1
  | .agg parts => uptoBulkAll parts + 1
  | .iface _ d => uptoBulk d + 1
  | .map entries => uptoBulkEntries entries + 1
  | .held _ => 1
def uptoBulkAll {H : Type} : List (DataW H) → Nat
  | [] => 0
  | d :: r => uptoBulk d + uptoBulkAll r
def uptoBulkEntries {H : Type} : List (Lit × DataW H) → Nat
  | [] => 0
  | x :: r => uptoBulkEntry x + uptoBulkEntries r
def uptoBulkEntry {H : Type} : Lit × DataW H → Nat
  | (.string bytes, d) => bytes.length + uptoBulk d + 1
  | (_, d) => uptoBulk d + 1
 end
def uptoSmall : (H : Type) → List (DataW H) → Bool := fun _ ds => decide (uptoBulkAll ds ≤ 1048576)
def OpenSpec.upto (s : _root_.Go.ChangeSpec) : _root_.Go.OpenSpec := { _root_.Go.OpenSpec.ofChange s with cond := some uptoSmall }

/-- 'ledgerlaw01.ShaConstants', WHERE WHAT IT READS IS OF BULK AT MOST 1048576: true; the input reads as it did. -/
def shaConstantsUptoRow : OpenClaim := { program := "ytjcfnflkiialbaadoor", sum := "bde44adaa546e53858a5c9aa9f2dfd43c279cb2eda49c7e1bb73a4397cc3b90d", func := "ledger/ledgerlaw01.ShaConstants", spec := "shaConstants", named := ["ledger/sha.rounds256", "ledger/sha.rounds512", "ledger/ledgerref01.cubes"], apart := false, laid := [("ledger/ledgerref01.cubes", laid_ledger_ledgerref01_cubes), ("ledger/sha.rounds256", laid_ledger_sha_rounds256), ("ledger/sha.rounds512", laid_ledger_sha_rounds512)], narrowed := true }
def ShaConstantsUptoSaid : Prop := shaConstantsUptoRow.holds Tryd.pinned (OpenSpec.upto shaConstantsSpec)

/-- 'ledgerlaw01.ShaRoots', WHERE WHAT IT READS IS OF BULK AT MOST 1048576: true; the input reads as it did. -/
def shaRootsUptoRow : OpenClaim := { program := "ytjcfnflkiialbaadoor", sum := "bde44adaa546e53858a5c9aa9f2dfd43c279cb2eda49c7e1bb73a4397cc3b90d", func := "ledger/ledgerlaw01.ShaRoots", spec := "shaRoots", named := ["ledger/sha.rounds256", "ledger/sha.rounds512"], apart := false, laid := [("ledger/sha.rounds256", laid_ledger_sha_rounds256), ("ledger/sha.rounds512", laid_ledger_sha_rounds512)], narrowed := true }
def ShaRootsUptoSaid : Prop := shaRootsUptoRow.holds Tryd.pinned (OpenSpec.upto shaRootsSpec)

/-- 'ledgerlaw01.ShaSums', WHERE WHAT IT READS IS OF BULK AT MOST 1048576: true; the input reads as it did. -/
def shaSumsUptoRow : OpenClaim := { program := "ytjcfnflkiialbaadoor", sum := "bde44adaa546e53858a5c9aa9f2dfd43c279cb2eda49c7e1bb73a4397cc3b90d", func := "ledger/ledgerlaw01.ShaSums", spec := "shaSums", named := ["ledger/sha.starts", "ledger/sha.rounds256", "ledger/sha.turns256", "ledger/sha.rounds512", "ledger/sha.turns512", "ledger/ledgerref01.squares", "ledger/ledgerref01.cubes", "ledger/ledgerref01.turns"], apart := false, laid := [("ledger/ledgerref01.squares", laid_ledger_ledgerref01_squares), ("ledger/ledgerref01.cubes", laid_ledger_ledgerref01_cubes), ("ledger/ledgerref01.turns", laid_ledger_ledgerref01_turns), ("ledger/sha.turns256", laid_ledger_sha_turns256), ("ledger/sha.turns512", laid_ledger_sha_turns512), ("ledger/sha.starts", laid_ledger_sha_starts), ("ledger/sha.rounds256", laid_ledger_sha_rounds256), ("ledger/sha.rounds512", laid_ledger_sha_rounds512)], narrowed := true }
def ShaSumsUptoSaid : Prop := shaSumsUptoRow.holds Tryd.pinned (OpenSpec.upto shaSumsSpec)

/-- 'ledgerlaw01.ShaPieces', WHERE WHAT IT READS IS OF BULK AT MOST 1048576: true; the input reads as it did. -/
def shaPiecesUptoRow : OpenClaim := { program := "ytjcfnflkiialbaadoor", sum := "bde44adaa546e53858a5c9aa9f2dfd43c279cb2eda49c7e1bb73a4397cc3b90d", func := "ledger/ledgerlaw01.ShaPieces", spec := "shaPieces", named := ["ledger/sha.starts", "ledger/sha.rounds256", "ledger/sha.turns256", "ledger/sha.rounds512", "ledger/sha.turns512"], apart := false, laid := [("ledger/sha.turns256", laid_ledger_sha_turns256), ("ledger/sha.turns512", laid_ledger_sha_turns512), ("ledger/sha.starts", laid_ledger_sha_starts), ("ledger/sha.rounds256", laid_ledger_sha_rounds256), ("ledger/sha.rounds512", laid_ledger_sha_rounds512)], narrowed := true }
def ShaPiecesUptoSaid : Prop := shaPiecesUptoRow.holds Tryd.pinned (OpenSpec.upto shaPiecesSpec)

/-- 'ledgerlaw01.ShaTurns', WHERE WHAT IT READS IS OF BULK AT MOST 1048576: true; the input reads as it did. -/
def shaTurnsUptoRow : OpenClaim := { program := "ytjcfnflkiialbaadoor", sum := "bde44adaa546e53858a5c9aa9f2dfd43c279cb2eda49c7e1bb73a4397cc3b90d", func := "ledger/ledgerlaw01.ShaTurns", spec := "shaTurns", named := ["ledger/sha.starts", "ledger/sha.rounds256", "ledger/sha.turns256", "ledger/sha.rounds512", "ledger/sha.turns512"], apart := false, laid := [("ledger/sha.turns256", laid_ledger_sha_turns256), ("ledger/sha.turns512", laid_ledger_sha_turns512), ("ledger/sha.starts", laid_ledger_sha_starts), ("ledger/sha.rounds256", laid_ledger_sha_rounds256), ("ledger/sha.rounds512", laid_ledger_sha_rounds512)], narrowed := true }
def ShaTurnsUptoSaid : Prop := shaTurnsUptoRow.holds Tryd.pinned (OpenSpec.upto shaTurnsSpec)

/-- 'ledgerlaw01.ShaMacs', WHERE WHAT IT READS IS OF BULK AT MOST 1048576: true; the input reads as it did. -/
def shaMacsUptoRow : OpenClaim := { program := "ytjcfnflkiialbaadoor", sum := "bde44adaa546e53858a5c9aa9f2dfd43c279cb2eda49c7e1bb73a4397cc3b90d", func := "ledger/ledgerlaw01.ShaMacs", spec := "shaMacs", named := ["ledger/sha.starts", "ledger/sha.rounds256", "ledger/sha.turns256", "ledger/sha.rounds512", "ledger/sha.turns512", "ledger/ledgerref01.squares", "ledger/ledgerref01.cubes", "ledger/ledgerref01.turns"], apart := false, laid := [("ledger/ledgerref01.squares", laid_ledger_ledgerref01_squares), ("ledger/ledgerref01.cubes", laid_ledger_ledgerref01_cubes), ("ledger/ledgerref01.turns", laid_ledger_ledgerref01_turns), ("ledger/sha.turns256", laid_ledger_sha_turns256), ("ledger/sha.turns512", laid_ledger_sha_turns512), ("ledger/sha.starts", laid_ledger_sha_starts), ("ledger/sha.rounds256", laid_ledger_sha_rounds256), ("ledger/sha.rounds512", laid_ledger_sha_rounds512)], narrowed := true }
def ShaMacsUptoSaid : Prop := shaMacsUptoRow.holds Tryd.pinned (OpenSpec.upto shaMacsSpec)

/-- 'ledgerlaw01.ShaMacBy', WHERE WHAT IT READS IS OF BULK AT MOST 1048576: true; the input reads as it did. -/
def shaMacByUptoRow : OpenClaim := { program := "ytjcfnflkiialbaadoor", sum := "bde44adaa546e53858a5c9aa9f2dfd43c279cb2eda49c7e1bb73a4397cc3b90d", func := "ledger/ledgerlaw01.ShaMacBy", spec := "shaMacBy", named := ["ledger/sha.starts", "ledger/sha.rounds256", "ledger/sha.turns256", "ledger/sha.rounds512", "ledger/sha.turns512"], apart := false, laid := [("ledger/sha.turns256", laid_ledger_sha_turns256), ("ledger/sha.turns512", laid_ledger_sha_turns512), ("ledger/sha.starts", laid_ledger_sha_starts), ("ledger/sha.rounds256", laid_ledger_sha_rounds256), ("ledger/sha.rounds512", laid_ledger_sha_rounds512)], narrowed := true }
def ShaMacByUptoSaid : Prop := shaMacByUptoRow.holds Tryd.pinned (OpenSpec.upto shaMacBySpec)

/-- 'ledgerlaw01.ShaExtends', WHERE WHAT IT READS IS OF BULK AT MOST 1048576: true; the input reads as it did. -/
def shaExtendsUptoRow : OpenClaim := { program := "ytjcfnflkiialbaadoor", sum := "bde44adaa546e53858a5c9aa9f2dfd43c279cb2eda49c7e1bb73a4397cc3b90d", func := "ledger/ledgerlaw01.ShaExtends", spec := "shaExtends", named := ["ledger/sha.starts", "ledger/sha.rounds256", "ledger/sha.turns256", "ledger/sha.rounds512", "ledger/sha.turns512"], apart := false, laid := [("ledger/sha.turns256", laid_ledger_sha_turns256), ("ledger/sha.turns512", laid_ledger_sha_turns512), ("ledger/sha.starts", laid_ledger_sha_starts), ("ledger/sha.rounds256", laid_ledger_sha_rounds256), ("ledger/sha.rounds512", laid_ledger_sha_rounds512)], narrowed := true }
def ShaExtendsUptoSaid : Prop := shaExtendsUptoRow.holds Tryd.pinned (OpenSpec.upto shaExtendsSpec)

/-- 'ledgerlaw01.ShaForms', WHERE WHAT IT READS IS OF BULK AT MOST 1048576: true; the input reads as it did. -/
def shaFormsUptoRow : OpenClaim := { program := "ytjcfnflkiialbaadoor", sum := "bde44adaa546e53858a5c9aa9f2dfd43c279cb2eda49c7e1bb73a4397cc3b90d", func := "ledger/ledgerlaw01.ShaForms", spec := "shaForms", named := ["ledger/sha.starts", "ledger/sha.rounds256", "ledger/sha.turns256", "ledger/sha.rounds512", "ledger/sha.turns512"], apart := false, laid := [("ledger/sha.turns256", laid_ledger_sha_turns256), ("ledger/sha.turns512", laid_ledger_sha_turns512), ("ledger/sha.starts", laid_ledger_sha_starts), ("ledger/sha.rounds256", laid_ledger_sha_rounds256), ("ledger/sha.rounds512", laid_ledger_sha_rounds512)], narrowed := true }
def ShaFormsUptoSaid : Prop := shaFormsUptoRow.holds Tryd.pinned (OpenSpec.upto shaFormsSpec)

/-- 'ledgerlaw01.ShaScripts', WHERE WHAT IT READS IS OF BULK AT MOST 1048576: true; the input reads as it did. -/
def shaScriptsUptoRow : OpenClaim := { program := "ytjcfnflkiialbaadoor", sum := "bde44adaa546e53858a5c9aa9f2dfd43c279cb2eda49c7e1bb73a4397cc3b90d", func := "ledger/ledgerlaw01.ShaScripts", spec := "shaScripts", named := ["ledger/sha.starts", "ledger/ledgerref01.squares", "ledger/sha.rounds256", "ledger/sha.turns256", "ledger/sha.rounds512", "ledger/sha.turns512", "ledger/ledgerref01.cubes", "ledger/ledgerref01.turns"], apart := false, laid := [("ledger/ledgerref01.squares", laid_ledger_ledgerref01_squares), ("ledger/ledgerref01.cubes", laid_ledger_ledgerref01_cubes), ("ledger/ledgerref01.turns", laid_ledger_ledgerref01_turns), ("ledger/sha.turns256", laid_ledger_sha_turns256), ("ledger/sha.turns512", laid_ledger_sha_turns512), ("ledger/sha.starts", laid_ledger_sha_starts), ("ledger/sha.rounds256", laid_ledger_sha_rounds256), ("ledger/sha.rounds512", laid_ledger_sha_rounds512)], narrowed := true }
def ShaScriptsUptoSaid : Prop := shaScriptsUptoRow.holds Tryd.pinned (OpenSpec.upto shaScriptsSpec)

/-- 'ledgerlaw01.ShaGoesOn', WHERE WHAT IT READS IS OF BULK AT MOST 1048576: true; the input reads as it did. -/
def shaGoesOnUptoRow : OpenClaim := { program := "ytjcfnflkiialbaadoor", sum := "bde44adaa546e53858a5c9aa9f2dfd43c279cb2eda49c7e1bb73a4397cc3b90d", func := "ledger/ledgerlaw01.ShaGoesOn", spec := "shaGoesOn", named := ["ledger/sha.starts", "ledger/sha.rounds256", "ledger/sha.turns256", "ledger/sha.rounds512", "ledger/sha.turns512"], apart := false, laid := [("ledger/sha.turns256", laid_ledger_sha_turns256), ("ledger/sha.turns512", laid_ledger_sha_turns512), ("ledger/sha.starts", laid_ledger_sha_starts), ("ledger/sha.rounds256", laid_ledger_sha_rounds256), ("ledger/sha.rounds512", laid_ledger_sha_rounds512)], narrowed := true }
def ShaGoesOnUptoSaid : Prop := shaGoesOnUptoRow.holds Tryd.pinned (OpenSpec.upto shaGoesOnSpec)

end Rows
end Go.Proofs.YtjcfnflkiialbaaDoor
