/- Plain laws of chapter 27 (enter): bytes as numbers: EnterComes. -/
import Derived.Test.YtakijieekhbhfaaEngP27
import Derived.Test.YtakijieekhbhfaaEngB0
import Derived.Test.YtakijieekhbhfaaEngR15
